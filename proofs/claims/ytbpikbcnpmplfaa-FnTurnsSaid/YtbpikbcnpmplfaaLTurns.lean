/- The walk of the law FnTurns: it returns true. Conditions: none. -/
import Derived.Test.YtbpikbcnpmplfaaFt2
import Derived.Test.YtbpikbcnpmplfaaDr9
import Derived.Test.YtbpikbcnpmplfaaLst
import Derived.Test.YtbpikbcnpmplfaaByt
import Derived.Deep.DrawnRows
import Derived.Deep.Cut
import Derived.Deep.CutRange
import Derived.Deep.DeepCutAuto
namespace Go.Proofs.Ytbpikbcnpmplfaa.fnTurns
open Go.RowKit
set_option linter.unusedVariables false
set_option linter.unusedSimpArgs false
attribute [local go_sem ↓] Go.wp_at_zero Go.wp_at_succ
set_option maxRecDepth 100000 in
set_option maxHeartbeats 16000000 in
theorem walk (A : Option Addr) (c : Nat) (xs : List Int) (w : World) (hx : xs.length ≤ c ∧ Cells w A (ByteK.row xs) ∧ xs.length ≤ maxLen ∧ ∀ x ∈ xs, ByteK.fit x) :
    Calls Try.prog 5 #[.slice A xs.length c] w fun e w' => e = .returned (.bool true) ∧ Below w.heap.size w w' := by
  have S := Lib.hid (Lst.mk (Below.refl w.heap.size w) (bytesC_of hx.2.1 hx.2.2.2))
  clear hx
  by_cases hbig : 65536 < xs.length
  · have hd : decide (65536 < xs.length) = true := decide_eq_true hbig
    go_enter Try.func5, Try.ntmps5
    go_wp2_with fail
    refine (vBig_any A _ c w).mono ?_
    rintro e w1 ⟨rfl, hb⟩
    rw [hd]
    go_wp2
    go_ret
    exact ⟨rfl, hb⟩
  have hd : decide (65536 < xs.length) = false := decide_eq_false hbig
  have hxl : xs.length ≤ 65536 := by omega
  clear hbig
  go_enter Try.func5, Try.ntmps5
  go_wp2_with fail
  refine (vBig_any A _ c w).mono ?_
  rintro e v1 ⟨rfl, hb⟩
  replace S := Lib.hid (S.out.call hb)
  rw [hd]
  clear hd hb
  have hlo := S.out.sz
  go_wp2_with fail
  refine (DrawYieldFloor_any A _ c v1 S.out.bytes hxl).mono ?_
  rintro e v2 ⟨Pf, pf, Df, df, f, rfl, ⟨ow1, ow2⟩, hlf1, hlf2, hb⟩
  replace S := Lib.hid (S.out.call hb)
  clear hb
  have Of1 := Lib.hid (OwD.low (show OwD IntK 3 _ v2 Pf pf f.wt from ow1) hlo)
  have Of2 := Lib.hid (OwD.low (show OwD ShareK 43 _ v2 Df df f.sh from ow2) hlo)
  clear ow1 ow2 hlo
  have hqf := S.out.sz
  have Bf := Lib.hid (BT.new v2 #[.int .i64 f.t, .int .i64 f.s, .int .i64 f.sp, .slice Pf f.wt.length pf, .slice Df f.sh.length df] 29 v2.heap.size rfl)
  have hbl := below1 v2 (.cells #[.int .i64 f.t, .int .i64 f.s, .int .i64 f.sp, .slice Pf f.wt.length pf, .slice Df f.sh.length df] 29)
  replace S := Lib.hid (S.out.call hbl)
  replace Of1 := Lib.hid (Of1.out.call hbl)
  replace Of2 := Lib.hid (Of2.out.call hbl)
  clear hbl
  go_upto_region 4 with fail
  generalize (v2.alloc (.cells #[.int .i64 f.t, .int .i64 f.s, .int .i64 f.sp, .slice Pf f.wt.length pf, .slice Df f.sh.length df] 29)) = v3 at *
  generalize v2.heap.size = qf at *
  have hlo := S.out.sz
  go_wp2_with (refine wpList_load_mid rfl 29 _ rfl qf 0 rfl [.int .i64 f.t, .int .i64 f.s, .int .i64 f.sp, .slice Pf f.wt.length pf, .slice Df f.sh.length df] _ Bf.out.rng Try.underlying29 rfl (by kernel_rfl) ?_)
  refine (iYieldFloor ⟨Of1.out.rd, Of2.out.rd⟩).mono ?_
  rintro e v4 ⟨Pg, pg, Dg, dg, rfl, ow1, ow2, hb⟩
  replace S := Lib.hid (S.out.call hb)
  replace Of1 := Lib.hid (Of1.out.call hb)
  replace Of2 := Lib.hid (Of2.out.call hb)
  replace Bf := Lib.hid (Bf.out.call hb)
  clear hb
  have Og1 := Lib.hid (OwD.low (show OwD IntK 3 _ v4 Pg pg (yfF f).wt from ow1) hlo)
  have Og2 := Lib.hid (OwD.low (show OwD ShareK 43 _ v4 Dg dg (yfF f).sh from ow2) hlo)
  clear ow1 ow2 hlo
  obtain ⟨g, Hg⟩ : ∃ x, Hid (yfF f = x) := ⟨_, Lib.hid rfl⟩
  rw [Hg.out] at Og1 Og2 ⊢
  have hqg := S.out.sz
  have hqf_qg := Bf.out.lt
  have Bg := Lib.hid (BT.new v4 #[.int .i64 g.t, .int .i64 g.s, .int .i64 g.sp, .slice Pg g.wt.length pg, .slice Dg g.sh.length dg] 29 v4.heap.size rfl)
  have hbl := below1 v4 (.cells #[.int .i64 g.t, .int .i64 g.s, .int .i64 g.sp, .slice Pg g.wt.length pg, .slice Dg g.sh.length dg] 29)
  replace S := Lib.hid (S.out.call hbl)
  replace Of1 := Lib.hid (Of1.out.call hbl)
  replace Of2 := Lib.hid (Of2.out.call hbl)
  replace Bf := Lib.hid (Bf.out.call hbl)
  replace Og1 := Lib.hid (Og1.out.call hbl)
  replace Og2 := Lib.hid (Og2.out.call hbl)
  clear hbl
  go_upto_region 5 with fail
  generalize (v4.alloc (.cells #[.int .i64 g.t, .int .i64 g.s, .int .i64 g.sp, .slice Pg g.wt.length pg, .slice Dg g.sh.length dg] 29)) = v5 at *
  generalize v4.heap.size = qg at *
  have hlo := S.out.sz
  go_wp2_with (refine wpList_load_mid rfl 29 _ rfl qf 0 rfl [.int .i64 f.t, .int .i64 f.s, .int .i64 f.sp, .slice Pf f.wt.length pf, .slice Df f.sh.length df] _ Bf.out.rng Try.underlying29 rfl (by kernel_rfl) ?_)
  refine (rYieldFloor ⟨Of1.out.rd, Of2.out.rd⟩).mono ?_
  rintro e v6 ⟨Ph, ph, Dh, dh, rfl, ow1, ow2, hb⟩
  replace S := Lib.hid (S.out.call hb)
  replace Of1 := Lib.hid (Of1.out.call hb)
  replace Of2 := Lib.hid (Of2.out.call hb)
  replace Bf := Lib.hid (Bf.out.call hb)
  replace Og1 := Lib.hid (Og1.out.call hb)
  replace Og2 := Lib.hid (Og2.out.call hb)
  replace Bg := Lib.hid (Bg.out.call hb)
  clear hb
  have Oh1 := Lib.hid (OwD.low (show OwD IntK 3 _ v6 Ph ph (yfF f).wt from ow1) hlo)
  have Oh2 := Lib.hid (OwD.low (show OwD ShareK 43 _ v6 Dh dh (yfF f).sh from ow2) hlo)
  clear ow1 ow2 hlo
  rw [Hg.out] at Oh1 Oh2 ⊢
  have hqh := S.out.sz
  have hqf_qh := Bf.out.lt
  have hqg_qh := Bg.out.lt
  have Bh := Lib.hid (BT.new v6 #[.int .i64 g.t, .int .i64 g.s, .int .i64 g.sp, .slice Ph g.wt.length ph, .slice Dh g.sh.length dh] 29 v6.heap.size rfl)
  have hbl := below1 v6 (.cells #[.int .i64 g.t, .int .i64 g.s, .int .i64 g.sp, .slice Ph g.wt.length ph, .slice Dh g.sh.length dh] 29)
  replace S := Lib.hid (S.out.call hbl)
  replace Of1 := Lib.hid (Of1.out.call hbl)
  replace Of2 := Lib.hid (Of2.out.call hbl)
  replace Bf := Lib.hid (Bf.out.call hbl)
  replace Og1 := Lib.hid (Og1.out.call hbl)
  replace Og2 := Lib.hid (Og2.out.call hbl)
  replace Bg := Lib.hid (Bg.out.call hbl)
  replace Oh1 := Lib.hid (Oh1.out.call hbl)
  replace Oh2 := Lib.hid (Oh2.out.call hbl)
  clear hbl
  go_upto_region 6 with fail
  generalize (v6.alloc (.cells #[.int .i64 g.t, .int .i64 g.s, .int .i64 g.sp, .slice Ph g.wt.length ph, .slice Dh g.sh.length dh] 29)) = v7 at *
  generalize v6.heap.size = qh at *
  have kb : (yfB f != yfB f) = false := by simp
  have bg0 := Bg.out.box.1 0 _ rfl
  have bg1 := Bg.out.box.1 1 _ rfl
  have bg2 := Bg.out.box.1 2 _ rfl
  have bg3 := Bg.out.box.1 3 _ rfl
  have bg4 := Bg.out.box.1 4 _ rfl
  have bh0 := Bh.out.box.1 0 _ rfl
  have bh1 := Bh.out.box.1 1 _ rfl
  have bh2 := Bh.out.box.1 2 _ rfl
  have bh3 := Bh.out.box.1 3 _ rfl
  have bh4 := Bh.out.box.1 4 _ rfl
  go_wp2_with fail
  refine (vFloor_same ⟨Og1.out.rd, Og2.out.rd⟩ ⟨Oh1.out.rd, Oh2.out.rd⟩).mono ?_
  rintro e v8 ⟨rfl, hb⟩
  replace S := Lib.hid (S.out.call hb)
  replace Of1 := Lib.hid (Of1.out.call hb)
  replace Of2 := Lib.hid (Of2.out.call hb)
  replace Bf := Lib.hid (Bf.out.call hb)
  replace Og1 := Lib.hid (Og1.out.call hb)
  replace Og2 := Lib.hid (Og2.out.call hb)
  replace Bg := Lib.hid (Bg.out.call hb)
  replace Oh1 := Lib.hid (Oh1.out.call hb)
  replace Oh2 := Lib.hid (Oh2.out.call hb)
  replace Bh := Lib.hid (Bh.out.call hb)
  clear hb bg0 bg1 bg2 bg3 bg4 bh0 bh1 bh2 bh3 bh4
  clear Bh Oh1 Oh2
  clear kb
  go_upto_if 57 with fail
  go_cut [5, 7] (fun u v wx => Hid (Lst w wx A xs.length))
  case first =>
    rcases Bool.eq_false_or_eq_true (yfB f) with hk | hk
    · rw [hk]
      obtain ⟨hvf, hvg, hsum, hsp, hwt⟩ := yf_law hk
      rw [Hg.out] at hvg hsum hsp hwt
      have HVF := Lib.hid hvf
      have HVG := Lib.hid hvg
      have HSU := Lib.hid hsum
      have HSP := Lib.hid hsp
      have HWT := Lib.hid hwt
      have hlg := hvg.sh99
      clear hvf hvg hsum hsp hwt hk
      have bf4 := Bf.out.box.1 4 _ rfl
      have bg4 := Bg.out.box.1 4 _ rfl
      go_wp2
      go_loop [8, 10] (fun s i => ∃ k : Nat, k ≤ f.sh.length ∧ s = .int .i64 (sumT (f.sh.take k)) ∧ i = .int .i64 k) (fun _ i => f.sh.length - (intOf i).toNat)
      case atStart => exact ⟨0, Nat.zero_le _, by simp [sumT], rfl⟩
      case round =>
        obtain ⟨k, hk, rfl, rfl⟩ := hrel
        by_cases hlt : k < f.sh.length
        · obtain ⟨a, ha, hc0, hc1, hc2⟩ := share_at Of2.out.rd.cells hlt
          subst ha
          have i1 : (k : Int) < (f.sh.length : Int) := by omega
          have q1 : IntKind.i64.wrap (sumT (f.sh.take k) + f.sh[k].t) = sumT (f.sh.take (k + 1)) := by (have h1 := sumT_bd HVF.out (k + 1)); rw [IntKind.wrap_i64, ← sumT_take hlt]; omega
          skip
          go_wp2
          go_round
          case rel => exact ⟨k + 1, hlt, rfl, by go_num⟩
          case measure => (first | (simp [intOf]; done) | (simp [intOf]; omega))
        · obtain rfl : k = f.sh.length := by omega
          rw [List.take_length]
          go_wp2
          go_loop [9, 11] (fun s i => ∃ k : Nat, k ≤ g.sh.length ∧ s = .int .i64 (sumT (g.sh.take k)) ∧ i = .int .i64 k) (fun _ i => g.sh.length - (intOf i).toNat)
          case atStart => exact ⟨0, Nat.zero_le _, by simp [sumT], rfl⟩
          case round =>
            obtain ⟨k, hk, rfl, rfl⟩ := hrel
            by_cases hlt : k < g.sh.length
            · obtain ⟨a, ha, hc0, hc1, hc2⟩ := share_at Og2.out.rd.cells hlt
              subst ha
              have i1 : (k : Int) < (g.sh.length : Int) := by omega
              have q1 : IntKind.i64.wrap (sumT (g.sh.take k) + g.sh[k].t) = sumT (g.sh.take (k + 1)) := by (have h1 := sumT_bd HVG.out (k + 1)); rw [IntKind.wrap_i64, ← sumT_take hlt]; omega
              skip
              go_wp2
              go_round
              case rel => exact ⟨k + 1, hlt, rfl, by go_num⟩
              case measure => (first | (simp [intOf]; done) | (simp [intOf]; omega))
            · obtain rfl : k = g.sh.length := by omega
              rw [List.take_length]
              have bg0 := Bg.out.box.1 0 _ rfl
              have bg1 := Bg.out.box.1 1 _ rfl
              have bg2 := Bg.out.box.1 2 _ rfl
              have bg3 := Bg.out.box.1 3 _ rfl
              have bg4 := Bg.out.box.1 4 _ rfl
              have bf0 := Bf.out.box.1 0 _ rfl
              have bf1 := Bf.out.box.1 1 _ rfl
              have bf2 := Bf.out.box.1 2 _ rfl
              have bf3 := Bf.out.box.1 3 _ rfl
              have bf4 := Bf.out.box.1 4 _ rfl
              have k1 : IntKind.i64.wrap (sumT f.sh + 1) = sumT f.sh + 1 := by (have h1 := sumT_bd HVF.out f.sh.length); rw [List.take_length] at h1; rw [IntKind.wrap_i64]; omega
              have k2 : (sumT g.sh != sumT f.sh + 1) = false := by simp [HSU.out]
              have k3 : (g.sp != 0) = false := by simp [HSP.out]
              have HLV := Lib.hid (vf_iff.2 HVG.out)
              go_wp2_with fail
              refine (IsValidFloor_abs Og1.out.rd Og2.out.rd).mono ?_
              rintro e v9 ⟨rfl, hb⟩
              rw [HLV.out]
              replace S := Lib.hid (S.out.call hb)
              replace Of1 := Lib.hid (Of1.out.call hb)
              replace Of2 := Lib.hid (Of2.out.call hb)
              replace Bf := Lib.hid (Bf.out.call hb)
              replace Og1 := Lib.hid (Og1.out.call hb)
              replace Og2 := Lib.hid (Og2.out.call hb)
              replace Bg := Lib.hid (Bg.out.call hb)
              clear hb bg0 bg1 bg2 bg3 bg4 bf0 bf1 bf2 bf3 bf4
              have bg0 := Bg.out.box.1 0 _ rfl
              have bg1 := Bg.out.box.1 1 _ rfl
              have bg2 := Bg.out.box.1 2 _ rfl
              have bg3 := Bg.out.box.1 3 _ rfl
              have bg4 := Bg.out.box.1 4 _ rfl
              have bf0 := Bf.out.box.1 0 _ rfl
              have bf1 := Bf.out.box.1 1 _ rfl
              have bf2 := Bf.out.box.1 2 _ rfl
              have bf3 := Bf.out.box.1 3 _ rfl
              have bf4 := Bf.out.box.1 4 _ rfl
              rw [HWT.out] at Og1 bg3
              go_wp2_with fail
              refine (vInts_same Og1.out.rd Of1.out.rd).mono ?_
              rintro e v10 ⟨rfl, hb⟩
              replace S := Lib.hid (S.out.call hb)
              clear hb k1 k2 k3 bg0 bg1 bg2 bg3 bg4 bf0 bf1 bf2 bf3 bf4
              go_wp2_with fail
              go_meet
              exact S
    · rw [hk]
      go_wp2_with fail
      go_meet
      exact S
  case rest =>
    clear S Bf Bg Of1 Of2 Og1 Og2
    obtain ⟨W, rfl⟩ : ∃ W, W = wc := ⟨_, rfl⟩
    have S := hcut
    clear hcut
    have hlo := S.out.sz
    go_wp2_with fail
    refine (DrawSpeakingOrder_any A _ c W S.out.bytes hxl).mono ?_
    rintro e v11 ⟨Px, px, Dx, dx, x, rfl, ⟨ow1, ow2⟩, hlx1, hlx2, hb⟩
    replace S := Lib.hid (S.out.call hb)
    clear hb
    have Ox1 := Lib.hid (OwD.low (show OwD IntK 3 _ v11 Px px x.wt from ow1) hlo)
    have Ox2 := Lib.hid (OwD.low (show OwD ShareK 43 _ v11 Dx dx x.sh from ow2) hlo)
    clear ow1 ow2 hlo
    have hqx := S.out.sz
    have Bx := Lib.hid (BT.new v11 #[.int .i64 x.t, .int .i64 x.s, .int .i64 x.sp, .slice Px x.wt.length px, .slice Dx x.sh.length dx] 29 v11.heap.size rfl)
    have hbl := below1 v11 (.cells #[.int .i64 x.t, .int .i64 x.s, .int .i64 x.sp, .slice Px x.wt.length px, .slice Dx x.sh.length dx] 29)
    replace S := Lib.hid (S.out.call hbl)
    replace Ox1 := Lib.hid (Ox1.out.call hbl)
    replace Ox2 := Lib.hid (Ox2.out.call hbl)
    clear hbl
    go_upto_region 21 with fail
    generalize (v11.alloc (.cells #[.int .i64 x.t, .int .i64 x.s, .int .i64 x.sp, .slice Px x.wt.length px, .slice Dx x.sh.length dx] 29)) = v12 at *
    generalize v11.heap.size = qx at *
    have hlo := S.out.sz
    go_wp2_with (refine wpList_load_mid rfl 29 _ rfl qx 0 rfl [.int .i64 x.t, .int .i64 x.s, .int .i64 x.sp, .slice Px x.wt.length px, .slice Dx x.sh.length dx] _ Bx.out.rng Try.underlying29 rfl (by kernel_rfl) ?_)
    refine (SpeakingOrder_any Px Dx px dx x v12 Ox1.out.rd.cells Ox1.out.rd.2.2.1 Ox1.out.rd.1 Ox2.out.rd.cells Ox2.out.rd.2.2.1).mono ?_
    rintro e v13 ⟨O, oc, rfl, oo, hb⟩
    replace S := Lib.hid (S.out.call hb)
    replace Ox1 := Lib.hid (Ox1.out.call hb)
    replace Ox2 := Lib.hid (Ox2.out.call hb)
    replace Bx := Lib.hid (Bx.out.call hb)
    have OO := Lib.hid (OwD.low (show OwD IntK 3 _ v13 O oc (soL x) from oo) hlo)
    clear hb oo hlo
    obtain ⟨o, Ho⟩ : ∃ y, Hid (soL x = y) := ⟨_, Lib.hid rfl⟩
    rw [Ho.out] at OO ⊢
    have bx2 := Bx.out.box.1 2 _ rfl
    go_upto_region 22 with fail
    obtain ⟨B, hB⟩ : ∃ B, Hid ((vldF x && x.sp == 0) = B) := ⟨_, Lib.hid rfl⟩
    go_cut [14, 122] (fun t s wx => s = .bool B ∧ wx = v13)
    case first =>
      have hBB := hB.out
      rcases Bool.eq_false_or_eq_true (vldF x) with e3 | e3
      · rcases Bool.eq_false_or_eq_true (x.sp == 0) with e4 | e4
        · rw [e3, e4] at hBB
          try rw [e3]
          go_wp2_with fail
          go_meet
          exact ⟨by rw [← hBB]; rfl, rfl⟩
        · rw [e3, e4] at hBB
          try rw [e3]
          go_wp2_with fail
          go_meet
          exact ⟨by rw [← hBB]; rfl, rfl⟩
      · rw [e3] at hBB
        try rw [e3]
        go_wp2_with fail
        go_meet
        exact ⟨by rw [← hBB]; rfl, rfl⟩
    obtain ⟨rfl, hwc⟩ := hcut
    have hwc2 := hwc.symm
    clear hwc
    subst hwc2
    clear bx2
    go_upto_if 122 with fail
    go_cut [] (fun wx => Hid (Lst w wx A xs.length))
    case first =>
      rcases Bool.eq_false_or_eq_true B with hk | hk
      · subst hk
        have hBB := hB.out
        simp only [Bool.and_eq_true, beq_iff_eq] at hBB
        obtain ⟨hv, hs0⟩ := hBB
        have HI := Lib.hid (show VF x ∧ x.sp = 0 ∧ isortT (trn x) x.wt = o.drop 0 from ⟨vf_iff.1 hv, hs0, by rw [List.drop_zero, ← Ho.out, soL_yes hv]⟩)
        have hol : o.length ≤ 10 := by rw [← Ho.out, soL_yes hv, isortT_len]; exact (vf_iff.1 hv).few
        clear hv hs0 hB
        have bx0 := Bx.out.box.1 0 _ rfl
        have bx1 := Bx.out.box.1 1 _ rfl
        have bx2 := Bx.out.box.1 2 _ rfl
        have bx3 := Bx.out.box.1 3 _ rfl
        have bx4 := Bx.out.box.1 4 _ rfl
        have hqn := S.out.sz
        have hqx_qn := Bx.out.lt
        have Bn := Lib.hid (BT.new v13 #[.int .i64 x.t, .int .i64 x.s, .int .i64 x.sp, .slice Px x.wt.length px, .slice Dx x.sh.length dx] 29 v13.heap.size rfl)
        have hbl := below1 v13 (.cells #[.int .i64 x.t, .int .i64 x.s, .int .i64 x.sp, .slice Px x.wt.length px, .slice Dx x.sh.length dx] 29)
        replace S := Lib.hid (S.out.call hbl)
        replace Ox1 := Lib.hid (Ox1.out.call hbl)
        replace Ox2 := Lib.hid (Ox2.out.call hbl)
        replace Bx := Lib.hid (Bx.out.call hbl)
        replace OO := Lib.hid (OO.out.call hbl)
        clear hbl
        go_upto_region 24 with fail
        clear bx0 bx1 bx2 bx3 bx4
        generalize (v13.alloc (.cells #[.int .i64 x.t, .int .i64 x.s, .int .i64 x.sp, .slice Px x.wt.length px, .slice Dx x.sh.length dx] 29)) = v14 at *
        generalize v13.heap.size = qn at *
        go_wp2
        go_loopw [16] (fun i wr => ∃ (k : Nat) (Pf : Option Addr) (pf : Nat) (Df : Option Addr) (df : Nat) (f : Flr), i = .int .i64 k ∧ k ≤ o.length ∧ Hid (VF f ∧ f.sp = 0 ∧ isortT (trn f) f.wt = o.drop k) ∧ Hid (Lst w wr A xs.length) ∧ Hid (BT wr qn 29 [.int .i64 f.t, .int .i64 f.s, .int .i64 f.sp, .slice Pf f.wt.length pf, .slice Df f.sh.length df]) ∧ Hid (OwD IntK 3 w.heap.size wr Pf pf f.wt) ∧ Hid (OwD ShareK 43 w.heap.size wr Df df f.sh) ∧ Hid (OwD IntK 3 w.heap.size wr O oc o)) (fun i _ => o.length - (intOf i).toNat)
        case atStart => exact ⟨0, Px, px, Dx, dx, x, rfl, Nat.zero_le _, HI, S, Bn, Ox1, Ox2, OO⟩
        case round =>
          clear S Bx Bn Ox1 Ox2 OO HI hqx hqx_qn
          obtain ⟨wq, hwq⟩ : ∃ x : World, x = wr := ⟨_, rfl⟩
          subst hwq
          obtain ⟨k, Pf, pf, Df, df, f, rfl, hk, HI, S, Bf, Of1, Of2, OO⟩ := hrel
          by_cases hlt : k < o.length
          · obtain ⟨h1, h2, h3, h4, h5, h6⟩ := turn_next HI.out.1 HI.out.2.1 HI.out.2.2 hlt
            have T2 := Lib.hid h2
            have T3 := Lib.hid h3
            have HJ := Lib.hid (And.intro h4 (And.intro h5 h6))
            clear h2 h3 h4 h5 h6
            have T1 := Lib.hid h1
            clear h1
            have i1 : (k : Int) < (o.length : Int) := by omega
            have hlo := S.out.sz
            go_wp2_with (refine wpList_load_mid rfl 29 _ rfl qn 0 rfl [.int .i64 f.t, .int .i64 f.s, .int .i64 f.sp, .slice Pf f.wt.length pf, .slice Df f.sh.length df] _ Bf.out.rng Try.underlying29 rfl (by kernel_rfl) ?_)
            refine (iNextSpeaker ⟨Of1.out.rd, Of2.out.rd⟩).mono ?_
            rintro e v15 ⟨Pg, pg, Dg, dg, rfl, ow1, ow2, hb⟩
            replace S := Lib.hid (S.out.call hb)
            replace Bf := Lib.hid (Bf.out.call hb)
            replace Of1 := Lib.hid (Of1.out.call hb)
            replace Of2 := Lib.hid (Of2.out.call hb)
            replace OO := Lib.hid (OO.out.call hb)
            clear hb
            have Og1 := Lib.hid (OwD.low (show OwD IntK 3 _ v15 Pg pg (nxF f).wt from ow1) hlo)
            have Og2 := Lib.hid (OwD.low (show OwD ShareK 43 _ v15 Dg dg (nxF f).sh from ow2) hlo)
            clear ow1 ow2 hlo
            obtain ⟨g, Hg⟩ : ∃ x, Hid (nxF f = x) := ⟨_, Lib.hid rfl⟩
            rw [Hg.out] at Og1 Og2 ⊢
            rw [Hg.out] at T3 HJ
            have hqg := S.out.sz
            have hqn_qg := Bf.out.lt
            have Bg := Lib.hid (BT.new v15 #[.int .i64 g.t, .int .i64 g.s, .int .i64 g.sp, .slice Pg g.wt.length pg, .slice Dg g.sh.length dg] 29 v15.heap.size rfl)
            have hbl := below1 v15 (.cells #[.int .i64 g.t, .int .i64 g.s, .int .i64 g.sp, .slice Pg g.wt.length pg, .slice Dg g.sh.length dg] 29)
            replace S := Lib.hid (S.out.call hbl)
            replace Bf := Lib.hid (Bf.out.call hbl)
            replace Of1 := Lib.hid (Of1.out.call hbl)
            replace Of2 := Lib.hid (Of2.out.call hbl)
            replace OO := Lib.hid (OO.out.call hbl)
            replace Og1 := Lib.hid (Og1.out.call hbl)
            replace Og2 := Lib.hid (Og2.out.call hbl)
            clear hbl
            go_upto_region 28 with fail
            generalize (v15.alloc (.cells #[.int .i64 g.t, .int .i64 g.s, .int .i64 g.sp, .slice Pg g.wt.length pg, .slice Dg g.sh.length dg] 29)) = v16 at *
            generalize v15.heap.size = qg at *
            have hlo := S.out.sz
            go_wp2_with (refine wpList_load_mid rfl 29 _ rfl qg 0 rfl [.int .i64 g.t, .int .i64 g.s, .int .i64 g.sp, .slice Pg g.wt.length pg, .slice Dg g.sh.length dg] _ Bg.out.rng Try.underlying29 rfl (by kernel_rfl) ?_)
            refine (iYieldFloor ⟨Og1.out.rd, Og2.out.rd⟩).mono ?_
            rintro e v17 ⟨Ph, ph, Dh, dh, rfl, ow1, ow2, hb⟩
            replace S := Lib.hid (S.out.call hb)
            replace Bf := Lib.hid (Bf.out.call hb)
            replace Of1 := Lib.hid (Of1.out.call hb)
            replace Of2 := Lib.hid (Of2.out.call hb)
            replace OO := Lib.hid (OO.out.call hb)
            replace Og1 := Lib.hid (Og1.out.call hb)
            replace Og2 := Lib.hid (Og2.out.call hb)
            replace Bg := Lib.hid (Bg.out.call hb)
            clear hb
            have Oh1 := Lib.hid (OwD.low (show OwD IntK 3 _ v17 Ph ph (yfF g).wt from ow1) hlo)
            have Oh2 := Lib.hid (OwD.low (show OwD ShareK 43 _ v17 Dh dh (yfF g).sh from ow2) hlo)
            clear ow1 ow2 hlo
            obtain ⟨h, Hh⟩ : ∃ x, Hid (yfF g = x) := ⟨_, Lib.hid rfl⟩
            rw [Hh.out] at Oh1 Oh2 ⊢
            rw [Hh.out] at HJ
            have hqh := S.out.sz
            have hqn_qh := Bf.out.lt
            have hqg_qh := Bg.out.lt
            have Bh := Lib.hid (BT.new v17 #[.int .i64 h.t, .int .i64 h.s, .int .i64 h.sp, .slice Ph h.wt.length ph, .slice Dh h.sh.length dh] 29 v17.heap.size rfl)
            have hbl := below1 v17 (.cells #[.int .i64 h.t, .int .i64 h.s, .int .i64 h.sp, .slice Ph h.wt.length ph, .slice Dh h.sh.length dh] 29)
            replace S := Lib.hid (S.out.call hbl)
            replace Bf := Lib.hid (Bf.out.call hbl)
            replace Of1 := Lib.hid (Of1.out.call hbl)
            replace Of2 := Lib.hid (Of2.out.call hbl)
            replace OO := Lib.hid (OO.out.call hbl)
            replace Og1 := Lib.hid (Og1.out.call hbl)
            replace Og2 := Lib.hid (Og2.out.call hbl)
            replace Bg := Lib.hid (Bg.out.call hbl)
            replace Oh1 := Lib.hid (Oh1.out.call hbl)
            replace Oh2 := Lib.hid (Oh2.out.call hbl)
            clear hbl
            go_upto_region 29 with fail
            generalize (v17.alloc (.cells #[.int .i64 h.t, .int .i64 h.s, .int .i64 h.sp, .slice Ph h.wt.length ph, .slice Dh h.sh.length dh] 29)) = v18 at *
            generalize v17.heap.size = qh at *
            rw [T1.out, T2.out, T3.out]
            obtain ⟨a, ha, hca⟩ := int_at OO.out.rd.cells hlt
            obtain ⟨m, hm⟩ : ∃ m, o[k] = m := ⟨_, rfl⟩
            rw [hm] at hca ⊢
            clear hm
            subst ha
            have k1 : (m != m) = false := by simp
            go_wp2_with (first | (refine wpList_load_mid rfl 29 _ rfl qh 0 rfl [.int .i64 h.t, .int .i64 h.s, .int .i64 h.sp, .slice Ph h.wt.length ph, .slice Dh h.sh.length dh] _ Bh.out.rng Try.underlying29 rfl (by kernel_rfl) ?_) | ((refine wpList_store_mid rfl 29 _ _ rfl qn 0 #[.int .i64 h.t, .int .i64 h.s, .int .i64 h.sp, .slice Ph h.wt.length ph, .slice Dh h.sh.length dh] rfl rfl Bf.out.there (by kernel_rfl) (by simp [Value.oneCell']) ?_); clear hca; replace S := Lib.hid (S.out.puts (q := qn) (by omega) 0 [.int .i64 h.t, .int .i64 h.s, .int .i64 h.sp, .slice Ph h.wt.length ph, .slice Dh h.sh.length dh]); replace Of1 := Lib.hid (Of1.out.puts Bf.out.ty (by decide) 0 [.int .i64 h.t, .int .i64 h.s, .int .i64 h.sp, .slice Ph h.wt.length ph, .slice Dh h.sh.length dh]); replace Of2 := Lib.hid (Of2.out.puts Bf.out.ty (by decide) 0 [.int .i64 h.t, .int .i64 h.s, .int .i64 h.sp, .slice Ph h.wt.length ph, .slice Dh h.sh.length dh]); replace OO := Lib.hid (OO.out.puts Bf.out.ty (by decide) 0 [.int .i64 h.t, .int .i64 h.s, .int .i64 h.sp, .slice Ph h.wt.length ph, .slice Dh h.sh.length dh]); replace Og1 := Lib.hid (Og1.out.puts Bf.out.ty (by decide) 0 [.int .i64 h.t, .int .i64 h.s, .int .i64 h.sp, .slice Ph h.wt.length ph, .slice Dh h.sh.length dh]); replace Og2 := Lib.hid (Og2.out.puts Bf.out.ty (by decide) 0 [.int .i64 h.t, .int .i64 h.s, .int .i64 h.sp, .slice Ph h.wt.length ph, .slice Dh h.sh.length dh]); replace Bg := Lib.hid (Bg.out.putsfar qn (by omega) 0 [.int .i64 h.t, .int .i64 h.s, .int .i64 h.sp, .slice Ph h.wt.length ph, .slice Dh h.sh.length dh]); replace Oh1 := Lib.hid (Oh1.out.puts Bf.out.ty (by decide) 0 [.int .i64 h.t, .int .i64 h.s, .int .i64 h.sp, .slice Ph h.wt.length ph, .slice Dh h.sh.length dh]); replace Oh2 := Lib.hid (Oh2.out.puts Bf.out.ty (by decide) 0 [.int .i64 h.t, .int .i64 h.s, .int .i64 h.sp, .slice Ph h.wt.length ph, .slice Dh h.sh.length dh]); replace Bh := Lib.hid (Bh.out.putsfar qn (by omega) 0 [.int .i64 h.t, .int .i64 h.s, .int .i64 h.sp, .slice Ph h.wt.length ph, .slice Dh h.sh.length dh]); replace Bf := Lib.hid (Bf.out.puts [.int .i64 h.t, .int .i64 h.s, .int .i64 h.sp, .slice Ph h.wt.length ph, .slice Dh h.sh.length dh] (by rfl))))
            go_roundw
            case rel => exact ⟨k + 1, Ph, ph, Dh, dh, h, by go_num, hlt, HJ, S, Bf, Oh1, Oh2, OO⟩
            case measure => (first | (simp [intOf]; done) | (simp [intOf]; omega))
          · obtain rfl : k = o.length := by omega
            have h0 := turn_end HI.out.2.2 (Nat.le_refl _)
            have k1 : ((f.wt.length : Int) != 0) = false := by simp [h0]
            clear h0
            have bf3 := Bf.out.box.1 3 _ rfl
            go_wp2_with fail
            go_meet
            exact S
      · subst hk
        go_wp2_with fail
        go_meet
        exact S
    case rest =>
      clear S Bx Ox1 Ox2 OO
      obtain ⟨W2, rfl⟩ : ∃ W, W = wc := ⟨_, rfl⟩
      have S := hcut
      clear hcut
      have hlo := S.out.sz
      go_wp2_with fail
      refine (DrawLeaveWaiting_any A _ c W2 S.out.bytes hxl).mono ?_
      rintro e v19 ⟨Py, py, Dy, dy, y, m, rfl, ⟨ow1, ow2⟩, hly1, hly2, hb⟩
      replace S := Lib.hid (S.out.call hb)
      clear hb
      have Oy1 := Lib.hid (OwD.low (show OwD IntK 3 _ v19 Py py y.wt from ow1) hlo)
      have Oy2 := Lib.hid (OwD.low (show OwD ShareK 43 _ v19 Dy dy y.sh from ow2) hlo)
      clear ow1 ow2 hlo
      have hqy := S.out.sz
      have By := Lib.hid (BT.new v19 #[.int .i64 y.t, .int .i64 y.s, .int .i64 y.sp, .slice Py y.wt.length py, .slice Dy y.sh.length dy] 29 v19.heap.size rfl)
      have hbl := below1 v19 (.cells #[.int .i64 y.t, .int .i64 y.s, .int .i64 y.sp, .slice Py y.wt.length py, .slice Dy y.sh.length dy] 29)
      replace S := Lib.hid (S.out.call hbl)
      replace Oy1 := Lib.hid (Oy1.out.call hbl)
      replace Oy2 := Lib.hid (Oy2.out.call hbl)
      clear hbl
      go_upto_region 35 with fail
      generalize (v19.alloc (.cells #[.int .i64 y.t, .int .i64 y.s, .int .i64 y.sp, .slice Py y.wt.length py, .slice Dy y.sh.length dy] 29)) = v20 at *
      generalize v19.heap.size = qy at *
      have hlo := S.out.sz
      go_wp2_with (refine wpList_load_mid rfl 29 _ rfl qy 0 rfl [.int .i64 y.t, .int .i64 y.s, .int .i64 y.sp, .slice Py y.wt.length py, .slice Dy y.sh.length dy] _ By.out.rng Try.underlying29 rfl (by kernel_rfl) ?_)
      refine (iLeaveWaiting ⟨Oy1.out.rd, Oy2.out.rd⟩ m).mono ?_
      rintro e v21 ⟨Pz, pz, Dz, dz, rfl, ow1, ow2, hb⟩
      replace S := Lib.hid (S.out.call hb)
      replace Oy1 := Lib.hid (Oy1.out.call hb)
      replace Oy2 := Lib.hid (Oy2.out.call hb)
      replace By := Lib.hid (By.out.call hb)
      clear hb
      have Oz1 := Lib.hid (OwD.low (show OwD IntK 3 _ v21 Pz pz (lvF y m).wt from ow1) hlo)
      have Oz2 := Lib.hid (OwD.low (show OwD ShareK 43 _ v21 Dz dz (lvF y m).sh from ow2) hlo)
      clear ow1 ow2 hlo
      obtain ⟨z, Hz⟩ : ∃ x, Hid (lvF y m = x) := ⟨_, Lib.hid rfl⟩
      rw [Hz.out] at Oz1 Oz2 ⊢
      have hqz := S.out.sz
      have hqy_qz := By.out.lt
      have Bz := Lib.hid (BT.new v21 #[.int .i64 z.t, .int .i64 z.s, .int .i64 z.sp, .slice Pz z.wt.length pz, .slice Dz z.sh.length dz] 29 v21.heap.size rfl)
      have hbl := below1 v21 (.cells #[.int .i64 z.t, .int .i64 z.s, .int .i64 z.sp, .slice Pz z.wt.length pz, .slice Dz z.sh.length dz] 29)
      replace S := Lib.hid (S.out.call hbl)
      replace Oy1 := Lib.hid (Oy1.out.call hbl)
      replace Oy2 := Lib.hid (Oy2.out.call hbl)
      replace By := Lib.hid (By.out.call hbl)
      replace Oz1 := Lib.hid (Oz1.out.call hbl)
      replace Oz2 := Lib.hid (Oz2.out.call hbl)
      clear hbl
      go_upto_region 36 with fail
      generalize (v21.alloc (.cells #[.int .i64 z.t, .int .i64 z.s, .int .i64 z.sp, .slice Pz z.wt.length pz, .slice Dz z.sh.length dz] 29)) = v22 at *
      generalize v21.heap.size = qz at *
      have hlo := S.out.sz
      go_wp2_with (refine wpList_load_mid rfl 29 _ rfl qy 0 rfl [.int .i64 y.t, .int .i64 y.s, .int .i64 y.sp, .slice Py y.wt.length py, .slice Dy y.sh.length dy] _ By.out.rng Try.underlying29 rfl (by kernel_rfl) ?_)
      refine (rLeaveWaiting ⟨Oy1.out.rd, Oy2.out.rd⟩ m).mono ?_
      rintro e v23 ⟨Ph, ph, Dh, dh, rfl, ow1, ow2, hb⟩
      replace S := Lib.hid (S.out.call hb)
      replace Oy1 := Lib.hid (Oy1.out.call hb)
      replace Oy2 := Lib.hid (Oy2.out.call hb)
      replace By := Lib.hid (By.out.call hb)
      replace Oz1 := Lib.hid (Oz1.out.call hb)
      replace Oz2 := Lib.hid (Oz2.out.call hb)
      replace Bz := Lib.hid (Bz.out.call hb)
      clear hb
      have Oh1 := Lib.hid (OwD.low (show OwD IntK 3 _ v23 Ph ph (lvF y m).wt from ow1) hlo)
      have Oh2 := Lib.hid (OwD.low (show OwD ShareK 43 _ v23 Dh dh (lvF y m).sh from ow2) hlo)
      clear ow1 ow2 hlo
      rw [Hz.out] at Oh1 Oh2 ⊢
      have hqh := S.out.sz
      have hqy_qh := By.out.lt
      have hqz_qh := Bz.out.lt
      have Bh := Lib.hid (BT.new v23 #[.int .i64 z.t, .int .i64 z.s, .int .i64 z.sp, .slice Ph z.wt.length ph, .slice Dh z.sh.length dh] 29 v23.heap.size rfl)
      have hbl := below1 v23 (.cells #[.int .i64 z.t, .int .i64 z.s, .int .i64 z.sp, .slice Ph z.wt.length ph, .slice Dh z.sh.length dh] 29)
      replace S := Lib.hid (S.out.call hbl)
      replace Oy1 := Lib.hid (Oy1.out.call hbl)
      replace Oy2 := Lib.hid (Oy2.out.call hbl)
      replace By := Lib.hid (By.out.call hbl)
      replace Oz1 := Lib.hid (Oz1.out.call hbl)
      replace Oz2 := Lib.hid (Oz2.out.call hbl)
      replace Bz := Lib.hid (Bz.out.call hbl)
      replace Oh1 := Lib.hid (Oh1.out.call hbl)
      replace Oh2 := Lib.hid (Oh2.out.call hbl)
      clear hbl
      go_upto_region 37 with fail
      generalize (v23.alloc (.cells #[.int .i64 z.t, .int .i64 z.s, .int .i64 z.sp, .slice Ph z.wt.length ph, .slice Dh z.sh.length dh] 29)) = v24 at *
      generalize v23.heap.size = qh at *
      have kb : (lvB y m != lvB y m) = false := by simp
      have bz0 := Bz.out.box.1 0 _ rfl
      have bz1 := Bz.out.box.1 1 _ rfl
      have bz2 := Bz.out.box.1 2 _ rfl
      have bz3 := Bz.out.box.1 3 _ rfl
      have bz4 := Bz.out.box.1 4 _ rfl
      have bh0 := Bh.out.box.1 0 _ rfl
      have bh1 := Bh.out.box.1 1 _ rfl
      have bh2 := Bh.out.box.1 2 _ rfl
      have bh3 := Bh.out.box.1 3 _ rfl
      have bh4 := Bh.out.box.1 4 _ rfl
      go_wp2_with fail
      refine (vFloor_same ⟨Oz1.out.rd, Oz2.out.rd⟩ ⟨Oh1.out.rd, Oh2.out.rd⟩).mono ?_
      rintro e v25 ⟨rfl, hb⟩
      replace S := Lib.hid (S.out.call hb)
      replace Oy1 := Lib.hid (Oy1.out.call hb)
      replace Oy2 := Lib.hid (Oy2.out.call hb)
      replace By := Lib.hid (By.out.call hb)
      replace Oz1 := Lib.hid (Oz1.out.call hb)
      replace Oz2 := Lib.hid (Oz2.out.call hb)
      replace Bz := Lib.hid (Bz.out.call hb)
      replace Oh1 := Lib.hid (Oh1.out.call hb)
      replace Oh2 := Lib.hid (Oh2.out.call hb)
      replace Bh := Lib.hid (Bh.out.call hb)
      clear hb bz0 bz1 bz2 bz3 bz4 bh0 bh1 bh2 bh3 bh4
      clear Bz Bh Oz1 Oz2 Oh1 Oh2 By Oy1 Oy2
      clear kb
      have hlo := S.out.sz
      go_wp2_with fail
      refine (DrawSecondsLeft_any A _ c v25 S.out.bytes hxl).mono ?_
      rintro e v26 ⟨Pu, pu, Du, du, u, mm, rfl, ⟨ow1, ow2⟩, hlu1, hlu2, hb⟩
      replace S := Lib.hid (S.out.call hb)
      clear hb
      have Ou1 := Lib.hid (OwD.low (show OwD IntK 3 _ v26 Pu pu u.wt from ow1) hlo)
      have Ou2 := Lib.hid (OwD.low (show OwD ShareK 43 _ v26 Du du u.sh from ow2) hlo)
      clear ow1 ow2 hlo
      have hqu := S.out.sz
      have Bu := Lib.hid (BT.new v26 #[.int .i64 u.t, .int .i64 u.s, .int .i64 u.sp, .slice Pu u.wt.length pu, .slice Du u.sh.length du] 29 v26.heap.size rfl)
      have hbl := below1 v26 (.cells #[.int .i64 u.t, .int .i64 u.s, .int .i64 u.sp, .slice Pu u.wt.length pu, .slice Du u.sh.length du] 29)
      replace S := Lib.hid (S.out.call hbl)
      replace Ou1 := Lib.hid (Ou1.out.call hbl)
      replace Ou2 := Lib.hid (Ou2.out.call hbl)
      clear hbl
      go_upto_region 40 with fail
      generalize (v26.alloc (.cells #[.int .i64 u.t, .int .i64 u.s, .int .i64 u.sp, .slice Pu u.wt.length pu, .slice Du u.sh.length du] 29)) = v27 at *
      generalize v26.heap.size = qu at *
      go_wp2_with (refine wpList_load_mid rfl 29 _ rfl qu 0 rfl [.int .i64 u.t, .int .i64 u.s, .int .i64 u.sp, .slice Pu u.wt.length pu, .slice Du u.sh.length du] _ Bu.out.rng Try.underlying29 rfl (by kernel_rfl) ?_)
      refine (SecondsLeft_abs Ou1.out.rd Ou2.out.rd mm).mono ?_
      rintro e v28 ⟨rfl, hb⟩
      replace S := Lib.hid (S.out.call hb)
      replace Ou1 := Lib.hid (Ou1.out.call hb)
      replace Ou2 := Lib.hid (Ou2.out.call hb)
      replace Bu := Lib.hid (Bu.out.call hb)
      clear hb
      go_wp2_with (refine wpList_load_mid rfl 29 _ rfl qu 0 rfl [.int .i64 u.t, .int .i64 u.s, .int .i64 u.sp, .slice Pu u.wt.length pu, .slice Du u.sh.length du] _ Bu.out.rng Try.underlying29 rfl (by kernel_rfl) ?_)
      refine (sSecondsLeft_abs Ou1.out.rd Ou2.out.rd mm).mono ?_
      rintro e v29 ⟨rfl, hb⟩
      replace S := Lib.hid (S.out.call hb)
      replace Ou1 := Lib.hid (Ou1.out.call hb)
      replace Ou2 := Lib.hid (Ou2.out.call hb)
      replace Bu := Lib.hid (Bu.out.call hb)
      clear hb
      have k1 : (slI u mm == slI u mm) = true := by simp
      have k2 : (slS u mm == slS u mm) = true := by simp
      go_wp2_with (go_ret; exact ⟨rfl, S.out.on⟩)
end Go.Proofs.Ytbpikbcnpmplfaa.fnTurns
