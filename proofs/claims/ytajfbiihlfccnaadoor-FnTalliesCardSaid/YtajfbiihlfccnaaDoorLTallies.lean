/- The walk of the law FnTallies: it returns true. Conditions: what Cx names. -/
import Derived.Test.YtajfbiihlfccnaaDoorTl1
import Derived.Test.YtajfbiihlfccnaaDoorTd
import Derived.Test.YtajfbiihlfccnaaDoorLst
import Derived.Test.YtajfbiihlfccnaaDoorByt
import Derived.Deep.DrawnRows
import Derived.Deep.Cut
import Derived.Deep.CutRange
import Derived.Deep.DeepCutAuto
namespace Go.Proofs.YtajfbiihlfccnaaDoor.fnTallies
open Go.RowKit
set_option linter.unusedVariables false
set_option linter.unusedSimpArgs false
attribute [local go_sem ↓] Go.wp_at_zero Go.wp_at_succ
theorem vBig_any (A : Option Addr) (n c : Nat) (w : World) : Calls Tryd.prog 10 #[.slice A n c] w fun e w' => e = .returned (.bool (decide (65536 < n))) ∧ Below w.heap.size w w' := by
  go_enter Tryd.func10, Tryd.ntmps10
  go_wp2
  go_ret
  exact ⟨ret_bool (by simp; try omega), Below.refl _ _⟩
set_option maxRecDepth 100000 in
set_option maxHeartbeats 16000000 in
theorem walk (A : Option Addr) (c : Nat) (xs : List Int) (w : World) (hc : Cx w) (hx : xs.length ≤ c ∧ Cells w A (ByteK.row xs) ∧ xs.length ≤ maxLen ∧ ∀ x ∈ xs, ByteK.fit x) :
    Calls Tryd.prog 4 #[.slice A xs.length c] w fun e w' => e = .returned (.bool true) ∧ Below w.heap.size w w' := by
  have S := Lib.hid (Lst.mk (Below.refl w.heap.size w) (bytesC_of hx.2.1 hx.2.2.2))
  have HX := Lib.hid hc
  clear hx hc
  by_cases hbig : 65536 < xs.length
  · have hd : decide (65536 < xs.length) = true := decide_eq_true hbig
    go_enter Tryd.func4, Tryd.ntmps4
    go_wp2_with fail
    refine (vBig_any A _ c w).mono ?_
    rintro e w1 ⟨rfl, hb⟩
    rw [hd]
    go_wp2
    go_ret
    exact ⟨rfl, hb⟩
  have hd : decide (65536 < xs.length) = false := decide_eq_false hbig
  have hxl : xs.length ≤ 65536 := by omega
  clear hbig
  go_enter Tryd.func4, Tryd.ntmps4
  go_wp2_with fail
  refine (vBig_any A _ c w).mono ?_
  rintro e v1 ⟨rfl, hb⟩
  replace S := Lib.hid (S.out.call hb)
  rw [hd]
  clear hd hb
  go_wp2_with fail
  refine (DrawTallyText_any A _ c v1 S.out.bytes hxl).mono ?_
  rintro e v2 ⟨⟨y, n1, a, rfl⟩, hb⟩
  replace S := Lib.hid (S.out.call hb)
  clear hb 
  have B := Lib.hid (BT.new v2 #[.int .i64 y, .int .i64 n1, .int .i64 a] 23 v2.heap.size rfl)
  have hbl := below1 v2 (.cells #[.int .i64 y, .int .i64 n1, .int .i64 a] 23)
  replace S := Lib.hid (S.out.call hbl)
  clear hbl
  go_upto_region 4 with fail
  generalize (v2.alloc (.cells #[.int .i64 y, .int .i64 n1, .int .i64 a] 23)) = v3 at *
  generalize v2.heap.size = qb at *
  obtain ⟨y2, n2, a2, b2, hr, hl⟩ := back_law y n1 a
  have hsz := txT_size y n1 a
  have HR := Lib.hid hr
  have HL := Lib.hid hl
  have HZ := Lib.hid hsz
  clear hr hl hsz
  obtain ⟨s, hs⟩ : ∃ s, Hid (txT y n1 a = s) := ⟨_, Lib.hid rfl⟩
  obtain ⟨ok, hok⟩ : ∃ b, Hid (vldT y n1 a = b) := ⟨_, Lib.hid rfl⟩
  rw [hs.out] at HR HZ
  rw [hok.out] at HL
  have eb0 := B.out.box.1 0 _ rfl
  have eb1 := B.out.box.1 1 _ rfl
  have eb2 := B.out.box.1 2 _ rfl
  go_wp2_with fail
  refine (TallyText_any y n1 a v3 (HX.out.below S.out.on).tab).mono ?_
  rintro e v4 ⟨rfl, hb⟩
  replace S := Lib.hid (S.out.call hb)
  replace B := Lib.hid (B.out.call hb)
  rw [hs.out, hok.out]
  clear hb 
  clear eb0 eb1 eb2
  go_wp2_with fail
  refine (ParseTally_any s v4 HZ.out (HX.out.below S.out.on)).mono ?_
  rintro e v5 ⟨rfl, hb⟩
  replace S := Lib.hid (S.out.call hb)
  replace B := Lib.hid (B.out.call hb)
  rw [HR.out]
  clear hb 
  have U := Lib.hid (BT.new v5 #[.int .i64 y2, .int .i64 n2, .int .i64 a2] 23 v5.heap.size rfl)
  have hbl := below1 v5 (.cells #[.int .i64 y2, .int .i64 n2, .int .i64 a2] 23)
  replace S := Lib.hid (S.out.call hbl)
  replace B := Lib.hid (B.out.call hbl)
  clear hbl
  go_upto_region 6 with fail
  generalize (v5.alloc (.cells #[.int .i64 y2, .int .i64 n2, .int .i64 a2] 23)) = v6 at *
  generalize v5.heap.size = qu at *
  have eb0 := B.out.box.1 0 _ rfl
  have eb1 := B.out.box.1 1 _ rfl
  have eb2 := B.out.box.1 2 _ rfl
  go_wp2_with fail
  refine (sTallyText_any y n1 a v6 (HX.out.below S.out.on).tab).mono ?_
  rintro e v7 ⟨rfl, hb⟩
  replace S := Lib.hid (S.out.call hb)
  replace B := Lib.hid (B.out.call hb)
  replace U := Lib.hid (U.out.call hb)
  rw [hs.out, hok.out]
  clear hb 
  clear eb0 eb1 eb2
  go_upto_region 7 with fail
  have eb0 := B.out.box.1 0 _ rfl
  have eb1 := B.out.box.1 1 _ rfl
  have eb2 := B.out.box.1 2 _ rfl
  have eu0 := U.out.box.1 0 _ rfl
  have eu1 := U.out.box.1 1 _ rfl
  have eu2 := U.out.box.1 2 _ rfl
  go_cut [5, 7, 9, 70] (fun s0 s1 s2 s3 wx => s3 = .bool false ∧ wx = v7)
  case first =>
    rcases Bool.eq_false_or_eq_true ok with hk | hk
    · obtain ⟨rfl, rfl, rfl, rfl⟩ := HL.out hk
      subst hk
      go_wp2_with fail
      go_meet
      exact ⟨rfl, rfl⟩
    · subst hk
      go_wp2_with fail
      go_meet
      exact ⟨rfl, rfl⟩
  obtain ⟨rfl, hwc⟩ := hcut
  have hwc2 := hwc.symm
  clear hwc
  subst hwc2
  clear eb0 eb1 eb2 eu0 eu1 eu2
  clear B U
  clear HR HL HZ hs hok
  go_wp2_with fail
  refine (DrawParseTally_any A _ c v7 S.out.bytes hxl (HX.out.below S.out.on)).mono ?_
  rintro e v8 ⟨⟨u, rfl, hu⟩, hb⟩
  replace S := Lib.hid (S.out.call hb)
  clear hb 
  obtain ⟨y, n1, a, b, hr, hr2, hl⟩ := read_law u
  have HR := Lib.hid hr
  have HS := Lib.hid hr2
  have HL := Lib.hid hl
  clear hr hr2 hl
  go_wp2_with fail
  refine (ParseTally_any u v8 (by omega) (HX.out.below S.out.on)).mono ?_
  rintro e v9 ⟨rfl, hb⟩
  replace S := Lib.hid (S.out.call hb)
  rw [HR.out]
  clear hb 
  have P := Lib.hid (BT.new v9 #[.int .i64 y, .int .i64 n1, .int .i64 a] 23 v9.heap.size rfl)
  have hbl := below1 v9 (.cells #[.int .i64 y, .int .i64 n1, .int .i64 a] 23)
  replace S := Lib.hid (S.out.call hbl)
  clear hbl
  go_upto_region 11 with fail
  generalize (v9.alloc (.cells #[.int .i64 y, .int .i64 n1, .int .i64 a] 23)) = v10 at *
  generalize v9.heap.size = qp at *
  obtain ⟨s, hs⟩ : ∃ s, Hid (txT y n1 a = s) := ⟨_, Lib.hid rfl⟩
  obtain ⟨ok, hok⟩ : ∃ b, Hid (vldT y n1 a = b) := ⟨_, Lib.hid rfl⟩
  rw [hs.out, hok.out] at HL
  have ep0 := P.out.box.1 0 _ rfl
  have ep1 := P.out.box.1 1 _ rfl
  have ep2 := P.out.box.1 2 _ rfl
  go_wp2_with fail
  refine (TallyText_any y n1 a v10 (HX.out.below S.out.on).tab).mono ?_
  rintro e v11 ⟨rfl, hb⟩
  replace S := Lib.hid (S.out.call hb)
  replace P := Lib.hid (P.out.call hb)
  rw [hs.out, hok.out]
  clear hb 
  clear ep0 ep1 ep2
  go_wp2_with fail
  refine (sParseTally_any u v11 (by omega) (HX.out.below S.out.on)).mono ?_
  rintro e v12 ⟨rfl, hb⟩
  replace S := Lib.hid (S.out.call hb)
  replace P := Lib.hid (P.out.call hb)
  rw [HS.out]
  clear hb 
  have Q := Lib.hid (BT.new v12 #[.int .i64 y, .int .i64 n1, .int .i64 a] 23 v12.heap.size rfl)
  have hbl := below1 v12 (.cells #[.int .i64 y, .int .i64 n1, .int .i64 a] 23)
  replace S := Lib.hid (S.out.call hbl)
  replace P := Lib.hid (P.out.call hbl)
  clear hbl
  go_upto_region 13 with fail
  generalize (v12.alloc (.cells #[.int .i64 y, .int .i64 n1, .int .i64 a] 23)) = v13 at *
  generalize v12.heap.size = qq at *
  have ep0 := P.out.box.1 0 _ rfl
  have ep1 := P.out.box.1 1 _ rfl
  have ep2 := P.out.box.1 2 _ rfl
  have eq0 := Q.out.box.1 0 _ rfl
  have eq1 := Q.out.box.1 1 _ rfl
  have eq2 := Q.out.box.1 2 _ rfl
  go_cut [12, 13, 14, 16, 107] (fun s0 s1 s2 s3 s4 wx => s4 = .bool false ∧ wx = v13)
  case first =>
    rcases Bool.eq_false_or_eq_true b with hk | hk
    · obtain ⟨h1, h2⟩ := HL.out hk
      subst h1 hk h2
      go_wp2_with fail
      go_meet
      exact ⟨rfl, rfl⟩
    · subst hk
      go_wp2_with fail
      go_meet
      exact ⟨rfl, rfl⟩
  obtain ⟨rfl, hwc⟩ := hcut
  have hwc2 := hwc.symm
  clear hwc
  subst hwc2
  clear ep0 ep1 ep2 eq0 eq1 eq2
  clear P Q
  clear HR HS HL hs hok hu
  go_wp2_with fail
  refine (DrawYesShare_any A _ c v13 S.out.bytes hxl).mono ?_
  rintro e v14 ⟨⟨y, n1, a, rfl⟩, hb⟩
  replace S := Lib.hid (S.out.call hb)
  clear hb 
  have X := Lib.hid (BT.new v14 #[.int .i64 y, .int .i64 n1, .int .i64 a] 23 v14.heap.size rfl)
  have hbl := below1 v14 (.cells #[.int .i64 y, .int .i64 n1, .int .i64 a] 23)
  replace S := Lib.hid (S.out.call hbl)
  clear hbl
  go_upto_region 16 with fail
  generalize (v14.alloc (.cells #[.int .i64 y, .int .i64 n1, .int .i64 a] 23)) = v15 at *
  generalize v14.heap.size = qx at *
  have HL := Lib.hid (Vt.share_law (y := y) (n := n1) (a := a))
  obtain ⟨k, hk⟩ : ∃ b, Hid (Vt.shareS y n1 a = b) := ⟨_, Lib.hid rfl⟩
  rw [hk.out] at HL
  obtain ⟨f, hf⟩ : ∃ b, Hid ((if k = true then Vt.shareV y n1 a else 0) = b) := ⟨_, Lib.hid rfl⟩
  obtain ⟨g, hg⟩ : ∃ b, Hid ((if k = true then Vt.shareW y n1 a else 0) = b) := ⟨_, Lib.hid rfl⟩
  have ex0 := X.out.box.1 0 _ rfl
  have ex1 := X.out.box.1 1 _ rfl
  have ex2 := X.out.box.1 2 _ rfl
  go_wp2_with fail
  refine (Vt.YesShare_any y n1 a v15).mono ?_
  rintro e v16 ⟨rfl, hb⟩
  replace S := Lib.hid (S.out.call hb)
  replace X := Lib.hid (X.out.call hb)
  unfold Vt.shareR
  rw [hk.out, hf.out, hg.out]
  clear hb 
  clear ex0 ex1 ex2
  have ex0 := X.out.box.1 0 _ rfl
  have ex1 := X.out.box.1 1 _ rfl
  have ex2 := X.out.box.1 2 _ rfl
  go_wp2_with fail
  refine (Vt.sYesShare_any y n1 a v16).mono ?_
  rintro e v17 ⟨rfl, hb⟩
  replace S := Lib.hid (S.out.call hb)
  replace X := Lib.hid (X.out.call hb)
  unfold Vt.shareR
  rw [hk.out, hf.out, hg.out]
  clear hb 
  clear ex0 ex1 ex2
  go_upto_region 18 with fail
  have ex0 := X.out.box.1 0 _ rfl
  have ex1 := X.out.box.1 1 _ rfl
  have ex2 := X.out.box.1 2 _ rfl
  go_cut [20, 23, 151] (fun s0 s1 s2 wx => s2 = .bool false ∧ wx = v17)
  case first =>
    rcases Bool.eq_false_or_eq_true k with hkk | hkk
    · obtain ⟨h1, h2, h3, h4, h5, h6, h7, h8, h9⟩ := HL.out hkk
      have f1 := hf.out
      have g1 := hg.out
      rw [if_pos hkk] at f1 g1
      rw [f1] at h1 h2 h3
      rw [g1] at h1 h4 h5
      have q1 : IntKind.i64.wrap (y + n1) = y + n1 := by rw [IntKind.wrap_i64]; omega
      have m0 : 0 ≤ g * y := Int.mul_nonneg h4 h6
      have m1 : g * y ≤ 2000 * 1000 := Int.mul_le_mul h5 h7 h6 (by omega)
      have q2 : IntKind.i64.wrap (g * y) = g * y := by rw [IntKind.wrap_i64]; omega
      have q3 : IntKind.i64.wrap (f * (y + n1)) = g * y := by rw [h1, q2]
      clear h1 h2 h3 h4 h5 h6 h7 h8 h9 f1 g1 m0 m1
      subst hkk
      go_wp2_with fail
      go_meet
      exact ⟨rfl, rfl⟩
    · subst hkk
      go_wp2_with fail
      go_meet
      exact ⟨rfl, rfl⟩
  obtain ⟨rfl, hwc⟩ := hcut
  have hwc2 := hwc.symm
  clear hwc
  subst hwc2
  clear ex0 ex1 ex2
  clear X
  clear HL hk hf hg
  go_wp2_with fail
  refine (DrawAddTallies_any A _ c v17 S.out.bytes hxl).mono ?_
  rintro e v18 ⟨⟨y, n1, a, y2, n2, a2, rfl⟩, hb⟩
  replace S := Lib.hid (S.out.call hb)
  clear hb 
  have Y := Lib.hid (BT.new v18 #[.int .i64 y, .int .i64 n1, .int .i64 a] 23 v18.heap.size rfl)
  have hbl := below1 v18 (.cells #[.int .i64 y, .int .i64 n1, .int .i64 a] 23)
  replace S := Lib.hid (S.out.call hbl)
  clear hbl
  have Z := Lib.hid (BT.new (v18.alloc (.cells #[.int .i64 y, .int .i64 n1, .int .i64 a] 23)) #[.int .i64 y2, .int .i64 n2, .int .i64 a2] 23 (v18.heap.size + 1) (by simp))
  have hbl := below1 (v18.alloc (.cells #[.int .i64 y, .int .i64 n1, .int .i64 a] 23)) (.cells #[.int .i64 y2, .int .i64 n2, .int .i64 a2] 23)
  replace S := Lib.hid (S.out.call hbl)
  replace Y := Lib.hid (Y.out.call hbl)
  clear hbl
  go_upto_region 21 with fail
  generalize ((v18.alloc (.cells #[.int .i64 y, .int .i64 n1, .int .i64 a] 23)).alloc (.cells #[.int .i64 y2, .int .i64 n2, .int .i64 a2] 23)) = v19 at *
  generalize v18.heap.size = qy at *
  obtain ⟨k, hk⟩ : ∃ b, Hid (Vt.addS y n1 a y2 n2 a2 = b) := ⟨_, Lib.hid rfl⟩
  obtain ⟨p1, h1⟩ : ∃ b, Hid (Vt.pickJ k (y + y2) = b) := ⟨_, Lib.hid rfl⟩
  obtain ⟨p2, h2⟩ : ∃ b, Hid (Vt.pickJ k (n1 + n2) = b) := ⟨_, Lib.hid rfl⟩
  obtain ⟨p3, h3⟩ : ∃ b, Hid (Vt.pickJ k (a + a2) = b) := ⟨_, Lib.hid rfl⟩
  have ey0 := Y.out.box.1 0 _ rfl
  have ey1 := Y.out.box.1 1 _ rfl
  have ey2 := Y.out.box.1 2 _ rfl
  have ez0 := Z.out.box.1 0 _ rfl
  have ez1 := Z.out.box.1 1 _ rfl
  have ez2 := Z.out.box.1 2 _ rfl
  go_wp2_with fail
  refine (Vt.AddTallies_any y n1 a y2 n2 a2 v19).mono ?_
  rintro e v20 ⟨rfl, hb⟩
  replace S := Lib.hid (S.out.call hb)
  replace Y := Lib.hid (Y.out.call hb)
  replace Z := Lib.hid (Z.out.call hb)
  rw [Vt.addR_parts, hk.out, h1.out, h2.out, h3.out]
  clear hb 
  clear ey0 ey1 ey2 ez0 ez1 ez2
  have F := Lib.hid (BT.new v20 #[.int .i64 p1, .int .i64 p2, .int .i64 p3] 23 v20.heap.size rfl)
  have hbl := below1 v20 (.cells #[.int .i64 p1, .int .i64 p2, .int .i64 p3] 23)
  replace S := Lib.hid (S.out.call hbl)
  replace Y := Lib.hid (Y.out.call hbl)
  replace Z := Lib.hid (Z.out.call hbl)
  clear hbl
  go_upto_region 22 with fail
  generalize (v20.alloc (.cells #[.int .i64 p1, .int .i64 p2, .int .i64 p3] 23)) = v21 at *
  generalize v20.heap.size = qf at *
  have ey0 := Y.out.box.1 0 _ rfl
  have ey1 := Y.out.box.1 1 _ rfl
  have ey2 := Y.out.box.1 2 _ rfl
  have ez0 := Z.out.box.1 0 _ rfl
  have ez1 := Z.out.box.1 1 _ rfl
  have ez2 := Z.out.box.1 2 _ rfl
  go_wp2_with fail
  refine (Vt.AddTallies_any y2 n2 a2 y n1 a v21).mono ?_
  rintro e v22 ⟨rfl, hb⟩
  replace S := Lib.hid (S.out.call hb)
  replace Y := Lib.hid (Y.out.call hb)
  replace Z := Lib.hid (Z.out.call hb)
  replace F := Lib.hid (F.out.call hb)
  rw [Vt.add_comm]
  rw [Vt.addR_parts, hk.out, h1.out, h2.out, h3.out]
  clear hb 
  clear ey0 ey1 ey2 ez0 ez1 ez2
  have G := Lib.hid (BT.new v22 #[.int .i64 p1, .int .i64 p2, .int .i64 p3] 23 v22.heap.size rfl)
  have hbl := below1 v22 (.cells #[.int .i64 p1, .int .i64 p2, .int .i64 p3] 23)
  replace S := Lib.hid (S.out.call hbl)
  replace Y := Lib.hid (Y.out.call hbl)
  replace Z := Lib.hid (Z.out.call hbl)
  replace F := Lib.hid (F.out.call hbl)
  clear hbl
  go_upto_region 23 with fail
  generalize (v22.alloc (.cells #[.int .i64 p1, .int .i64 p2, .int .i64 p3] 23)) = v23 at *
  generalize v22.heap.size = qg at *
  have ey0 := Y.out.box.1 0 _ rfl
  have ey1 := Y.out.box.1 1 _ rfl
  have ey2 := Y.out.box.1 2 _ rfl
  have ez0 := Z.out.box.1 0 _ rfl
  have ez1 := Z.out.box.1 1 _ rfl
  have ez2 := Z.out.box.1 2 _ rfl
  go_wp2_with fail
  refine (Vt.sAddTallies_any y n1 a y2 n2 a2 v23).mono ?_
  rintro e v24 ⟨rfl, hb⟩
  replace S := Lib.hid (S.out.call hb)
  replace Y := Lib.hid (Y.out.call hb)
  replace Z := Lib.hid (Z.out.call hb)
  replace F := Lib.hid (F.out.call hb)
  replace G := Lib.hid (G.out.call hb)
  rw [Vt.addR_parts, hk.out, h1.out, h2.out, h3.out]
  clear hb 
  clear ey0 ey1 ey2 ez0 ez1 ez2
  have I := Lib.hid (BT.new v24 #[.int .i64 p1, .int .i64 p2, .int .i64 p3] 23 v24.heap.size rfl)
  have hbl := below1 v24 (.cells #[.int .i64 p1, .int .i64 p2, .int .i64 p3] 23)
  replace S := Lib.hid (S.out.call hbl)
  replace Y := Lib.hid (Y.out.call hbl)
  replace Z := Lib.hid (Z.out.call hbl)
  replace F := Lib.hid (F.out.call hbl)
  replace G := Lib.hid (G.out.call hbl)
  clear hbl
  go_upto_region 24 with fail
  generalize (v24.alloc (.cells #[.int .i64 p1, .int .i64 p2, .int .i64 p3] 23)) = v25 at *
  generalize v24.heap.size = qi at *
  have ef0 := F.out.box.1 0 _ rfl
  have ef1 := F.out.box.1 1 _ rfl
  have ef2 := F.out.box.1 2 _ rfl
  have eg0 := G.out.box.1 0 _ rfl
  have eg1 := G.out.box.1 1 _ rfl
  have eg2 := G.out.box.1 2 _ rfl
  have ei0 := I.out.box.1 0 _ rfl
  have ei1 := I.out.box.1 1 _ rfl
  have ei2 := I.out.box.1 2 _ rfl
  go_wp2
  go_ret
  exact ⟨rfl, S.out.on⟩
end Go.Proofs.YtajfbiihlfccnaaDoor.fnTallies
