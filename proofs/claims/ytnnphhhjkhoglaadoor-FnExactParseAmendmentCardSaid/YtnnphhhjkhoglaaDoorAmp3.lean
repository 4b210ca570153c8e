/- ParseAmendment of the program. Conditions: what Cx, Wds4 name; the ranges named. -/
import Derived.Test.YtnnphhhjkhoglaaDoorAmp2
import Derived.Deep.DrawnRows
import Derived.Deep.Cut
import Derived.Deep.CutRange
import Derived.Deep.DeepCutAuto
import Derived.Deep.MidRow
namespace Go.Proofs.YtnnphhhjkhoglaaDoor
open Go.RowKit
set_option linter.unusedVariables false
set_option linter.unusedSimpArgs false
attribute [local go_sem ↓] Go.wp_at_zero Go.wp_at_succ
set_option maxRecDepth 100000 in
set_option maxHeartbeats 16000000 in
theorem ParseAmendment_any (s : ByteArray) (w : World) (hs : s.size ≤ 1048576) (h : Cx w) (h4 : Wds4 w) : Calls Tryd.prog 5 #[.string s] w (AmTo w (amR (amI s.data.toList)) (amB (amI s.data.toList))) := by
  have hsl : s.data.toList.length = s.size := Array.length_toList
  have hb1 := below1 w (.cells #[.int .i64 0, .int .i64 0, .int .i64 0, .slice none 0 0] 24)
  have S := Lib.hid ((lst0 w).call hb1)
  have Z := Lib.hid (BT.new w #[.int .i64 0, .int .i64 0, .int .i64 0, .slice none 0 0] 24 w.heap.size rfl)
  have HC := Lib.hid h
  have H4 := Lib.hid h4
  obtain ⟨cl1, cl2⟩ := cut_len s.data.toList
  obtain ⟨hd, hhd⟩ : ∃ x, Hid ((Go.Lib.cut s.data.toList [58, 32]).1 = x) := ⟨_, Lib.hid rfl⟩
  obtain ⟨rs, hrs⟩ : ∃ x, Hid ((Go.Lib.cut s.data.toList [58, 32]).2.1 = x) := ⟨_, Lib.hid rfl⟩
  obtain ⟨fd, hfd⟩ : ∃ x, Hid ((Go.Lib.cut s.data.toList [58, 32]).2.2 = x) := ⟨_, Lib.hid rfl⟩
  rw [hhd.out] at cl1
  rw [hrs.out] at cl2
  obtain ⟨wd, hwd⟩ : ∃ x, Hid (wdI s.data.toList = x) := ⟨_, Lib.hid rfl⟩
  have hws : Hid (spl 32 hd = wd) := Lib.hid (by rw [← hwd.out, ← hhd.out]; rfl)
  have h1n : 1 ≤ wd.length := by rw [← hws.out]; exact spl_pos _ _
  have h2n : wd.length ≤ 1048577 := by (have h9 := spl_len 32 hd []); rw [← hws.out]; unfold spl; omega
  have CL1 := Lib.hid (show hd.length ≤ 1048576 by omega)
  have CL2 := Lib.hid (show rs.length ≤ 1048575 by omega)
  have HWM : Hid (∀ x ∈ wd, x.length ≤ 1048576) := Lib.hid (fun x hx => by rw [← hws.out] at hx; have := spl_mem hx; omega)
  obtain ⟨ph, hph⟩ : ∃ x, Hid (phI s.data.toList = x) := ⟨_, Lib.hid rfl⟩
  have HPH : Hid (ph = if fd = true then (spl 32 rs).map bar else []) := Lib.hid (by rw [← hph.out, ← hfd.out, ← hrs.out]; rfl)
  clear h h4 hb1 cl1 cl2
  go_enter Tryd.func5, Tryd.ntmps5
  go_upto_region 1 with fail
  generalize (w.alloc (.cells #[.int .i64 0, .int .i64 0, .int .i64 0, .slice none 0 0] 24)) = v1 at *
  go_wp2_with fail
  refine (cut2_any s v1 hs (HC.out.below S.out.on).lib).mono ?_
  rintro e v2 ⟨rfl, hb⟩
  replace S := Lib.hid (S.out.call hb)
  replace Z := Lib.hid (Z.out.call hb)
  rw [hhd.out, hrs.out, hfd.out]
  clear hb 
  have hlo := S.out.sz
  go_wp2_with fail
  refine (splitL_any 32 (bar hd) v2 (by rw [bar_size]; exact CL1.out) (HC.out.below S.out.on).lib).mono ?_
  rintro e v3 ⟨O, oc, ps, rfl, hps, own, hb⟩
  rw [bar_list, hws.out] at hps
  have hpl : ps.length = wd.length := by rw [hps, List.length_map]
  replace S := Lib.hid (S.out.call hb)
  replace Z := Lib.hid (Z.out.call hb)
  have WP := Lib.hid (show OwP w.heap.size v3 O oc ps from ⟨own_mono own.1 hlo, own.2⟩)
  have HP := Lib.hid hps
  rw [hpl]
  clear hb own hlo hps
  have HPL := Lib.hid hpl
  clear hpl
  obtain ⟨n, hn⟩ : ∃ n, wd.length = n := ⟨_, rfl⟩
  rw [hn] at h1n h2n ⊢
  have HN := Lib.hid hn
  clear hn
  have hl1 : n - 1 < wd.length := by have := HN.out; omega
  obtain ⟨g, hO, hc⟩ := str_cell WP.out HP.out hl1
  subst hO
  obtain ⟨xl, hxl⟩ : ∃ x, Hid (wd.getD (n - 1) [] = x) := ⟨_, Lib.hid rfl⟩
  have hx2 : wd[n - 1] = xl := by rw [← hxl.out, List.getD_eq_getElem?_getD, List.getElem?_eq_getElem hl1]; rfl
  have hxm : xl.length ≤ 1048576 := by rw [← hx2]; exact HWM.out _ (List.getElem_mem hl1)
  rw [hx2] at hc
  clear hx2 hl1
  have q1 : IntKind.i64.wrap ((n : Int) - 1) = ((n - 1 : Nat) : Int) := by rw [IntKind.wrap_i64]; omega
  have q2 : (0 : Int) ≤ ((n - 1 : Nat) : Int) := by omega
  have q3 : ((n - 1 : Nat) : Int) < (n : Int) := by omega
  have q4 : ((n - 1 : Nat) : Int).toNat = n - 1 := by omega
  go_wp2_with fail
  refine (ParseInt_any (bar xl) v3 (by rw [bar_size]; unfold maxLen; omega) (HC.out.below S.out.on)).mono ?_
  rintro e v4 ⟨rfl, hb⟩
  replace S := Lib.hid (S.out.call hb)
  replace Z := Lib.hid (Z.out.call hb)
  replace WP := Lib.hid (WP.out.call hb)
  rw [bar_list, optI_eq]
  clear hb hc hxm
  obtain ⟨oP, hoP⟩ : ∃ o, Hid (piV xl = o) := ⟨_, Lib.hid rfl⟩
  rw [hoP.out]
  obtain ⟨pv, hpv⟩ : ∃ y, Hid (nI oP = y) := ⟨_, Lib.hid rfl⟩
  obtain ⟨pb, hpb⟩ : ∃ y, Hid (bI oP = y) := ⟨_, Lib.hid rfl⟩
  rw [hpv.out, hpb.out]
  clear q1 q2 q3 q4
  obtain ⟨x0, hx0⟩ : ∃ x, Hid (wd.getD 0 [] = x) := ⟨_, Lib.hid rfl⟩
  have HL0 : Hid (0 < wd.length) := Lib.hid (by have := HN.out; omega)
  have HX2 : Hid (wd[0]'HL0.out = x0) := Lib.hid (by rw [← hx0.out, List.getD_eq_getElem?_getD, List.getElem?_eq_getElem HL0.out]; rfl)
  have i0 : (0 : Int) < (n : Int) := by omega
  have i00 : 0 < n := by omega
  have KX : ∀ {w'' : World}, OwP w.heap.size w'' (some ⟨g, 0, none⟩) oc ps → w''.cell? ⟨g, 0, none⟩ = some (.string (bar x0)) := fun h => by (obtain ⟨g3, h3, h4⟩ := str_cell h HP.out HL0.out); cases h3; rw [HX2.out] at h4; exact h4
  obtain ⟨kd, hkd⟩ : ∃ y, Hid (kdI x0 = y) := ⟨_, Lib.hid rfl⟩
  go_upto_region 4 with fail
  go_cut [10] (fun u wx => ∃ (q g2 : Nat), u = .pointer (some ⟨q, 0, none⟩) ∧ w.heap.size < q ∧ Hid (Lst w wx none 0) ∧ Hid (BT wx w.heap.size 24 [.int .i64 0, .int .i64 0, .int .i64 0, .slice none 0 0]) ∧ Hid (OwP w.heap.size wx (some ⟨g, 0, none⟩) oc ps) ∧ Hid (BT wx q 24 [.int .i64 kd, .int .i64 pv, .int .i64 0, .slice (some ⟨g2, 0, none⟩) 0 0]) ∧ Hid (OwD StrK 9 w.heap.size wx (some ⟨g2, 0, none⟩) 0 []))
  case first =>
    refine wp_region_noPanic ?_
    refine wp_region_held_drew (S := (fun w'' => w''.cell? ⟨g, 0, none⟩ = some (.string (bar x0)))) (by kernel_rfl) ?_ (fun hHeld => ?_)
    · ((try dsimp only); exact KX (WP.out.call (Below.refl _ _).drew))
    replace S := Lib.hid (S.out.call (show Below v4.heap.size v4 v4.drew from (Below.refl _ _).drew))
    replace Z := Lib.hid (Z.out.call (show Below v4.heap.size v4 v4.drew from (Below.refl _ _).drew))
    replace WP := Lib.hid (WP.out.call (show Below v4.heap.size v4 v4.drew from (Below.refl _ _).drew))
    generalize v4.drew = v5 at *
    refine take_yes (i := 0) (d := 31) (v := ?_) rfl rfl (by kernel_rfl) (by kernel_rfl) (by kernel_rfl) (fun _ _ _ h => h) (by kernel_rfl) ?_ hHeld ?_
    rotate_left
    · (intro w hSw; (try dsimp only at hSw); go_simp; try (with_reducible rfl))
    try simp only [Act.put, List.setIfInBounds_toArray, List.set_cons_zero, List.set_cons_succ]
    refine take_yes (i := 1) (d := 32) (v := ?_) rfl rfl (by kernel_rfl) (by kernel_rfl) (by kernel_rfl) (fun _ _ _ h => h) (by kernel_rfl) ?_ hHeld ?_
    rotate_left
    · (intro w hSw; (try dsimp only at hSw); go_simp; try (with_reducible rfl))
    try simp only [Act.put, List.setIfInBounds_toArray, List.set_cons_zero, List.set_cons_succ]
    refine take_yes (i := 2) (d := 33) (v := ?_) rfl rfl (by kernel_rfl) (by kernel_rfl) (by kernel_rfl) (fun _ _ _ h => h) (by kernel_rfl) ?_ hHeld ?_
    rotate_left
    · (intro w hSw; (try dsimp only at hSw); go_simp; try (with_reducible rfl))
    try simp only [Act.put, List.setIfInBounds_toArray, List.set_cons_zero, List.set_cons_succ]
    refine take_yes (i := 3) (d := 34) (v := ?_) rfl rfl (by kernel_rfl) (by kernel_rfl) (by kernel_rfl) (fun _ _ _ h => h) (by kernel_rfl) ?_ hHeld ?_
    rotate_left
    · (intro w hSw; (try dsimp only at hSw); go_simp; try (with_reducible rfl))
    try simp only [Act.put, List.setIfInBounds_toArray, List.set_cons_zero, List.set_cons_succ]
    refine take_yes (i := 5) (d := 36) (v := ?_) rfl rfl (by kernel_rfl) (by kernel_rfl) (by kernel_rfl) (fun _ _ _ h => h) (by kernel_rfl) ?_ hHeld ?_
    rotate_left
    · (intro w hSw; (try dsimp only at hSw); go_simp; try (with_reducible rfl))
    try simp only [Act.put, List.setIfInBounds_toArray, List.set_cons_zero, List.set_cons_succ]
    refine wpAnyH_ready (rs := [4, 6, 8]) (by kernel_rfl) (by simp) ?_
    refine AllReadyH.cons rfl (fun K hK => ?_) (AllReadyH.cons rfl (fun K hK => ?_) (AllReadyH.cons rfl (fun K hK => ?_) (AllReadyH.nil)))
    · skip
      go_simp
      (go_at_call 13; refine (index4_any x0 _ (H4.out.below S.out.on)).mono ?_; rintro e w9 ⟨rfl, hw9⟩; rw [hkd.out]; subst hw9)
      (first | refine hK.out _ _ ?_ (fun hHeld1 => ?_) | (go_wp2_with fail; refine hK.out _ _ ?_ (fun hHeld1 => ?_)))
      · ((try dsimp only); exact KX WP.out)
      clear hK K hHeld
      have hHeld := hHeld1
      clear hHeld1
      try simp only [Act.put, List.setIfInBounds_toArray, List.set_cons_zero, List.set_cons_succ]
      refine wpAnyH_ready (rs := [6, 8]) (by kernel_rfl) (by simp) ?_
      refine AllReadyH.cons rfl (fun K hK => ?_) (AllReadyH.cons rfl (fun K hK => ?_) (AllReadyH.nil))
      · skip
        try go_simp
        have hbl := below1 v5 (.cells #[] 9)
        have NW := Lib.hid (show OwD StrK 9 w.heap.size (v5.alloc (.cells #[] 9)) (some ⟨v5.heap.size, 0, none⟩) 0 [] from Ow.mk (K := StrK) (own_nil_lit v5 w.heap.size v5.heap.size 9 1 rfl S.out.sz) (by simp) (by simp))
        replace S := Lib.hid (S.out.call hbl)
        replace Z := Lib.hid (Z.out.call hbl)
        replace WP := Lib.hid (WP.out.call hbl)
        clear hbl
        (first | refine hK.out _ _ ?_ (fun hHeld1 => ?_) | (go_wp2_with fail; refine hK.out _ _ ?_ (fun hHeld1 => ?_)))
        · ((try dsimp only); exact KX WP.out)
        clear hK K hHeld
        have hHeld := hHeld1
        clear hHeld1
        try simp only [Act.put, List.setIfInBounds_toArray, List.set_cons_zero, List.set_cons_succ]
        generalize (v5.alloc (.cells #[] 9)) = v6 at *
        generalize v5.heap.size = g2 at *
        refine take_yes (i := 7) (d := 38) (v := ?_) rfl rfl (by kernel_rfl) (by kernel_rfl) (by kernel_rfl) (fun _ _ _ h => h) (by kernel_rfl) ?_ hHeld ?_
        rotate_left
        · (intro w hSw; (try dsimp only at hSw); go_simp; try (with_reducible rfl))
        try simp only [Act.put, List.setIfInBounds_toArray, List.set_cons_zero, List.set_cons_succ]
        refine wpAnyH_ready (rs := [8]) (by kernel_rfl) (by simp) ?_
        refine AllReadyH.cons rfl (fun K hK => ?_) (AllReadyH.nil)
        try go_simp
        have hqz := Z.out.lt
        have hbl := below1 v6 (.cells #[.int .i64 0, .int .i64 0, .int .i64 0, .slice none 0 0] 24)
        have T := Lib.hid (BT.new v6 #[.int .i64 0, .int .i64 0, .int .i64 0, .slice none 0 0] 24 v6.heap.size rfl)
        replace S := Lib.hid (S.out.call hbl)
        replace Z := Lib.hid (Z.out.call hbl)
        replace WP := Lib.hid (WP.out.call hbl)
        replace NW := Lib.hid (NW.out.call hbl)
        clear hbl
        (first | refine hK.out _ _ ?_ (fun hHeld1 => ?_) | (go_wp2_with fail; refine hK.out _ _ ?_ (fun hHeld1 => ?_)))
        · ((try dsimp only); exact KX WP.out)
        clear hK K hHeld
        have hHeld := hHeld1
        clear hHeld1
        try simp only [Act.put, List.setIfInBounds_toArray, List.set_cons_zero, List.set_cons_succ]
        generalize (v6.alloc (.cells #[.int .i64 0, .int .i64 0, .int .i64 0, .slice none 0 0] 24)) = v7 at *
        generalize v6.heap.size = q at *
        refine wpAnyH_ready (rs := [9]) (by kernel_rfl) (by simp) ?_
        refine AllReadyH.cons rfl (fun K hK => ?_) (AllReadyH.nil)
        have hsc : v7.setCells q 0 (#[.int .i64 kd, .int .i64 pv, .int .i64 0, .slice (some ⟨g2, 0, none⟩) 0 0] : Array Value).toList = v7.setCells q 0 [.int .i64 kd, .int .i64 pv, .int .i64 0, .slice (some ⟨g2, 0, none⟩) 0 0] := rfl
        have hsz := S.out.sz
        rw [if_pos (by kernel_rfl)]
        refine wp_store_mid 24 _ _ (by rfl) q 0 #[.int .i64 kd, .int .i64 pv, .int .i64 0, .slice (some ⟨g2, 0, none⟩) 0 0] (by rfl) (by rfl) T.out.there (by kernel_rfl) (by simp [Value.oneCell']) ?_
        rw [hsc]
        clear hsc
        replace S := Lib.hid (S.out.puts (q := q) (by omega) 0 [.int .i64 kd, .int .i64 pv, .int .i64 0, .slice (some ⟨g2, 0, none⟩) 0 0])
        replace Z := Lib.hid (Z.out.putsfar q (by omega) 0 [.int .i64 kd, .int .i64 pv, .int .i64 0, .slice (some ⟨g2, 0, none⟩) 0 0])
        replace WP := Lib.hid (WP.out.puts T.out.ty (by decide) 0 [.int .i64 kd, .int .i64 pv, .int .i64 0, .slice (some ⟨g2, 0, none⟩) 0 0])
        replace NW := Lib.hid (NW.out.puts T.out.ty (by decide) 0 [.int .i64 kd, .int .i64 pv, .int .i64 0, .slice (some ⟨g2, 0, none⟩) 0 0])
        replace T := Lib.hid (T.out.puts [.int .i64 kd, .int .i64 pv, .int .i64 0, .slice (some ⟨g2, 0, none⟩) 0 0] (by rfl))
        (first | refine hK.out _ _ ?_ (fun hHeld1 => ?_) | (go_wp2_with fail; refine hK.out _ _ ?_ (fun hHeld1 => ?_)))
        · ((try dsimp only); exact KX WP.out)
        clear hK K hHeld
        have hHeld := hHeld1
        clear hHeld1
        try simp only [Act.put, List.setIfInBounds_toArray, List.set_cons_zero, List.set_cons_succ]
        generalize (v7.setCells q 0 [.int .i64 kd, .int .i64 pv, .int .i64 0, .slice (some ⟨g2, 0, none⟩) 0 0]) = v8 at *
        refine wpAnyH_done (by kernel_rfl) ?_ _
        refine NoPanic.normal ?_
        clear hHeld KX
        go_wp2_with fail
        go_meet
        exact ⟨q, g2, rfl, hqz, S, Z, WP, T, NW⟩
      · skip
        try go_simp
        have hqz := Z.out.lt
        have hbl := below1 v5 (.cells #[.int .i64 0, .int .i64 0, .int .i64 0, .slice none 0 0] 24)
        have T := Lib.hid (BT.new v5 #[.int .i64 0, .int .i64 0, .int .i64 0, .slice none 0 0] 24 v5.heap.size rfl)
        replace S := Lib.hid (S.out.call hbl)
        replace Z := Lib.hid (Z.out.call hbl)
        replace WP := Lib.hid (WP.out.call hbl)
        clear hbl
        (first | refine hK.out _ _ ?_ (fun hHeld1 => ?_) | (go_wp2_with fail; refine hK.out _ _ ?_ (fun hHeld1 => ?_)))
        · ((try dsimp only); exact KX WP.out)
        clear hK K hHeld
        have hHeld := hHeld1
        clear hHeld1
        try simp only [Act.put, List.setIfInBounds_toArray, List.set_cons_zero, List.set_cons_succ]
        generalize (v5.alloc (.cells #[.int .i64 0, .int .i64 0, .int .i64 0, .slice none 0 0] 24)) = v9 at *
        generalize v5.heap.size = q at *
        refine wpAnyH_ready (rs := [6]) (by kernel_rfl) (by simp) ?_
        refine AllReadyH.cons rfl (fun K hK => ?_) (AllReadyH.nil)
        try go_simp
        have hbl := below1 v9 (.cells #[] 9)
        have NW := Lib.hid (show OwD StrK 9 w.heap.size (v9.alloc (.cells #[] 9)) (some ⟨v9.heap.size, 0, none⟩) 0 [] from Ow.mk (K := StrK) (own_nil_lit v9 w.heap.size v9.heap.size 9 1 rfl S.out.sz) (by simp) (by simp))
        replace S := Lib.hid (S.out.call hbl)
        replace Z := Lib.hid (Z.out.call hbl)
        replace WP := Lib.hid (WP.out.call hbl)
        replace T := Lib.hid (T.out.call hbl)
        clear hbl
        (first | refine hK.out _ _ ?_ (fun hHeld1 => ?_) | (go_wp2_with fail; refine hK.out _ _ ?_ (fun hHeld1 => ?_)))
        · ((try dsimp only); exact KX WP.out)
        clear hK K hHeld
        have hHeld := hHeld1
        clear hHeld1
        try simp only [Act.put, List.setIfInBounds_toArray, List.set_cons_zero, List.set_cons_succ]
        generalize (v9.alloc (.cells #[] 9)) = v10 at *
        generalize v9.heap.size = g2 at *
        refine take_yes (i := 7) (d := 38) (v := ?_) rfl rfl (by kernel_rfl) (by kernel_rfl) (by kernel_rfl) (fun _ _ _ h => h) (by kernel_rfl) ?_ hHeld ?_
        rotate_left
        · (intro w hSw; (try dsimp only at hSw); go_simp; try (with_reducible rfl))
        try simp only [Act.put, List.setIfInBounds_toArray, List.set_cons_zero, List.set_cons_succ]
        refine wpAnyH_ready (rs := [9]) (by kernel_rfl) (by simp) ?_
        refine AllReadyH.cons rfl (fun K hK => ?_) (AllReadyH.nil)
        have hsc : v10.setCells q 0 (#[.int .i64 kd, .int .i64 pv, .int .i64 0, .slice (some ⟨g2, 0, none⟩) 0 0] : Array Value).toList = v10.setCells q 0 [.int .i64 kd, .int .i64 pv, .int .i64 0, .slice (some ⟨g2, 0, none⟩) 0 0] := rfl
        have hsz := S.out.sz
        rw [if_pos (by kernel_rfl)]
        refine wp_store_mid 24 _ _ (by rfl) q 0 #[.int .i64 kd, .int .i64 pv, .int .i64 0, .slice (some ⟨g2, 0, none⟩) 0 0] (by rfl) (by rfl) T.out.there (by kernel_rfl) (by simp [Value.oneCell']) ?_
        rw [hsc]
        clear hsc
        replace S := Lib.hid (S.out.puts (q := q) (by omega) 0 [.int .i64 kd, .int .i64 pv, .int .i64 0, .slice (some ⟨g2, 0, none⟩) 0 0])
        replace Z := Lib.hid (Z.out.putsfar q (by omega) 0 [.int .i64 kd, .int .i64 pv, .int .i64 0, .slice (some ⟨g2, 0, none⟩) 0 0])
        replace WP := Lib.hid (WP.out.puts T.out.ty (by decide) 0 [.int .i64 kd, .int .i64 pv, .int .i64 0, .slice (some ⟨g2, 0, none⟩) 0 0])
        replace NW := Lib.hid (NW.out.puts T.out.ty (by decide) 0 [.int .i64 kd, .int .i64 pv, .int .i64 0, .slice (some ⟨g2, 0, none⟩) 0 0])
        replace T := Lib.hid (T.out.puts [.int .i64 kd, .int .i64 pv, .int .i64 0, .slice (some ⟨g2, 0, none⟩) 0 0] (by rfl))
        (first | refine hK.out _ _ ?_ (fun hHeld1 => ?_) | (go_wp2_with fail; refine hK.out _ _ ?_ (fun hHeld1 => ?_)))
        · ((try dsimp only); exact KX WP.out)
        clear hK K hHeld
        have hHeld := hHeld1
        clear hHeld1
        try simp only [Act.put, List.setIfInBounds_toArray, List.set_cons_zero, List.set_cons_succ]
        generalize (v10.setCells q 0 [.int .i64 kd, .int .i64 pv, .int .i64 0, .slice (some ⟨g2, 0, none⟩) 0 0]) = v11 at *
        refine wpAnyH_done (by kernel_rfl) ?_ _
        refine NoPanic.normal ?_
        clear hHeld KX
        go_wp2_with fail
        go_meet
        exact ⟨q, g2, rfl, hqz, S, Z, WP, T, NW⟩
    · skip
      try go_simp
      have hbl := below1 v5 (.cells #[] 9)
      have NW := Lib.hid (show OwD StrK 9 w.heap.size (v5.alloc (.cells #[] 9)) (some ⟨v5.heap.size, 0, none⟩) 0 [] from Ow.mk (K := StrK) (own_nil_lit v5 w.heap.size v5.heap.size 9 1 rfl S.out.sz) (by simp) (by simp))
      replace S := Lib.hid (S.out.call hbl)
      replace Z := Lib.hid (Z.out.call hbl)
      replace WP := Lib.hid (WP.out.call hbl)
      clear hbl
      (first | refine hK.out _ _ ?_ (fun hHeld1 => ?_) | (go_wp2_with fail; refine hK.out _ _ ?_ (fun hHeld1 => ?_)))
      · ((try dsimp only); exact KX WP.out)
      clear hK K hHeld
      have hHeld := hHeld1
      clear hHeld1
      try simp only [Act.put, List.setIfInBounds_toArray, List.set_cons_zero, List.set_cons_succ]
      generalize (v5.alloc (.cells #[] 9)) = v12 at *
      generalize v5.heap.size = g2 at *
      refine wpAnyH_ready (rs := [4, 8]) (by kernel_rfl) (by simp) ?_
      refine AllReadyH.cons rfl (fun K hK => ?_) (AllReadyH.cons rfl (fun K hK => ?_) (AllReadyH.nil))
      · skip
        go_simp
        (go_at_call 13; refine (index4_any x0 _ (H4.out.below S.out.on)).mono ?_; rintro e w9 ⟨rfl, hw9⟩; rw [hkd.out]; subst hw9)
        (first | refine hK.out _ _ ?_ (fun hHeld1 => ?_) | (go_wp2_with fail; refine hK.out _ _ ?_ (fun hHeld1 => ?_)))
        · ((try dsimp only); exact KX WP.out)
        clear hK K hHeld
        have hHeld := hHeld1
        clear hHeld1
        try simp only [Act.put, List.setIfInBounds_toArray, List.set_cons_zero, List.set_cons_succ]
        refine take_yes (i := 7) (d := 38) (v := ?_) rfl rfl (by kernel_rfl) (by kernel_rfl) (by kernel_rfl) (fun _ _ _ h => h) (by kernel_rfl) ?_ hHeld ?_
        rotate_left
        · (intro w hSw; (try dsimp only at hSw); go_simp; try (with_reducible rfl))
        try simp only [Act.put, List.setIfInBounds_toArray, List.set_cons_zero, List.set_cons_succ]
        refine wpAnyH_ready (rs := [8]) (by kernel_rfl) (by simp) ?_
        refine AllReadyH.cons rfl (fun K hK => ?_) (AllReadyH.nil)
        try go_simp
        have hqz := Z.out.lt
        have hbl := below1 v12 (.cells #[.int .i64 0, .int .i64 0, .int .i64 0, .slice none 0 0] 24)
        have T := Lib.hid (BT.new v12 #[.int .i64 0, .int .i64 0, .int .i64 0, .slice none 0 0] 24 v12.heap.size rfl)
        replace S := Lib.hid (S.out.call hbl)
        replace Z := Lib.hid (Z.out.call hbl)
        replace WP := Lib.hid (WP.out.call hbl)
        replace NW := Lib.hid (NW.out.call hbl)
        clear hbl
        (first | refine hK.out _ _ ?_ (fun hHeld1 => ?_) | (go_wp2_with fail; refine hK.out _ _ ?_ (fun hHeld1 => ?_)))
        · ((try dsimp only); exact KX WP.out)
        clear hK K hHeld
        have hHeld := hHeld1
        clear hHeld1
        try simp only [Act.put, List.setIfInBounds_toArray, List.set_cons_zero, List.set_cons_succ]
        generalize (v12.alloc (.cells #[.int .i64 0, .int .i64 0, .int .i64 0, .slice none 0 0] 24)) = v13 at *
        generalize v12.heap.size = q at *
        refine wpAnyH_ready (rs := [9]) (by kernel_rfl) (by simp) ?_
        refine AllReadyH.cons rfl (fun K hK => ?_) (AllReadyH.nil)
        have hsc : v13.setCells q 0 (#[.int .i64 kd, .int .i64 pv, .int .i64 0, .slice (some ⟨g2, 0, none⟩) 0 0] : Array Value).toList = v13.setCells q 0 [.int .i64 kd, .int .i64 pv, .int .i64 0, .slice (some ⟨g2, 0, none⟩) 0 0] := rfl
        have hsz := S.out.sz
        rw [if_pos (by kernel_rfl)]
        refine wp_store_mid 24 _ _ (by rfl) q 0 #[.int .i64 kd, .int .i64 pv, .int .i64 0, .slice (some ⟨g2, 0, none⟩) 0 0] (by rfl) (by rfl) T.out.there (by kernel_rfl) (by simp [Value.oneCell']) ?_
        rw [hsc]
        clear hsc
        replace S := Lib.hid (S.out.puts (q := q) (by omega) 0 [.int .i64 kd, .int .i64 pv, .int .i64 0, .slice (some ⟨g2, 0, none⟩) 0 0])
        replace Z := Lib.hid (Z.out.putsfar q (by omega) 0 [.int .i64 kd, .int .i64 pv, .int .i64 0, .slice (some ⟨g2, 0, none⟩) 0 0])
        replace WP := Lib.hid (WP.out.puts T.out.ty (by decide) 0 [.int .i64 kd, .int .i64 pv, .int .i64 0, .slice (some ⟨g2, 0, none⟩) 0 0])
        replace NW := Lib.hid (NW.out.puts T.out.ty (by decide) 0 [.int .i64 kd, .int .i64 pv, .int .i64 0, .slice (some ⟨g2, 0, none⟩) 0 0])
        replace T := Lib.hid (T.out.puts [.int .i64 kd, .int .i64 pv, .int .i64 0, .slice (some ⟨g2, 0, none⟩) 0 0] (by rfl))
        (first | refine hK.out _ _ ?_ (fun hHeld1 => ?_) | (go_wp2_with fail; refine hK.out _ _ ?_ (fun hHeld1 => ?_)))
        · ((try dsimp only); exact KX WP.out)
        clear hK K hHeld
        have hHeld := hHeld1
        clear hHeld1
        try simp only [Act.put, List.setIfInBounds_toArray, List.set_cons_zero, List.set_cons_succ]
        generalize (v13.setCells q 0 [.int .i64 kd, .int .i64 pv, .int .i64 0, .slice (some ⟨g2, 0, none⟩) 0 0]) = v14 at *
        refine wpAnyH_done (by kernel_rfl) ?_ _
        refine NoPanic.normal ?_
        clear hHeld KX
        go_wp2_with fail
        go_meet
        exact ⟨q, g2, rfl, hqz, S, Z, WP, T, NW⟩
      · skip
        try go_simp
        have hqz := Z.out.lt
        have hbl := below1 v12 (.cells #[.int .i64 0, .int .i64 0, .int .i64 0, .slice none 0 0] 24)
        have T := Lib.hid (BT.new v12 #[.int .i64 0, .int .i64 0, .int .i64 0, .slice none 0 0] 24 v12.heap.size rfl)
        replace S := Lib.hid (S.out.call hbl)
        replace Z := Lib.hid (Z.out.call hbl)
        replace WP := Lib.hid (WP.out.call hbl)
        replace NW := Lib.hid (NW.out.call hbl)
        clear hbl
        (first | refine hK.out _ _ ?_ (fun hHeld1 => ?_) | (go_wp2_with fail; refine hK.out _ _ ?_ (fun hHeld1 => ?_)))
        · ((try dsimp only); exact KX WP.out)
        clear hK K hHeld
        have hHeld := hHeld1
        clear hHeld1
        try simp only [Act.put, List.setIfInBounds_toArray, List.set_cons_zero, List.set_cons_succ]
        generalize (v12.alloc (.cells #[.int .i64 0, .int .i64 0, .int .i64 0, .slice none 0 0] 24)) = v15 at *
        generalize v12.heap.size = q at *
        refine wpAnyH_ready (rs := [4]) (by kernel_rfl) (by simp) ?_
        refine AllReadyH.cons rfl (fun K hK => ?_) (AllReadyH.nil)
        go_simp
        (go_at_call 13; refine (index4_any x0 _ (H4.out.below S.out.on)).mono ?_; rintro e w9 ⟨rfl, hw9⟩; rw [hkd.out]; subst hw9)
        (first | refine hK.out _ _ ?_ (fun hHeld1 => ?_) | (go_wp2_with fail; refine hK.out _ _ ?_ (fun hHeld1 => ?_)))
        · ((try dsimp only); exact KX WP.out)
        clear hK K hHeld
        have hHeld := hHeld1
        clear hHeld1
        try simp only [Act.put, List.setIfInBounds_toArray, List.set_cons_zero, List.set_cons_succ]
        refine take_yes (i := 7) (d := 38) (v := ?_) rfl rfl (by kernel_rfl) (by kernel_rfl) (by kernel_rfl) (fun _ _ _ h => h) (by kernel_rfl) ?_ hHeld ?_
        rotate_left
        · (intro w hSw; (try dsimp only at hSw); go_simp; try (with_reducible rfl))
        try simp only [Act.put, List.setIfInBounds_toArray, List.set_cons_zero, List.set_cons_succ]
        refine wpAnyH_ready (rs := [9]) (by kernel_rfl) (by simp) ?_
        refine AllReadyH.cons rfl (fun K hK => ?_) (AllReadyH.nil)
        have hsc : v15.setCells q 0 (#[.int .i64 kd, .int .i64 pv, .int .i64 0, .slice (some ⟨g2, 0, none⟩) 0 0] : Array Value).toList = v15.setCells q 0 [.int .i64 kd, .int .i64 pv, .int .i64 0, .slice (some ⟨g2, 0, none⟩) 0 0] := rfl
        have hsz := S.out.sz
        rw [if_pos (by kernel_rfl)]
        refine wp_store_mid 24 _ _ (by rfl) q 0 #[.int .i64 kd, .int .i64 pv, .int .i64 0, .slice (some ⟨g2, 0, none⟩) 0 0] (by rfl) (by rfl) T.out.there (by kernel_rfl) (by simp [Value.oneCell']) ?_
        rw [hsc]
        clear hsc
        replace S := Lib.hid (S.out.puts (q := q) (by omega) 0 [.int .i64 kd, .int .i64 pv, .int .i64 0, .slice (some ⟨g2, 0, none⟩) 0 0])
        replace Z := Lib.hid (Z.out.putsfar q (by omega) 0 [.int .i64 kd, .int .i64 pv, .int .i64 0, .slice (some ⟨g2, 0, none⟩) 0 0])
        replace WP := Lib.hid (WP.out.puts T.out.ty (by decide) 0 [.int .i64 kd, .int .i64 pv, .int .i64 0, .slice (some ⟨g2, 0, none⟩) 0 0])
        replace NW := Lib.hid (NW.out.puts T.out.ty (by decide) 0 [.int .i64 kd, .int .i64 pv, .int .i64 0, .slice (some ⟨g2, 0, none⟩) 0 0])
        replace T := Lib.hid (T.out.puts [.int .i64 kd, .int .i64 pv, .int .i64 0, .slice (some ⟨g2, 0, none⟩) 0 0] (by rfl))
        (first | refine hK.out _ _ ?_ (fun hHeld1 => ?_) | (go_wp2_with fail; refine hK.out _ _ ?_ (fun hHeld1 => ?_)))
        · ((try dsimp only); exact KX WP.out)
        clear hK K hHeld
        have hHeld := hHeld1
        clear hHeld1
        try simp only [Act.put, List.setIfInBounds_toArray, List.set_cons_zero, List.set_cons_succ]
        generalize (v15.setCells q 0 [.int .i64 kd, .int .i64 pv, .int .i64 0, .slice (some ⟨g2, 0, none⟩) 0 0]) = v16 at *
        refine wpAnyH_done (by kernel_rfl) ?_ _
        refine NoPanic.normal ?_
        clear hHeld KX
        go_wp2_with fail
        go_meet
        exact ⟨q, g2, rfl, hqz, S, Z, WP, T, NW⟩
    · skip
      try go_simp
      have hqz := Z.out.lt
      have hbl := below1 v5 (.cells #[.int .i64 0, .int .i64 0, .int .i64 0, .slice none 0 0] 24)
      have T := Lib.hid (BT.new v5 #[.int .i64 0, .int .i64 0, .int .i64 0, .slice none 0 0] 24 v5.heap.size rfl)
      replace S := Lib.hid (S.out.call hbl)
      replace Z := Lib.hid (Z.out.call hbl)
      replace WP := Lib.hid (WP.out.call hbl)
      clear hbl
      (first | refine hK.out _ _ ?_ (fun hHeld1 => ?_) | (go_wp2_with fail; refine hK.out _ _ ?_ (fun hHeld1 => ?_)))
      · ((try dsimp only); exact KX WP.out)
      clear hK K hHeld
      have hHeld := hHeld1
      clear hHeld1
      try simp only [Act.put, List.setIfInBounds_toArray, List.set_cons_zero, List.set_cons_succ]
      generalize (v5.alloc (.cells #[.int .i64 0, .int .i64 0, .int .i64 0, .slice none 0 0] 24)) = v17 at *
      generalize v5.heap.size = q at *
      refine wpAnyH_ready (rs := [4, 6]) (by kernel_rfl) (by simp) ?_
      refine AllReadyH.cons rfl (fun K hK => ?_) (AllReadyH.cons rfl (fun K hK => ?_) (AllReadyH.nil))
      · skip
        go_simp
        (go_at_call 13; refine (index4_any x0 _ (H4.out.below S.out.on)).mono ?_; rintro e w9 ⟨rfl, hw9⟩; rw [hkd.out]; subst hw9)
        (first | refine hK.out _ _ ?_ (fun hHeld1 => ?_) | (go_wp2_with fail; refine hK.out _ _ ?_ (fun hHeld1 => ?_)))
        · ((try dsimp only); exact KX WP.out)
        clear hK K hHeld
        have hHeld := hHeld1
        clear hHeld1
        try simp only [Act.put, List.setIfInBounds_toArray, List.set_cons_zero, List.set_cons_succ]
        refine wpAnyH_ready (rs := [6]) (by kernel_rfl) (by simp) ?_
        refine AllReadyH.cons rfl (fun K hK => ?_) (AllReadyH.nil)
        try go_simp
        have hbl := below1 v17 (.cells #[] 9)
        have NW := Lib.hid (show OwD StrK 9 w.heap.size (v17.alloc (.cells #[] 9)) (some ⟨v17.heap.size, 0, none⟩) 0 [] from Ow.mk (K := StrK) (own_nil_lit v17 w.heap.size v17.heap.size 9 1 rfl S.out.sz) (by simp) (by simp))
        replace S := Lib.hid (S.out.call hbl)
        replace Z := Lib.hid (Z.out.call hbl)
        replace WP := Lib.hid (WP.out.call hbl)
        replace T := Lib.hid (T.out.call hbl)
        clear hbl
        (first | refine hK.out _ _ ?_ (fun hHeld1 => ?_) | (go_wp2_with fail; refine hK.out _ _ ?_ (fun hHeld1 => ?_)))
        · ((try dsimp only); exact KX WP.out)
        clear hK K hHeld
        have hHeld := hHeld1
        clear hHeld1
        try simp only [Act.put, List.setIfInBounds_toArray, List.set_cons_zero, List.set_cons_succ]
        generalize (v17.alloc (.cells #[] 9)) = v18 at *
        generalize v17.heap.size = g2 at *
        refine take_yes (i := 7) (d := 38) (v := ?_) rfl rfl (by kernel_rfl) (by kernel_rfl) (by kernel_rfl) (fun _ _ _ h => h) (by kernel_rfl) ?_ hHeld ?_
        rotate_left
        · (intro w hSw; (try dsimp only at hSw); go_simp; try (with_reducible rfl))
        try simp only [Act.put, List.setIfInBounds_toArray, List.set_cons_zero, List.set_cons_succ]
        refine wpAnyH_ready (rs := [9]) (by kernel_rfl) (by simp) ?_
        refine AllReadyH.cons rfl (fun K hK => ?_) (AllReadyH.nil)
        have hsc : v18.setCells q 0 (#[.int .i64 kd, .int .i64 pv, .int .i64 0, .slice (some ⟨g2, 0, none⟩) 0 0] : Array Value).toList = v18.setCells q 0 [.int .i64 kd, .int .i64 pv, .int .i64 0, .slice (some ⟨g2, 0, none⟩) 0 0] := rfl
        have hsz := S.out.sz
        rw [if_pos (by kernel_rfl)]
        refine wp_store_mid 24 _ _ (by rfl) q 0 #[.int .i64 kd, .int .i64 pv, .int .i64 0, .slice (some ⟨g2, 0, none⟩) 0 0] (by rfl) (by rfl) T.out.there (by kernel_rfl) (by simp [Value.oneCell']) ?_
        rw [hsc]
        clear hsc
        replace S := Lib.hid (S.out.puts (q := q) (by omega) 0 [.int .i64 kd, .int .i64 pv, .int .i64 0, .slice (some ⟨g2, 0, none⟩) 0 0])
        replace Z := Lib.hid (Z.out.putsfar q (by omega) 0 [.int .i64 kd, .int .i64 pv, .int .i64 0, .slice (some ⟨g2, 0, none⟩) 0 0])
        replace WP := Lib.hid (WP.out.puts T.out.ty (by decide) 0 [.int .i64 kd, .int .i64 pv, .int .i64 0, .slice (some ⟨g2, 0, none⟩) 0 0])
        replace NW := Lib.hid (NW.out.puts T.out.ty (by decide) 0 [.int .i64 kd, .int .i64 pv, .int .i64 0, .slice (some ⟨g2, 0, none⟩) 0 0])
        replace T := Lib.hid (T.out.puts [.int .i64 kd, .int .i64 pv, .int .i64 0, .slice (some ⟨g2, 0, none⟩) 0 0] (by rfl))
        (first | refine hK.out _ _ ?_ (fun hHeld1 => ?_) | (go_wp2_with fail; refine hK.out _ _ ?_ (fun hHeld1 => ?_)))
        · ((try dsimp only); exact KX WP.out)
        clear hK K hHeld
        have hHeld := hHeld1
        clear hHeld1
        try simp only [Act.put, List.setIfInBounds_toArray, List.set_cons_zero, List.set_cons_succ]
        generalize (v18.setCells q 0 [.int .i64 kd, .int .i64 pv, .int .i64 0, .slice (some ⟨g2, 0, none⟩) 0 0]) = v19 at *
        refine wpAnyH_done (by kernel_rfl) ?_ _
        refine NoPanic.normal ?_
        clear hHeld KX
        go_wp2_with fail
        go_meet
        exact ⟨q, g2, rfl, hqz, S, Z, WP, T, NW⟩
      · skip
        try go_simp
        have hbl := below1 v17 (.cells #[] 9)
        have NW := Lib.hid (show OwD StrK 9 w.heap.size (v17.alloc (.cells #[] 9)) (some ⟨v17.heap.size, 0, none⟩) 0 [] from Ow.mk (K := StrK) (own_nil_lit v17 w.heap.size v17.heap.size 9 1 rfl S.out.sz) (by simp) (by simp))
        replace S := Lib.hid (S.out.call hbl)
        replace Z := Lib.hid (Z.out.call hbl)
        replace WP := Lib.hid (WP.out.call hbl)
        replace T := Lib.hid (T.out.call hbl)
        clear hbl
        (first | refine hK.out _ _ ?_ (fun hHeld1 => ?_) | (go_wp2_with fail; refine hK.out _ _ ?_ (fun hHeld1 => ?_)))
        · ((try dsimp only); exact KX WP.out)
        clear hK K hHeld
        have hHeld := hHeld1
        clear hHeld1
        try simp only [Act.put, List.setIfInBounds_toArray, List.set_cons_zero, List.set_cons_succ]
        generalize (v17.alloc (.cells #[] 9)) = v20 at *
        generalize v17.heap.size = g2 at *
        refine wpAnyH_ready (rs := [4]) (by kernel_rfl) (by simp) ?_
        refine AllReadyH.cons rfl (fun K hK => ?_) (AllReadyH.nil)
        go_simp
        (go_at_call 13; refine (index4_any x0 _ (H4.out.below S.out.on)).mono ?_; rintro e w9 ⟨rfl, hw9⟩; rw [hkd.out]; subst hw9)
        (first | refine hK.out _ _ ?_ (fun hHeld1 => ?_) | (go_wp2_with fail; refine hK.out _ _ ?_ (fun hHeld1 => ?_)))
        · ((try dsimp only); exact KX WP.out)
        clear hK K hHeld
        have hHeld := hHeld1
        clear hHeld1
        try simp only [Act.put, List.setIfInBounds_toArray, List.set_cons_zero, List.set_cons_succ]
        refine take_yes (i := 7) (d := 38) (v := ?_) rfl rfl (by kernel_rfl) (by kernel_rfl) (by kernel_rfl) (fun _ _ _ h => h) (by kernel_rfl) ?_ hHeld ?_
        rotate_left
        · (intro w hSw; (try dsimp only at hSw); go_simp; try (with_reducible rfl))
        try simp only [Act.put, List.setIfInBounds_toArray, List.set_cons_zero, List.set_cons_succ]
        refine wpAnyH_ready (rs := [9]) (by kernel_rfl) (by simp) ?_
        refine AllReadyH.cons rfl (fun K hK => ?_) (AllReadyH.nil)
        have hsc : v20.setCells q 0 (#[.int .i64 kd, .int .i64 pv, .int .i64 0, .slice (some ⟨g2, 0, none⟩) 0 0] : Array Value).toList = v20.setCells q 0 [.int .i64 kd, .int .i64 pv, .int .i64 0, .slice (some ⟨g2, 0, none⟩) 0 0] := rfl
        have hsz := S.out.sz
        rw [if_pos (by kernel_rfl)]
        refine wp_store_mid 24 _ _ (by rfl) q 0 #[.int .i64 kd, .int .i64 pv, .int .i64 0, .slice (some ⟨g2, 0, none⟩) 0 0] (by rfl) (by rfl) T.out.there (by kernel_rfl) (by simp [Value.oneCell']) ?_
        rw [hsc]
        clear hsc
        replace S := Lib.hid (S.out.puts (q := q) (by omega) 0 [.int .i64 kd, .int .i64 pv, .int .i64 0, .slice (some ⟨g2, 0, none⟩) 0 0])
        replace Z := Lib.hid (Z.out.putsfar q (by omega) 0 [.int .i64 kd, .int .i64 pv, .int .i64 0, .slice (some ⟨g2, 0, none⟩) 0 0])
        replace WP := Lib.hid (WP.out.puts T.out.ty (by decide) 0 [.int .i64 kd, .int .i64 pv, .int .i64 0, .slice (some ⟨g2, 0, none⟩) 0 0])
        replace NW := Lib.hid (NW.out.puts T.out.ty (by decide) 0 [.int .i64 kd, .int .i64 pv, .int .i64 0, .slice (some ⟨g2, 0, none⟩) 0 0])
        replace T := Lib.hid (T.out.puts [.int .i64 kd, .int .i64 pv, .int .i64 0, .slice (some ⟨g2, 0, none⟩) 0 0] (by rfl))
        (first | refine hK.out _ _ ?_ (fun hHeld1 => ?_) | (go_wp2_with fail; refine hK.out _ _ ?_ (fun hHeld1 => ?_)))
        · ((try dsimp only); exact KX WP.out)
        clear hK K hHeld
        have hHeld := hHeld1
        clear hHeld1
        try simp only [Act.put, List.setIfInBounds_toArray, List.set_cons_zero, List.set_cons_succ]
        generalize (v20.setCells q 0 [.int .i64 kd, .int .i64 pv, .int .i64 0, .slice (some ⟨g2, 0, none⟩) 0 0]) = v21 at *
        refine wpAnyH_done (by kernel_rfl) ?_ _
        refine NoPanic.normal ?_
        clear hHeld KX
        go_wp2_with fail
        go_meet
        exact ⟨q, g2, rfl, hqz, S, Z, WP, T, NW⟩
  case rest =>
    clear S Z WP KX
    obtain ⟨W, rfl⟩ : ∃ W, W = wc := ⟨_, rfl⟩
    obtain ⟨q, g2, rfl, hqz, S, Z, WP, T, NW⟩ := hcut
    go_upto_if 39 with fail
    go_cut [6] (fun u6 wx => ∃ (B : Option Addr) (bc : Nat), Hid (Lst w wx none 0) ∧ Hid (BT wx w.heap.size 24 [.int .i64 0, .int .i64 0, .int .i64 0, .slice none 0 0]) ∧ Hid (OwP w.heap.size wx (some ⟨g, 0, none⟩) oc ps) ∧ Hid (BT wx q 24 [.int .i64 kd, .int .i64 pv, .int .i64 0, .slice B ph.length bc]) ∧ Hid (OwD StrK 9 w.heap.size wx B bc ph))
    case first =>
      rcases Bool.eq_false_or_eq_true fd with hf | hf
      · have HE : Hid (ph = (spl 32 rs).map bar) := Lib.hid (by rw [HPH.out, if_pos hf])
        subst hf
        have hlo := S.out.sz
        go_wp2_with fail
        refine (splitL_any 32 (bar rs) W (by rw [bar_size]; have := CL2.out; omega) (HC.out.below S.out.on).lib).mono ?_
        rintro e v22 ⟨B, bc, ps2, rfl, hps, own, hb⟩
        rw [bar_list, ← HE.out] at hps
        subst hps
        clear NW
        replace S := Lib.hid (S.out.call hb)
        replace Z := Lib.hid (Z.out.call hb)
        replace WP := Lib.hid (WP.out.call hb)
        replace T := Lib.hid (T.out.call hb)
        have hl9 : ps2.length ≤ 1048576 := by (have h9 := spl_len 32 rs []); rw [HE.out, List.length_map]; unfold spl; have := CL2.out; omega
        have PW := Lib.hid (OwP.owd (show OwP w.heap.size v22 B bc ps2 from ⟨own_mono own.1 hlo, own.2⟩) hl9)
        clear hb own hlo hl9
        have e0 := T.out.box.1 0 _ rfl
        have e1 := T.out.box.1 1 _ rfl
        have e2 := T.out.box.1 2 _ rfl
        have e3 := T.out.box.1 3 _ rfl
        have ef := T.out.box.2
        have hsz := S.out.sz
        have S9 := Lib.hid (S.out.set ⟨q, 3, none⟩ (by show _ ≤ q; omega) (.slice B ps2.length bc))
        have Z9 := Lib.hid (Z.out.far ⟨q, 3, none⟩ (.slice B ps2.length bc) (by show _ ≠ q; omega))
        have WP9 := Lib.hid (WP.out.set T.out.ty (by decide) 3 (.slice B ps2.length bc))
        have T9 := Lib.hid (show BT (v22.setCell ⟨q, 3, none⟩ (.slice B ps2.length bc)) q 24 [.int .i64 kd, .int .i64 pv, .int .i64 0, .slice B ps2.length bc] from (T.out.set 3 (by simp) (.slice B ps2.length bc)))
        have PW9 := Lib.hid (PW.out.set T.out.ty (by decide) 3 (.slice B ps2.length bc))
        replace S := S9
        clear S9
        replace Z := Z9
        clear Z9
        replace WP := WP9
        clear WP9
        replace T := T9
        clear T9
        replace PW := PW9
        clear PW9
        go_wp2_with fail
        go_meet
        exact ⟨B, bc, S, Z, WP, T, PW⟩
      · have HE : Hid (ph = []) := Lib.hid (by rw [HPH.out, if_neg (by rw [hf]; simp)])
        have he := HE.out
        subst hf
        subst he
        go_wp2_with fail
        go_meet
        exact ⟨_, 0, S, Z, WP, T, NW⟩
    case rest =>
      clear S Z WP T NW
      obtain ⟨W, rfl⟩ : ∃ W, W = wc := ⟨_, rfl⟩
      obtain ⟨B, bc, S, Z, WP, T, PW⟩ := hcut
      obtain ⟨oN, hoN⟩ : ∃ o, Hid ((if wd.length = 4 then piV (wd.getD 1 []) else some 0) = o) := ⟨_, Lib.hid rfl⟩
      obtain ⟨nv, hnv⟩ : ∃ y, Hid (nI oN = y) := ⟨_, Lib.hid rfl⟩
      obtain ⟨nb, hnb⟩ : ∃ y, Hid (bI oN = y) := ⟨_, Lib.hid rfl⟩
      go_upto_if 45 with fail
      go_cut [9, 11, 12] (fun u9 u11 u12 wx => u9 = .bool (pb && nb) ∧ Hid (Lst w wx none 0) ∧ Hid (BT wx w.heap.size 24 [.int .i64 0, .int .i64 0, .int .i64 0, .slice none 0 0]) ∧ Hid (OwP w.heap.size wx (some ⟨g, 0, none⟩) oc ps) ∧ Hid (BT wx q 24 [.int .i64 kd, .int .i64 pv, .int .i64 nv, .slice B ph.length bc]) ∧ Hid (OwD StrK 9 w.heap.size wx B bc ph))
      case first =>
        by_cases h44 : n = 4
        · have hnn := h44
          subst h44
          have hl1 : 1 < wd.length := by have := HN.out; omega
          obtain ⟨x1, hx1⟩ : ∃ x, Hid (wd.getD 1 [] = x) := ⟨_, Lib.hid rfl⟩
          have hx2 : wd[1] = x1 := by rw [← hx1.out, List.getD_eq_getElem?_getD, List.getElem?_eq_getElem hl1]; rfl
          have hxm : x1.length ≤ 1048576 := by rw [← hx2]; exact HWM.out _ (List.getElem_mem hl1)
          obtain ⟨g3, h3, hc⟩ := str_cell WP.out HP.out hl1
          obtain ⟨rfl, _⟩ : g = g3 ∧ True := ⟨by cases h3; rfl, trivial⟩
          rw [hx2] at hc
          have HON : Hid (piV x1 = oN) := Lib.hid (by rw [← hoN.out, if_pos HN.out, hx1.out])
          clear hx2 hl1 h3 hnn
          go_wp2_with fail
          refine (ParseInt_any (bar x1) W (by rw [bar_size]; unfold maxLen; omega) (HC.out.below S.out.on)).mono ?_
          rintro e v23 ⟨rfl, hb⟩
          replace S := Lib.hid (S.out.call hb)
          replace Z := Lib.hid (Z.out.call hb)
          replace WP := Lib.hid (WP.out.call hb)
          replace T := Lib.hid (T.out.call hb)
          replace PW := Lib.hid (PW.out.call hb)
          rw [bar_list, HON.out, optI_eq, hnv.out, hnb.out]
          clear hb hc hxm
          have e0 := T.out.box.1 0 _ rfl
          have e1 := T.out.box.1 1 _ rfl
          have e2 := T.out.box.1 2 _ rfl
          have e3 := T.out.box.1 3 _ rfl
          have ef := T.out.box.2
          have hsz := S.out.sz
          have S9 := Lib.hid (S.out.set ⟨q, 2, none⟩ (by show _ ≤ q; omega) (.int .i64 nv))
          have Z9 := Lib.hid (Z.out.far ⟨q, 2, none⟩ (.int .i64 nv) (by show _ ≠ q; omega))
          have WP9 := Lib.hid (WP.out.set T.out.ty (by decide) 2 (.int .i64 nv))
          have T9 := Lib.hid (show BT (v23.setCell ⟨q, 2, none⟩ (.int .i64 nv)) q 24 [.int .i64 kd, .int .i64 pv, .int .i64 nv, .slice B ph.length bc] from (T.out.set 2 (by simp) (.int .i64 nv)))
          have PW9 := Lib.hid (PW.out.set T.out.ty (by decide) 2 (.int .i64 nv))
          replace S := S9
          clear S9
          replace Z := Z9
          clear Z9
          replace WP := WP9
          clear WP9
          replace T := T9
          clear T9
          replace PW := PW9
          clear PW9
          rcases Bool.eq_false_or_eq_true pb with hk | hk
          · rw [hk]
            go_wp2_with fail
            go_meet
            exact ⟨by first | rfl | (simp; done) | (rw [hk]; simp), S, Z, WP, T, PW⟩
          · rw [hk]
            go_wp2_with fail
            go_meet
            exact ⟨by first | rfl | (simp; done) | (rw [hk]; simp), S, Z, WP, T, PW⟩
        · have HO : Hid (oN = some 0) := Lib.hid (by rw [← hoN.out, if_neg (by rw [HN.out]; exact h44)])
          have e1 : nv = 0 := by rw [← hnv.out, HO.out]; rfl
          have e2 : nb = true := by rw [← hnb.out, HO.out]; rfl
          have HE1 := Lib.hid e1
          have HE2 := Lib.hid e2
          subst e1 e2
          have k4 : ((n : Int) == 4) = false := by simp; omega
          go_wp2_with fail
          go_meet
          exact ⟨by simp, S, Z, WP, T, PW⟩
      case rest =>
        clear S Z WP T PW
        obtain ⟨W, rfl⟩ : ∃ W, W = wc := ⟨_, rfl⟩
        obtain ⟨rfl, S, Z, WP, T, PW⟩ := hcut
        clear WP
        have HF : Hid (amI s.data.toList = finA s.data.toList (mkIA s.data.toList) oP oN) := Lib.hid (by unfold amI; rw [hwd.out, HN.out, hxl.out, hoP.out]; rw [HN.out] at hoN; rw [hoN.out])
        have HMK : Hid (mkIA s.data.toList (nI oP) (nI oN) = ⟨kd, pv, nv, ph⟩) := Lib.hid (by unfold mkIA; rw [hwd.out, hx0.out, hkd.out, hph.out, hpv.out, hnv.out])
        obtain ⟨ok, hok⟩ : ∃ b, Hid ((pb && nb) = b) := ⟨_, Lib.hid rfl⟩
        rw [hok.out]
        rcases Bool.eq_false_or_eq_true ok with hk | hk
        · have HT : Hid (amI s.data.toList = if vldA ⟨kd, pv, nv, ph⟩ = true ∧ alL ⟨kd, pv, nv, ph⟩ = s.data.toList then some ⟨kd, pv, nv, ph⟩ else none) := Lib.hid (by rw [HF.out, finA_t (by rw [hpb.out, hnb.out, hok.out, hk]), HMK.out])
          subst hk
          rcases Bool.eq_false_or_eq_true (vldA ⟨kd, pv, nv, ph⟩) with hv | hv
          · have HV := Lib.hid hv
            have e0 := T.out.box.1 0 _ rfl
            have e1 := T.out.box.1 1 _ rfl
            have e2 := T.out.box.1 2 _ rfl
            have e3 := T.out.box.1 3 _ rfl
            go_wp2_with fail
            refine (validF B bc kd pv nv ph W (owd_ows PW.out)).mono ?_
            rintro e v24 ⟨rfl, hb⟩
            rw [hv]
            replace S := Lib.hid (S.out.call hb)
            replace Z := Lib.hid (Z.out.call hb)
            replace T := Lib.hid (T.out.call hb)
            replace PW := Lib.hid (PW.out.call hb)
            clear hb e0 e1 e2 e3
            have e0 := T.out.box.1 0 _ rfl
            have e1 := T.out.box.1 1 _ rfl
            have e2 := T.out.box.1 2 _ rfl
            have e3 := T.out.box.1 3 _ rfl
            go_wp2_with fail
            refine (lineF B bc kd pv nv ph v24 (owd_ows PW.out) HV.out (H4.out.below S.out.on).1).mono ?_
            rintro e v25 ⟨rfl, hb⟩
            replace S := Lib.hid (S.out.call hb)
            replace Z := Lib.hid (Z.out.call hb)
            replace T := Lib.hid (T.out.call hb)
            replace PW := Lib.hid (PW.out.call hb)
            clear hb hv e0 e1 e2 e3
            obtain ⟨x, ex⟩ : ∃ x, Hid (aline ⟨kd, pv, nv, ph⟩ = x) := ⟨_, Lib.hid rfl⟩
            rw [ex.out]
            by_cases hx : x = s
            · have HR : Hid (amI s.data.toList = some ⟨kd, pv, nv, ph⟩) := Lib.hid (HT.out.trans (if_pos ⟨HV.out, by unfold alL; rw [ex.out, hx]⟩))
              subst hx
              go_wp2_with (first | (refine wpList_load_mid rfl 24 _ rfl q 0 rfl [.int .i64 kd, .int .i64 pv, .int .i64 nv, .slice B ph.length bc] _ T.out.rng Tryd.underlying24 rfl (by kernel_rfl) ?_) | ((refine wpList_store_mid rfl 24 _ _ rfl w.heap.size 0 #[.int .i64 kd, .int .i64 pv, .int .i64 nv, .slice B ph.length bc] rfl rfl Z.out.there (by kernel_rfl) (by simp [Value.oneCell']) ?_); have hsz := S.out.sz; replace S := Lib.hid (S.out.puts (q := w.heap.size) (by omega) 0 [.int .i64 kd, .int .i64 pv, .int .i64 nv, .slice B ph.length bc]); replace T := Lib.hid (T.out.putsfar w.heap.size (by omega) 0 [.int .i64 kd, .int .i64 pv, .int .i64 nv, .slice B ph.length bc]); replace PW := Lib.hid (PW.out.puts Z.out.ty (by decide) 0 [.int .i64 kd, .int .i64 pv, .int .i64 nv, .slice B ph.length bc]); replace Z := Lib.hid (Z.out.puts [.int .i64 kd, .int .i64 pv, .int .i64 nv, .slice B ph.length bc] (by rfl)); have KS := Z.out.box; have k0 := KS.1 0 _ rfl; have k1 := KS.1 1 _ rfl; have k2 := KS.1 2 _ rfl; have k3 := KS.1 3 _ rfl; clear KS) | (refine bodyPost_ret (v := .tuple #[.agg #[.int .i64 kd, .int .i64 pv, .int .i64 nv, .slice B ph.length bc], .bool true]) (by (rw [results_cell_tmp Tryd.results5]; simp [go_sem, k0, k1, k2, k3])) rfl ?_; exact amTo_yes HR.out PW.out S.out.on))
            · have HR : Hid (amI s.data.toList = none) := Lib.hid (HT.out.trans (if_neg (fun h => hx (by have h9 := h.2; unfold alL at h9; rw [ex.out] at h9; exact ByteArray.ext (Array.ext' h9)))))
              have hne := same_no hx
              clear hx
              go_wp2_with (first | ((refine wpList_store_mid rfl 24 _ _ rfl w.heap.size 0 #[.int .i64 0, .int .i64 0, .int .i64 0, .slice none 0 0] rfl rfl Z.out.there (by kernel_rfl) (by simp [Value.oneCell']) ?_); have hsz := S.out.sz; replace S := Lib.hid (S.out.puts (q := w.heap.size) (by omega) 0 [.int .i64 0, .int .i64 0, .int .i64 0, .slice none 0 0]); replace T := Lib.hid (T.out.putsfar w.heap.size (by omega) 0 [.int .i64 0, .int .i64 0, .int .i64 0, .slice none 0 0]); replace PW := Lib.hid (PW.out.puts Z.out.ty (by decide) 0 [.int .i64 0, .int .i64 0, .int .i64 0, .slice none 0 0]); replace Z := Lib.hid (Z.out.puts [.int .i64 0, .int .i64 0, .int .i64 0, .slice none 0 0] (by rfl)); have KS := Z.out.box; have k0 := KS.1 0 _ rfl; have k1 := KS.1 1 _ rfl; have k2 := KS.1 2 _ rfl; have k3 := KS.1 3 _ rfl; clear KS) | (refine bodyPost_ret (v := .tuple #[.agg #[.int .i64 0, .int .i64 0, .int .i64 0, .slice none 0 0], .bool false]) (by (rw [results_cell_tmp Tryd.results5]; simp [go_sem, k0, k1, k2, k3])) rfl ?_; exact amTo_no HR.out S.out.on))
          · have HR : Hid (amI s.data.toList = none) := Lib.hid (HT.out.trans (if_neg (fun h => by rw [hv] at h; cases h.1)))
            have e0 := T.out.box.1 0 _ rfl
            have e1 := T.out.box.1 1 _ rfl
            have e2 := T.out.box.1 2 _ rfl
            have e3 := T.out.box.1 3 _ rfl
            go_wp2_with fail
            refine (validF B bc kd pv nv ph W (owd_ows PW.out)).mono ?_
            rintro e v26 ⟨rfl, hb⟩
            rw [hv]
            replace S := Lib.hid (S.out.call hb)
            replace Z := Lib.hid (Z.out.call hb)
            replace T := Lib.hid (T.out.call hb)
            replace PW := Lib.hid (PW.out.call hb)
            clear hb e0 e1 e2 e3
            go_wp2_with (first | ((refine wpList_store_mid rfl 24 _ _ rfl w.heap.size 0 #[.int .i64 0, .int .i64 0, .int .i64 0, .slice none 0 0] rfl rfl Z.out.there (by kernel_rfl) (by simp [Value.oneCell']) ?_); have hsz := S.out.sz; replace S := Lib.hid (S.out.puts (q := w.heap.size) (by omega) 0 [.int .i64 0, .int .i64 0, .int .i64 0, .slice none 0 0]); replace T := Lib.hid (T.out.putsfar w.heap.size (by omega) 0 [.int .i64 0, .int .i64 0, .int .i64 0, .slice none 0 0]); replace PW := Lib.hid (PW.out.puts Z.out.ty (by decide) 0 [.int .i64 0, .int .i64 0, .int .i64 0, .slice none 0 0]); replace Z := Lib.hid (Z.out.puts [.int .i64 0, .int .i64 0, .int .i64 0, .slice none 0 0] (by rfl)); have KS := Z.out.box; have k0 := KS.1 0 _ rfl; have k1 := KS.1 1 _ rfl; have k2 := KS.1 2 _ rfl; have k3 := KS.1 3 _ rfl; clear KS) | (refine bodyPost_ret (v := .tuple #[.agg #[.int .i64 0, .int .i64 0, .int .i64 0, .slice none 0 0], .bool false]) (by (rw [results_cell_tmp Tryd.results5]; simp [go_sem, k0, k1, k2, k3])) rfl ?_; exact amTo_no HR.out S.out.on))
        · have HR : Hid (amI s.data.toList = none) := Lib.hid (by rw [HF.out]; exact finA_b (by rw [hpb.out, hnb.out, hok.out, hk]))
          subst hk
          go_wp2_with (first | ((refine wpList_store_mid rfl 24 _ _ rfl w.heap.size 0 #[.int .i64 0, .int .i64 0, .int .i64 0, .slice none 0 0] rfl rfl Z.out.there (by kernel_rfl) (by simp [Value.oneCell']) ?_); have hsz := S.out.sz; replace S := Lib.hid (S.out.puts (q := w.heap.size) (by omega) 0 [.int .i64 0, .int .i64 0, .int .i64 0, .slice none 0 0]); replace T := Lib.hid (T.out.putsfar w.heap.size (by omega) 0 [.int .i64 0, .int .i64 0, .int .i64 0, .slice none 0 0]); replace PW := Lib.hid (PW.out.puts Z.out.ty (by decide) 0 [.int .i64 0, .int .i64 0, .int .i64 0, .slice none 0 0]); replace Z := Lib.hid (Z.out.puts [.int .i64 0, .int .i64 0, .int .i64 0, .slice none 0 0] (by rfl)); have KS := Z.out.box; have k0 := KS.1 0 _ rfl; have k1 := KS.1 1 _ rfl; have k2 := KS.1 2 _ rfl; have k3 := KS.1 3 _ rfl; clear KS) | (refine bodyPost_ret (v := .tuple #[.agg #[.int .i64 0, .int .i64 0, .int .i64 0, .slice none 0 0], .bool false]) (by (rw [results_cell_tmp Tryd.results5]; simp [go_sem, k0, k1, k2, k3])) rfl ?_; exact amTo_no HR.out S.out.on))
end Go.Proofs.YtnnphhhjkhoglaaDoor
