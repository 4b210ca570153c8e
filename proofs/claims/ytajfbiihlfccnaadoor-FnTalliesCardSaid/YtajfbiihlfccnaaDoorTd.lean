/- The draws of FnTallies. Conditions: the ranges named, what Cx names. -/
import Derived.Test.YtajfbiihlfccnaaDoorSp1
import Derived.Test.YtajfbiihlfccnaaDoorDr0
import Derived.Test.YtajfbiihlfccnaaDoorLst
import Derived.Test.YtajfbiihlfccnaaDoorPt7
namespace Go.Proofs.YtajfbiihlfccnaaDoor
open Go.RowKit
set_option linter.unusedVariables false
set_option linter.unusedSimpArgs false
attribute [local go_sem ↓] Go.wp_at_zero Go.wp_at_succ
theorem below_puts {B q : Nat} {w0 w : World} (h : Below B w0 w) (hq : B ≤ q) : ∀ (o : Nat) (vs : List Value), Below B w0 (w.setCells q o vs) := by
  intro o vs
  induction vs generalizing o w with
  | nil => exact h
  | cons v vs ih => exact ih (h.setCell (p := ⟨q, o, none⟩) hq v) (o + 1)
theorem ttS_size {y n a : Nat} (hy : y ≤ 1000) (hn : n ≤ 1000) (ha : a ≤ 1000) : 2 ≤ (ttS y n a).size ∧ (ttS y n a).size ≤ 50 := by
  have h := tx_len hy hn ha
  have e : (ttS y n a).size = (txL y n a).length := by rw [tt_tx]; unfold bar ByteArray.size; simp
  rw [e]
  refine ⟨?_, h⟩
  unfold txL
  simp
  omega
set_option maxRecDepth 100000 in
set_option maxHeartbeats 4000000 in
theorem DrawIsValidTally_any (A : Option Addr) (n c : Nat) (w : World) (h : BytesC w A n) (hn : n ≤ 65536) :
    Calls Tryd.prog 48 #[.slice A n c] w fun e w' => (∃ (y n1 a : Int), e = .returned (.agg #[.int .i64 y, .int .i64 n1, .int .i64 a])) ∧ Below w.heap.size w w' := by
  have hb1 := below1 w (.cells #[.int .i64 0, .int .i64 0, .int .i64 0] 23)
  have hbe : (w.alloc (.cells #[.int .i64 0, .int .i64 0, .int .i64 0] 23)).heap.size = w.heap.size + 1 := by simp
  have C := Cur.new_ (c := c) (h.below_ hb1) hn 66
  rw [hbe] at C
  have S := Lib.hid (Tst.mk C (below2 w (.cells #[.int .i64 0, .int .i64 0, .int .i64 0] 23) _) h (Nat.le_succ _))
  have Z := Lib.hid ((BT.new w #[.int .i64 0, .int .i64 0, .int .i64 0] 23 w.heap.size rfl).alloc (.cells #[.slice A n c, .int .i64 0, .int .u64 0] 66))
  have hsz : w.heap.size + 1 < ((w.alloc (.cells #[.int .i64 0, .int .i64 0, .int .i64 0] 23)).alloc (.cells #[.slice A n c, .int .i64 0, .int .u64 0] 66)).heap.size := by simp
  clear h C hb1 hbe
  go_enter Tryd.func48, Tryd.ntmps48
  go_upto_region 2 with fail
  generalize ((w.alloc (.cells #[.int .i64 0, .int .i64 0, .int .i64 0] 23)).alloc (.cells #[.slice A n c, .int .i64 0, .int .u64 0] 66)) = v1 at *
  go_wp2_with fail
  refine (tally_any (w.heap.size + 1) A n c _ _ S.out.cur (by omega)).mono ?_
  rintro e v2 ⟨⟨y, n1, a, rfl⟩, hc, ho⟩
  replace S := Lib.hid (S.out.draw hc ho)
  replace Z := Lib.hid (Z.out.draw ho (by omega))
  clear hc ho 
  go_wp2_with (first | ((refine wpList_store_mid rfl 23 _ _ rfl w.heap.size 0 #[.int .i64 y, .int .i64 n1, .int .i64 a] rfl rfl Z.out.there (by kernel_rfl) (by simp [Value.oneCell']) ?_); replace S := Lib.hid (S.out.puts (q := w.heap.size) (by omega) 0 [.int .i64 y, .int .i64 n1, .int .i64 a]); replace Z := Lib.hid (Z.out.puts [.int .i64 y, .int .i64 n1, .int .i64 a] (by rfl)); have KS := Z.out.box; have k0 := KS.1 0 _ rfl; have k1 := KS.1 1 _ rfl; have k2 := KS.1 2 _ rfl; clear KS) | (refine bodyPost_ret (v := .agg #[.int .i64 y, .int .i64 n1, .int .i64 a]) (by (simp [results, Tryd.results48, go_sem, k0, k1, k2])) rfl ?_; exact ⟨⟨y, n1, a, rfl⟩, S.out.on⟩))
set_option maxRecDepth 100000 in
set_option maxHeartbeats 4000000 in
theorem DrawTallyText_any (A : Option Addr) (n c : Nat) (w : World) (h : BytesC w A n) (hn : n ≤ 65536) :
    Calls Tryd.prog 11 #[.slice A n c] w fun e w' => (∃ (y n1 a : Int), e = .returned (.agg #[.int .i64 y, .int .i64 n1, .int .i64 a])) ∧ Below w.heap.size w w' := by
  have Z := Lib.hid (BT.new w #[.int .i64 0, .int .i64 0, .int .i64 0] 23 w.heap.size rfl)
  have hb1 := below1 w (.cells #[.int .i64 0, .int .i64 0, .int .i64 0] 23)
  have HY := Lib.hid (h.below_ hb1)
  have hsz : w.heap.size < (w.alloc (.cells #[.int .i64 0, .int .i64 0, .int .i64 0] 23)).heap.size := by simp
  have HB := Lib.hid hb1
  clear h hb1
  go_enter Tryd.func11, Tryd.ntmps11
  go_upto_region 1 with fail
  generalize (w.alloc (.cells #[.int .i64 0, .int .i64 0, .int .i64 0] 23)) = W at *
  go_wp2_with fail
  refine (DrawIsValidTally_any A n c W HY.out hn).mono ?_
  rintro e v ⟨⟨y, n1, a, rfl⟩, hb⟩
  replace Z := Lib.hid (Z.out.call hb)
  replace HB := Lib.hid (HB.out.trans (hb.mono HB.out.size))
  clear hb
  go_wp2_with (first | ((refine wpList_store_mid rfl 23 _ _ rfl w.heap.size 0 #[.int .i64 y, .int .i64 n1, .int .i64 a] rfl rfl Z.out.there (by kernel_rfl) (by simp [Value.oneCell']) ?_); replace Z := Lib.hid (Z.out.puts [.int .i64 y, .int .i64 n1, .int .i64 a] (by rfl)); have KS := Z.out.box; replace HB := Lib.hid (below_puts HB.out (Nat.le_refl _) 0 [.int .i64 y, .int .i64 n1, .int .i64 a]); have k0 := KS.1 0 _ rfl; have k1 := KS.1 1 _ rfl; have k2 := KS.1 2 _ rfl; clear KS) | (refine bodyPost_ret (v := .agg #[.int .i64 y, .int .i64 n1, .int .i64 a]) (by (simp [results, Tryd.results11, go_sem, k0, k1, k2])) rfl ?_; exact ⟨⟨y, n1, a, rfl⟩, HB.out⟩))
set_option maxRecDepth 100000 in
set_option maxHeartbeats 4000000 in
theorem DrawYesShare_any (A : Option Addr) (n c : Nat) (w : World) (h : BytesC w A n) (hn : n ≤ 65536) :
    Calls Tryd.prog 15 #[.slice A n c] w fun e w' => (∃ (y n1 a : Int), e = .returned (.agg #[.int .i64 y, .int .i64 n1, .int .i64 a])) ∧ Below w.heap.size w w' := by
  have Z := Lib.hid (BT.new w #[.int .i64 0, .int .i64 0, .int .i64 0] 23 w.heap.size rfl)
  have hb1 := below1 w (.cells #[.int .i64 0, .int .i64 0, .int .i64 0] 23)
  have HY := Lib.hid (h.below_ hb1)
  have hsz : w.heap.size < (w.alloc (.cells #[.int .i64 0, .int .i64 0, .int .i64 0] 23)).heap.size := by simp
  have HB := Lib.hid hb1
  clear h hb1
  go_enter Tryd.func15, Tryd.ntmps15
  go_upto_region 1 with fail
  generalize (w.alloc (.cells #[.int .i64 0, .int .i64 0, .int .i64 0] 23)) = W at *
  go_wp2_with fail
  refine (DrawIsValidTally_any A n c W HY.out hn).mono ?_
  rintro e v ⟨⟨y, n1, a, rfl⟩, hb⟩
  replace Z := Lib.hid (Z.out.call hb)
  replace HB := Lib.hid (HB.out.trans (hb.mono HB.out.size))
  clear hb
  go_wp2_with (first | ((refine wpList_store_mid rfl 23 _ _ rfl w.heap.size 0 #[.int .i64 y, .int .i64 n1, .int .i64 a] rfl rfl Z.out.there (by kernel_rfl) (by simp [Value.oneCell']) ?_); replace Z := Lib.hid (Z.out.puts [.int .i64 y, .int .i64 n1, .int .i64 a] (by rfl)); have KS := Z.out.box; replace HB := Lib.hid (below_puts HB.out (Nat.le_refl _) 0 [.int .i64 y, .int .i64 n1, .int .i64 a]); have k0 := KS.1 0 _ rfl; have k1 := KS.1 1 _ rfl; have k2 := KS.1 2 _ rfl; clear KS) | (refine bodyPost_ret (v := .agg #[.int .i64 y, .int .i64 n1, .int .i64 a]) (by (simp [results, Tryd.results15, go_sem, k0, k1, k2])) rfl ?_; exact ⟨⟨y, n1, a, rfl⟩, HB.out⟩))
set_option maxRecDepth 100000 in
set_option maxHeartbeats 4000000 in
theorem DrawAddTallies_any (A : Option Addr) (n c : Nat) (w : World) (h : BytesC w A n) (hn : n ≤ 65536) :
    Calls Tryd.prog 18 #[.slice A n c] w fun e w' => (∃ (y n1 a y2 n2 a2 : Int), e = .returned (.tuple #[.agg #[.int .i64 y, .int .i64 n1, .int .i64 a], .agg #[.int .i64 y2, .int .i64 n2, .int .i64 a2]])) ∧ Below w.heap.size w w' := by
  have hb1 := below2 w (.cells #[.int .i64 0, .int .i64 0, .int .i64 0] 23) (.cells #[.int .i64 0, .int .i64 0, .int .i64 0] 23)
  have hbe : ((w.alloc (.cells #[.int .i64 0, .int .i64 0, .int .i64 0] 23)).alloc (.cells #[.int .i64 0, .int .i64 0, .int .i64 0] 23)).heap.size = w.heap.size + 2 := by simp
  have C := Cur.new_ (c := c) (h.below_ hb1) hn 66
  rw [hbe] at C
  have S := Lib.hid (Tst.mk C (hb1.trans ((below1 ((w.alloc (.cells #[.int .i64 0, .int .i64 0, .int .i64 0] 23)).alloc (.cells #[.int .i64 0, .int .i64 0, .int .i64 0] 23)) (.cells #[.slice A n c, .int .i64 0, .int .u64 0] 66)).mono (by rw [hbe]; omega))) h (by omega))
  have Z := Lib.hid (((BT.new w #[.int .i64 0, .int .i64 0, .int .i64 0] 23 w.heap.size rfl).alloc (.cells #[.int .i64 0, .int .i64 0, .int .i64 0] 23)).alloc (.cells #[.slice A n c, .int .i64 0, .int .u64 0] 66))
  have Y := Lib.hid ((BT.new (w.alloc (.cells #[.int .i64 0, .int .i64 0, .int .i64 0] 23)) #[.int .i64 0, .int .i64 0, .int .i64 0] 23 (w.heap.size + 1) (by simp)).alloc (.cells #[.slice A n c, .int .i64 0, .int .u64 0] 66))
  have hsz : w.heap.size + 2 < (((w.alloc (.cells #[.int .i64 0, .int .i64 0, .int .i64 0] 23)).alloc (.cells #[.int .i64 0, .int .i64 0, .int .i64 0] 23)).alloc (.cells #[.slice A n c, .int .i64 0, .int .u64 0] 66)).heap.size := by simp
  clear h C hb1 hbe
  go_enter Tryd.func18, Tryd.ntmps18
  go_upto_region 2 with fail
  generalize (((w.alloc (.cells #[.int .i64 0, .int .i64 0, .int .i64 0] 23)).alloc (.cells #[.int .i64 0, .int .i64 0, .int .i64 0] 23)).alloc (.cells #[.slice A n c, .int .i64 0, .int .u64 0] 66)) = v1 at *
  go_wp2_with fail
  refine (tally_any (w.heap.size + 2) A n c _ _ S.out.cur (by omega)).mono ?_
  rintro e v2 ⟨⟨y, n1, a, rfl⟩, hc, ho⟩
  replace S := Lib.hid (S.out.draw hc ho)
  replace Z := Lib.hid (Z.out.draw ho (by omega))
  replace Y := Lib.hid (Y.out.draw ho (by omega))
  clear hc ho 
  go_wp2_with fail
  refine (tally_any (w.heap.size + 2) A n c _ _ S.out.cur (by omega)).mono ?_
  rintro e v3 ⟨⟨y2, n2, a2, rfl⟩, hc, ho⟩
  replace S := Lib.hid (S.out.draw hc ho)
  replace Z := Lib.hid (Z.out.draw ho (by omega))
  replace Y := Lib.hid (Y.out.draw ho (by omega))
  clear hc ho 
  go_wp2_with (first | ((refine wpList_store_mid rfl 23 _ _ rfl w.heap.size 0 #[.int .i64 y, .int .i64 n1, .int .i64 a] rfl rfl Z.out.there (by kernel_rfl) (by simp [Value.oneCell']) ?_); replace S := Lib.hid (S.out.puts (q := w.heap.size) (by omega) 0 [.int .i64 y, .int .i64 n1, .int .i64 a]); replace Y := Lib.hid (Y.out.putsfar w.heap.size (by omega) 0 [.int .i64 y, .int .i64 n1, .int .i64 a]); replace Z := Lib.hid (Z.out.puts [.int .i64 y, .int .i64 n1, .int .i64 a] (by rfl))) | ((refine wpList_store_mid rfl 23 _ _ rfl (w.heap.size + 1) 0 #[.int .i64 y2, .int .i64 n2, .int .i64 a2] rfl rfl Y.out.there (by kernel_rfl) (by simp [Value.oneCell']) ?_); replace S := Lib.hid (S.out.puts (q := (w.heap.size + 1)) (by omega) 0 [.int .i64 y2, .int .i64 n2, .int .i64 a2]); replace Z := Lib.hid (Z.out.putsfar (w.heap.size + 1) (by omega) 0 [.int .i64 y2, .int .i64 n2, .int .i64 a2]); replace Y := Lib.hid (Y.out.puts [.int .i64 y2, .int .i64 n2, .int .i64 a2] (by rfl)); have KS := Z.out.box; have KT := Y.out.box; have k0 := KS.1 0 _ rfl; have k1 := KS.1 1 _ rfl; have k2 := KS.1 2 _ rfl; have l0 := KT.1 0 _ rfl; have l1 := KT.1 1 _ rfl; have l2 := KT.1 2 _ rfl) | (refine bodyPost_ret (v := .tuple #[.agg #[.int .i64 y, .int .i64 n1, .int .i64 a], .agg #[.int .i64 y2, .int .i64 n2, .int .i64 a2]]) (by (simp [results, Tryd.results18, go_sem, k0, k1, k2, l0, l1, l2])) rfl ?_; exact ⟨⟨y, n1, a, y2, n2, a2, rfl⟩, S.out.on⟩))
set_option maxRecDepth 100000 in
set_option maxHeartbeats 4000000 in
theorem DrawParseTally_any (A : Option Addr) (n c : Nat) (w : World) (h : BytesC w A n) (hn : n ≤ 65536) (hx : Cx w) :
    Calls Tryd.prog 14 #[.slice A n c] w fun e w' => (∃ x : ByteArray, e = .returned (.string x) ∧ x.size ≤ 60) ∧ Below w.heap.size w w' := by
  have C := Cur.new_ (c := c) h hn 66
  have S := Lib.hid (Tst.mk C (below1 w _) h (Nat.le_refl _))
  have hsz : w.heap.size < (w.alloc (.cells #[.slice A n c, .int .i64 0, .int .u64 0] 66)).heap.size := by simp
  have HX := Lib.hid hx
  clear h C hx
  go_enter Tryd.func14, Tryd.ntmps14
  go_upto_region 2 with fail
  generalize (w.alloc (.cells #[.slice A n c, .int .i64 0, .int .u64 0] 66)) = v1 at *
  go_wp2_with fail
  refine (tally_any w.heap.size A n c _ _ S.out.cur (by omega)).mono ?_
  rintro e v2 ⟨⟨y, n1, a, rfl⟩, hc, ho⟩
  replace S := Lib.hid (S.out.draw hc ho)
  have hq := S.out.sz
  have hqb := S.out.bw
  clear hc ho 
  have B := Lib.hid (BT.new v2 #[.int .i64 y, .int .i64 n1, .int .i64 a] 23 v2.heap.size rfl)
  have hbl := below1 v2 (.cells #[.int .i64 y, .int .i64 n1, .int .i64 a] 23)
  replace S := Lib.hid (S.out.call hbl)
  clear hbl
  go_upto_region 3 with fail
  generalize (v2.alloc (.cells #[.int .i64 y, .int .i64 n1, .int .i64 a] 23)) = v3 at *
  generalize v2.heap.size = q at *
  have b00 := B.out.box.1 0 _ rfl
  have b01 := B.out.box.1 1 _ rfl
  have b02 := B.out.box.1 2 _ rfl
  go_wp2_with fail
  refine (l11Good_any y n1 a _).mono ?_
  rintro e vg ⟨rfl, hb⟩
  replace S := Lib.hid (S.out.call hb)
  replace B := Lib.hid (B.out.call hb)
  clear hb b00 b01 b02
  rcases Bool.eq_false_or_eq_true (vldT y n1 a) with hv | hv
  · obtain ⟨h1, h2, h3, h4, h5, h6⟩ := vldT_iff.1 hv
    rw [hv]
    clear hv
    obtain ⟨yn, rfl⟩ : ∃ k : Nat, y = (k : Int) := ⟨y.toNat, by omega⟩
    obtain ⟨nn, rfl⟩ : ∃ k : Nat, n1 = (k : Int) := ⟨n1.toNat, by omega⟩
    obtain ⟨an, rfl⟩ : ∃ k : Nat, a = (k : Int) := ⟨a.toNat, by omega⟩
    have b10 := B.out.box.1 0 _ rfl
    have b11 := B.out.box.1 1 _ rfl
    have b12 := B.out.box.1 2 _ rfl
    obtain ⟨t2, t50⟩ := ttS_size (y := yn) (n := nn) (a := an) (by omega) (by omega) (by omega)
    go_wp2_with fail
    refine (l11Text_any yn nn an (by omega) (by omega) (by omega) _ (HX.out.below S.out.on).tab).mono ?_
    rintro e v4 ⟨rfl, hb⟩
    replace S := Lib.hid (S.out.call hb)
    replace B := Lib.hid (B.out.call hb)
    clear hb b10 b11 b12
    generalize ttS yn nn an = t at *
    go_wp2_with fail
    refine (one_any 4 (by omega) (by omega) w.heap.size A n c _ _ S.out.cur (by omega)).mono ?_
    rintro e v5 ⟨⟨x, rfl⟩, hc, ho⟩
    replace S := Lib.hid (S.out.draw hc ho)
    replace B := Lib.hid (B.out.draw ho (by omega))
    clear hc ho 
    rcases Bool.eq_false_or_eq_true x with hx | hx
    · subst hx
      go_wp2_with fail
      refine (spoilt_any t ⟨#[49, 32, 44, 121, 110, 97]⟩ t2 (by omega) (by decide) (by decide) w.heap.size A n c _ _ S.out.cur (by omega)).mono ?_
      rintro e v6 ⟨⟨x, rfl, hx⟩, hc, ho⟩
      replace S := Lib.hid (S.out.draw hc ho)
      replace B := Lib.hid (B.out.draw ho (by omega))
      clear hc ho 
      go_wp2
      go_ret
      exact ⟨⟨x, rfl, by omega⟩, S.out.on⟩
    · subst hx
      go_wp2
      go_ret
      exact ⟨⟨t, rfl, by omega⟩, S.out.on⟩
  · rw [hv]
    clear hv
    go_upto_region 5 with ((refine wpList_store_mid rfl 23 _ _ rfl q 0 #[.int .i64 3, .int .i64 2, .int .i64 1] rfl rfl B.out.there (by kernel_rfl) (by simp [Value.oneCell']) ?_))
    replace S := Lib.hid (S.out.puts (q := q) (by omega) 0 [.int .i64 3, .int .i64 2, .int .i64 1])
    replace B := Lib.hid (B.out.puts [.int .i64 3, .int .i64 2, .int .i64 1] (by rfl))
    generalize (vg.setCells q 0 [.int .i64 3, .int .i64 2, .int .i64 1]) = v7 at *
    have b10 := B.out.box.1 0 _ rfl
    have b11 := B.out.box.1 1 _ rfl
    have b12 := B.out.box.1 2 _ rfl
    obtain ⟨t2, t50⟩ := ttS_size (y := 3) (n := 2) (a := 1) (by omega) (by omega) (by omega)
    go_wp2_with fail
    refine (l11Text_any 3 2 1 (by omega) (by omega) (by omega) _ (HX.out.below S.out.on).tab).mono ?_
    rintro e v8 ⟨rfl, hb⟩
    replace S := Lib.hid (S.out.call hb)
    replace B := Lib.hid (B.out.call hb)
    clear hb b10 b11 b12
    generalize ttS 3 2 1 = t at *
    go_wp2_with fail
    refine (one_any 4 (by omega) (by omega) w.heap.size A n c _ _ S.out.cur (by omega)).mono ?_
    rintro e v9 ⟨⟨x, rfl⟩, hc, ho⟩
    replace S := Lib.hid (S.out.draw hc ho)
    replace B := Lib.hid (B.out.draw ho (by omega))
    clear hc ho 
    rcases Bool.eq_false_or_eq_true x with hx | hx
    · subst hx
      go_wp2_with fail
      refine (spoilt_any t ⟨#[49, 32, 44, 121, 110, 97]⟩ t2 (by omega) (by decide) (by decide) w.heap.size A n c _ _ S.out.cur (by omega)).mono ?_
      rintro e v10 ⟨⟨x, rfl, hx⟩, hc, ho⟩
      replace S := Lib.hid (S.out.draw hc ho)
      replace B := Lib.hid (B.out.draw ho (by omega))
      clear hc ho 
      go_wp2
      go_ret
      exact ⟨⟨x, rfl, by omega⟩, S.out.on⟩
    · subst hx
      go_wp2
      go_ret
      exact ⟨⟨t, rfl, by omega⟩, S.out.on⟩
end Go.Proofs.YtajfbiihlfccnaaDoor
