/- The draw of a rule. Conditions: the ranges named. -/
import Derived.Test.YtifahgdalgjgfaaDrW
import Derived.Test.YtifahgdalgjgfaaRule
import Derived.Deep.DrawnRows
import Derived.Deep.Cut
import Derived.Deep.CutBlock
import Derived.Deep.CutRange
import Derived.Deep.DeepCutAuto
import Derived.Deep.MidRow
namespace Go.Proofs.Ytifahgdalgjgfaa
open Go.RowKit
set_option linter.unusedVariables false
set_option linter.unusedSimpArgs false
attribute [local go_sem ↓] Go.wp_at_zero Go.wp_at_succ
set_option maxRecDepth 100000 in
set_option maxHeartbeats 4000000 in
theorem rule_any (b : Nat) (A : Option Addr) (n c m : Nat) (w : World) (h : Cur w b A n c m) (hm : m ≤ 800000) :
    Calls Try.prog 94 #[.pointer (some ⟨b, 0, none⟩)] w fun e w' => ∃ x : Rul, e = .returned (.agg #[.int .i64 x.id, .string x.nm, .int .i64 x.rk, .bool x.sc, .bool x.db, .bool x.am, .int .i64 x.nd]) ∧ x.nm.size ≤ 11 ∧ Cur w' b A n c (m + 12) ∧ Only b (b + 1) w w' := by
  have hb0 := h.lt
  have S := Lib.hid ((Std.start h).alloc (.cells #[.int .i64 0, .string ⟨#[]⟩, .int .i64 0, .bool false, .bool false, .bool false, .int .i64 0] 52))
  have Z := Lib.hid (BT.new w #[.int .i64 0, .string ⟨#[]⟩, .int .i64 0, .bool false, .bool false, .bool false, .int .i64 0] 52 w.heap.size rfl)
  clear h
  go_enter Try.func94, Try.ntmps94
  go_upto_region 1 with fail
  generalize (w.alloc (.cells #[.int .i64 0, .string ⟨#[]⟩, .int .i64 0, .bool false, .bool false, .bool false, .int .i64 0] 52)) = v1 at *
  go_wp2_with fail
  refine (pick_any 12 (by omega) (by omega) b A n c _ _ S.out.cur (by omega)).mono ?_
  rintro e v2 ⟨⟨x1, rfl, hx1⟩, hc, ho⟩
  replace S := Lib.hid (S.out.draw hc ho)
  replace Z := Lib.hid (Z.out.draw ho (by omega))
  clear hc ho 
  have q1 : IntKind.i64.wrap (1 + (x1 : Int)) = 1 + (x1 : Int) := by rw [IntKind.wrap_i64]; omega
  go_wp2_with fail
  refine (word_any b A n c _ _ S.out.cur (by omega)).mono ?_
  rintro e v3 ⟨⟨nm, rfl, hnm⟩, hc, ho⟩
  replace S := Lib.hid (S.out.draw hc ho)
  replace Z := Lib.hid (Z.out.draw ho (by omega))
  clear hc ho 
  have HN := Lib.hid hnm
  clear hnm
  go_wp2_with fail
  refine (pick_any 10 (by omega) (by omega) b A n c _ _ S.out.cur (by omega)).mono ?_
  rintro e v4 ⟨⟨x2, rfl, hx2⟩, hc, ho⟩
  replace S := Lib.hid (S.out.draw hc ho)
  replace Z := Lib.hid (Z.out.draw ho (by omega))
  clear hc ho 
  go_wp2_with fail
  refine (one_any 2 (by omega) (by omega) b A n c _ _ S.out.cur (by omega)).mono ?_
  rintro e v5 ⟨⟨z1, rfl⟩, hc, ho⟩
  replace S := Lib.hid (S.out.draw hc ho)
  replace Z := Lib.hid (Z.out.draw ho (by omega))
  clear hc ho 
  go_wp2_with fail
  refine (one_any 2 (by omega) (by omega) b A n c _ _ S.out.cur (by omega)).mono ?_
  rintro e v6 ⟨⟨z2, rfl⟩, hc, ho⟩
  replace S := Lib.hid (S.out.draw hc ho)
  replace Z := Lib.hid (Z.out.draw ho (by omega))
  clear hc ho 
  go_wp2_with fail
  refine (one_any 2 (by omega) (by omega) b A n c _ _ S.out.cur (by omega)).mono ?_
  rintro e v7 ⟨⟨z3, rfl⟩, hc, ho⟩
  replace S := Lib.hid (S.out.draw hc ho)
  replace Z := Lib.hid (Z.out.draw ho (by omega))
  clear hc ho 
  go_wp2_with fail
  refine (pick_any 3 (by omega) (by omega) b A n c _ _ S.out.cur (by omega)).mono ?_
  rintro e v8 ⟨⟨x3, rfl, hx3⟩, hc, ho⟩
  replace S := Lib.hid (S.out.draw hc ho)
  replace Z := Lib.hid (Z.out.draw ho (by omega))
  clear hc ho 
  have q3 : IntKind.i64.wrap (1 + (x3 : Int)) = 1 + (x3 : Int) := by rw [IntKind.wrap_i64]; omega
  obtain ⟨x, Hx⟩ : ∃ x : Rul, Hid ((⟨1 + (x1 : Int), nm, (x2 : Int), z1, z2, z3, 1 + (x3 : Int)⟩ : Rul) = x) := ⟨_, Lib.hid rfl⟩
  have hq1 := Z.out.lt
  have X := Lib.hid (BT.new v8 #[.int .i64 (1 + (x1 : Int)), .string nm, .int .i64 (x2 : Int), .bool z1, .bool z2, .bool z3, .int .i64 (1 + (x3 : Int))] 52 v8.heap.size rfl)
  have hbl := below1 v8 (.cells #[.int .i64 (1 + (x1 : Int)), .string nm, .int .i64 (x2 : Int), .bool z1, .bool z2, .bool z3, .int .i64 (1 + (x3 : Int))] 52)
  replace S := Lib.hid (S.out.call hbl)
  replace Z := Lib.hid (Z.out.call hbl)
  clear hbl
  go_upto_region 2 with fail
  generalize (v8.alloc (.cells #[.int .i64 (1 + (x1 : Int)), .string nm, .int .i64 (x2 : Int), .bool z1, .bool z2, .bool z3, .int .i64 (1 + (x3 : Int))] 52)) = v9 at *
  generalize v8.heap.size = q1 at *
  replace X := Lib.hid (show BT v9 q1 52 [.int .i64 x.id, .string x.nm, .int .i64 x.rk, .bool x.sc, .bool x.db, .bool x.am, .int .i64 x.nd] by (rw [← Hx.out]; exact X.out))
  replace HN := Lib.hid (show x.nm.size ≤ 11 by (rw [← Hx.out]; exact HN.out))
  clear Hx q3 hx1 hx2 hx3
  go_wp2_with fail
  refine (pick_any 24 (by omega) (by omega) b A n c _ _ S.out.cur (by omega)).mono ?_
  rintro e v10 ⟨⟨y, rfl, hy⟩, hc, ho⟩
  replace S := Lib.hid (S.out.draw hc ho)
  replace Z := Lib.hid (Z.out.draw ho (by omega))
  replace X := Lib.hid (X.out.draw ho (by omega))
  clear hc ho 
  go_upto_block 0 with fail
  go_cut [] (fun wx => ∃ (m2 : Nat) (x : Rul), m2 ≤ m + 12 ∧ Hid (x.nm.size ≤ 11) ∧ Hid (Std w wx b A n c m2) ∧ Hid (BT wx w.heap.size 52 [.int .i64 0, .string ⟨#[]⟩, .int .i64 0, .bool false, .bool false, .bool false, .int .i64 0]) ∧ Hid (BT wx q1 52 [.int .i64 x.id, .string x.nm, .int .i64 x.rk, .bool x.sc, .bool x.db, .bool x.am, .int .i64 x.nd]))
  case first =>
    rcases (show y = 0 ∨ y = 1 ∨ y = 2 ∨ y = 3 ∨ 4 ≤ y by omega) with rfl | rfl | rfl | rfl | hy4
    · skip
      have HL := Lib.hid (lit_cellsI v10 [0, 20, 21] 3 v10.heap.size rfl)
      have HLb : v10.heap.size ≠ b := by have := S.out.bw; omega
      have hbl := below1 v10 (.cells ((([0, 20, 21] : List Int).map (Value.int .i64)).toArray) 3)
      replace S := Lib.hid (S.out.call hbl)
      replace Z := Lib.hid (Z.out.call hbl)
      replace X := Lib.hid (X.out.call hbl)
      clear hbl
      go_wp2_with fail
      refine (among_any [0, 20, 21] (some ⟨v10.heap.size, 0, none⟩) 3 (by simp) (by simp) b A n c _ _ S.out.cur (by omega) HL.out (fun a ha => by obtain rfl := Option.some.inj ha; exact HLb)).mono ?_
      rintro e v11 ⟨⟨z, rfl, hz⟩, hc, ho⟩
      replace S := Lib.hid (S.out.draw hc ho)
      replace Z := Lib.hid (Z.out.draw ho (by omega))
      replace X := Lib.hid (X.out.draw ho (by omega))
      clear hc ho HL HLb 
      have x0 := X.out.box.1 0 _ rfl
      have x1 := X.out.box.1 1 _ rfl
      have x2 := X.out.box.1 2 _ rfl
      have x3 := X.out.box.1 3 _ rfl
      have x4 := X.out.box.1 4 _ rfl
      have x5 := X.out.box.1 5 _ rfl
      have x6 := X.out.box.1 6 _ rfl
      have xf := X.out.box.2
      have S9 := Lib.hid (S.out.set ⟨q1, 0, none⟩ (by show _ ≤ q1; omega) (.int .i64 z))
      have Z9 := Lib.hid (Z.out.far ⟨q1, 0, none⟩ (.int .i64 z) (by show _ ≠ q1; omega))
      have X9 := Lib.hid (show BT (v11.setCell ⟨q1, 0, none⟩ (.int .i64 z)) q1 52 [.int .i64 z, .string x.nm, .int .i64 x.rk, .bool x.sc, .bool x.db, .bool x.am, .int .i64 x.nd] from (X.out.set 0 (by simp) (.int .i64 z)))
      replace S := S9
      clear S9
      replace Z := Z9
      clear Z9
      replace X := X9
      clear X9
      have HZ := Lib.hid hz
      clear hz
      go_wp2_with fail
      go_meet
      exact ⟨_, ⟨z, x.nm, x.rk, x.sc, x.db, x.am, x.nd⟩, by omega, HN, S, Z, X⟩
    · skip
      have HL := Lib.hid (lit_cellsS v10 wd5 9 v10.heap.size rfl)
      have HLb : v10.heap.size ≠ b := by have := S.out.bw; omega
      have hbl := below1 v10 (.cells (wd5.map Value.string).toArray 9)
      replace S := Lib.hid (S.out.call hbl)
      replace Z := Lib.hid (Z.out.call hbl)
      replace X := Lib.hid (X.out.call hbl)
      clear hbl
      go_wp2_with fail
      refine (of_any wd5 (some ⟨v10.heap.size, 0, none⟩) 5 (by decide) (by decide) b A n c _ _ S.out.cur (by omega) HL.out (fun a ha => by obtain rfl := Option.some.inj ha; exact HLb)).mono ?_
      rintro e v12 ⟨⟨z, rfl, hz⟩, hc, ho⟩
      replace S := Lib.hid (S.out.draw hc ho)
      replace Z := Lib.hid (Z.out.draw ho (by omega))
      replace X := Lib.hid (X.out.draw ho (by omega))
      replace hz := wd5_short z hz
      clear hc ho HL HLb
      have x0 := X.out.box.1 0 _ rfl
      have x1 := X.out.box.1 1 _ rfl
      have x2 := X.out.box.1 2 _ rfl
      have x3 := X.out.box.1 3 _ rfl
      have x4 := X.out.box.1 4 _ rfl
      have x5 := X.out.box.1 5 _ rfl
      have x6 := X.out.box.1 6 _ rfl
      have xf := X.out.box.2
      have S9 := Lib.hid (S.out.set ⟨q1, 1, none⟩ (by show _ ≤ q1; omega) (.string z))
      have Z9 := Lib.hid (Z.out.far ⟨q1, 1, none⟩ (.string z) (by show _ ≠ q1; omega))
      have X9 := Lib.hid (show BT (v12.setCell ⟨q1, 1, none⟩ (.string z)) q1 52 [.int .i64 x.id, .string z, .int .i64 x.rk, .bool x.sc, .bool x.db, .bool x.am, .int .i64 x.nd] from (X.out.set 1 (by simp) (.string z)))
      replace S := S9
      clear S9
      replace Z := Z9
      clear Z9
      replace X := X9
      clear X9
      have HZ := Lib.hid hz
      clear hz
      go_wp2_with fail
      go_meet
      exact ⟨_, ⟨x.id, z, x.rk, x.sc, x.db, x.am, x.nd⟩, by omega, HZ, S, Z, X⟩
    · skip
      have HL := Lib.hid (lit_cellsI v10 [-1, 9, 10] 3 v10.heap.size rfl)
      have HLb : v10.heap.size ≠ b := by have := S.out.bw; omega
      have hbl := below1 v10 (.cells ((([-1, 9, 10] : List Int).map (Value.int .i64)).toArray) 3)
      replace S := Lib.hid (S.out.call hbl)
      replace Z := Lib.hid (Z.out.call hbl)
      replace X := Lib.hid (X.out.call hbl)
      clear hbl
      go_wp2_with fail
      refine (among_any [-1, 9, 10] (some ⟨v10.heap.size, 0, none⟩) 3 (by simp) (by simp) b A n c _ _ S.out.cur (by omega) HL.out (fun a ha => by obtain rfl := Option.some.inj ha; exact HLb)).mono ?_
      rintro e v13 ⟨⟨z, rfl, hz⟩, hc, ho⟩
      replace S := Lib.hid (S.out.draw hc ho)
      replace Z := Lib.hid (Z.out.draw ho (by omega))
      replace X := Lib.hid (X.out.draw ho (by omega))
      clear hc ho HL HLb 
      have x0 := X.out.box.1 0 _ rfl
      have x1 := X.out.box.1 1 _ rfl
      have x2 := X.out.box.1 2 _ rfl
      have x3 := X.out.box.1 3 _ rfl
      have x4 := X.out.box.1 4 _ rfl
      have x5 := X.out.box.1 5 _ rfl
      have x6 := X.out.box.1 6 _ rfl
      have xf := X.out.box.2
      have S9 := Lib.hid (S.out.set ⟨q1, 2, none⟩ (by show _ ≤ q1; omega) (.int .i64 z))
      have Z9 := Lib.hid (Z.out.far ⟨q1, 2, none⟩ (.int .i64 z) (by show _ ≠ q1; omega))
      have X9 := Lib.hid (show BT (v13.setCell ⟨q1, 2, none⟩ (.int .i64 z)) q1 52 [.int .i64 x.id, .string x.nm, .int .i64 z, .bool x.sc, .bool x.db, .bool x.am, .int .i64 x.nd] from (X.out.set 2 (by simp) (.int .i64 z)))
      replace S := S9
      clear S9
      replace Z := Z9
      clear Z9
      replace X := X9
      clear X9
      have HZ := Lib.hid hz
      clear hz
      go_wp2_with fail
      go_meet
      exact ⟨_, ⟨x.id, x.nm, z, x.sc, x.db, x.am, x.nd⟩, by omega, HN, S, Z, X⟩
    · skip
      have HL := Lib.hid (lit_cellsI v10 [0, 4] 3 v10.heap.size rfl)
      have HLb : v10.heap.size ≠ b := by have := S.out.bw; omega
      have hbl := below1 v10 (.cells ((([0, 4] : List Int).map (Value.int .i64)).toArray) 3)
      replace S := Lib.hid (S.out.call hbl)
      replace Z := Lib.hid (Z.out.call hbl)
      replace X := Lib.hid (X.out.call hbl)
      clear hbl
      go_wp2_with fail
      refine (among_any [0, 4] (some ⟨v10.heap.size, 0, none⟩) 2 (by simp) (by simp) b A n c _ _ S.out.cur (by omega) HL.out (fun a ha => by obtain rfl := Option.some.inj ha; exact HLb)).mono ?_
      rintro e v14 ⟨⟨z, rfl, hz⟩, hc, ho⟩
      replace S := Lib.hid (S.out.draw hc ho)
      replace Z := Lib.hid (Z.out.draw ho (by omega))
      replace X := Lib.hid (X.out.draw ho (by omega))
      clear hc ho HL HLb 
      have x0 := X.out.box.1 0 _ rfl
      have x1 := X.out.box.1 1 _ rfl
      have x2 := X.out.box.1 2 _ rfl
      have x3 := X.out.box.1 3 _ rfl
      have x4 := X.out.box.1 4 _ rfl
      have x5 := X.out.box.1 5 _ rfl
      have x6 := X.out.box.1 6 _ rfl
      have xf := X.out.box.2
      have S9 := Lib.hid (S.out.set ⟨q1, 6, none⟩ (by show _ ≤ q1; omega) (.int .i64 z))
      have Z9 := Lib.hid (Z.out.far ⟨q1, 6, none⟩ (.int .i64 z) (by show _ ≠ q1; omega))
      have X9 := Lib.hid (show BT (v14.setCell ⟨q1, 6, none⟩ (.int .i64 z)) q1 52 [.int .i64 x.id, .string x.nm, .int .i64 x.rk, .bool x.sc, .bool x.db, .bool x.am, .int .i64 z] from (X.out.set 6 (by simp) (.int .i64 z)))
      replace S := S9
      clear S9
      replace Z := Z9
      clear Z9
      replace X := X9
      clear X9
      have HZ := Lib.hid hz
      clear hz
      go_wp2_with fail
      go_meet
      exact ⟨_, ⟨x.id, x.nm, x.rk, x.sc, x.db, x.am, z⟩, by omega, HN, S, Z, X⟩
    · skip
      have e0 : ((y : Int) == 0) = false := by simp; omega
      have e1 : ((y : Int) == 1) = false := by simp; omega
      have e2 : ((y : Int) == 2) = false := by simp; omega
      have e3 : ((y : Int) == 3) = false := by simp; omega
      go_wp2_with fail
      go_meet
      exact ⟨_, x, by omega, HN, S, Z, X⟩
  case rest =>
    clear S Z X HN
    obtain ⟨W, rfl⟩ : ∃ W, W = wc := ⟨_, rfl⟩
    obtain ⟨m2, x, hm2, HN, S, Z, X⟩ := hcut
    go_upto_region 11 with fail
    go_wp2_with (first | (refine wpList_load_mid rfl 52 _ rfl q1 0 rfl [.int .i64 x.id, .string x.nm, .int .i64 x.rk, .bool x.sc, .bool x.db, .bool x.am, .int .i64 x.nd] _ X.out.rng Try.underlying52 rfl (by kernel_rfl) ?_) | ((refine wpList_store_mid rfl 52 _ _ rfl w.heap.size 0 #[.int .i64 x.id, .string x.nm, .int .i64 x.rk, .bool x.sc, .bool x.db, .bool x.am, .int .i64 x.nd] rfl rfl Z.out.there (by kernel_rfl) (by simp [Value.oneCell']) ?_); replace S := Lib.hid (S.out.puts (q := w.heap.size) (by omega) 0 [.int .i64 x.id, .string x.nm, .int .i64 x.rk, .bool x.sc, .bool x.db, .bool x.am, .int .i64 x.nd]); replace X := Lib.hid (X.out.putsfar w.heap.size (by omega) 0 [.int .i64 x.id, .string x.nm, .int .i64 x.rk, .bool x.sc, .bool x.db, .bool x.am, .int .i64 x.nd]); replace Z := Lib.hid (Z.out.puts [.int .i64 x.id, .string x.nm, .int .i64 x.rk, .bool x.sc, .bool x.db, .bool x.am, .int .i64 x.nd] (by rfl)); have KS := Z.out.box; have k0 := KS.1 0 _ rfl; have k1 := KS.1 1 _ rfl; have k2 := KS.1 2 _ rfl; have k3 := KS.1 3 _ rfl; have k4 := KS.1 4 _ rfl; have k5 := KS.1 5 _ rfl; have k6 := KS.1 6 _ rfl; clear KS) | (refine bodyPost_ret (v := .agg #[.int .i64 x.id, .string x.nm, .int .i64 x.rk, .bool x.sc, .bool x.db, .bool x.am, .int .i64 x.nd]) (by simp [results, Try.results94, go_sem, k0, k1, k2, k3, k4, k5, k6]) rfl ?_; exact ⟨x, rfl, HN.out, S.out.cur.mono (by omega), S.out.on⟩))
end Go.Proofs.Ytifahgdalgjgfaa
