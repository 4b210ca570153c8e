/- The statement FnRanksSaid of the given rows: for every input the law returns true and leaves what it was handed as it was. Conditions: none. -/
import Derived.Test.YtifahgdalgjgfaaMRk1
import Derived.Test.YtifahgdalgjgfaaDr7
import Derived.Test.YtifahgdalgjgfaaLst
import Derived.Test.YtifahgdalgjgfaaDv
import Derived.Test.YtifahgdalgjgfaaByt
import Derived.Deep.DrawnRows
import Derived.Deep.Cut
import Derived.Deep.CutBlock
import Derived.Deep.CutRange
import Derived.Deep.DeepCutAuto
import Derived.Test.YtifahgdalgjgfaaRows
import Derived.ProofKit
import Derived.OpenShut
import Derived.ShutString
import Derived.Carry
import Derived.Lib.SmallJoins
namespace Go.Proofs.Ytifahgdalgjgfaa
open Go.RowKit
set_option linter.unusedVariables false
set_option linter.unusedSimpArgs false
attribute [local go_sem ↓] Go.wp_at_zero Go.wp_at_succ
def DrR (w : World) (P : Option Addr) (p : Nat) (xs : List Rul) (w' : World) : Prop := OwD RuleK 52 w.heap.size w' P p xs ∧ xs.length ≤ 20 ∧ Below w.heap.size w w'
theorem tmp_cell {fn : Func} {p u : Tmp} {ty : TypeId} (h : fn.results = #[.tmp u, .cell p ty]) (tmps : Array Value) (P : Program) (w : World) :
    (results fn tmps).run P w = ((asAddr (tmps.getD p undef)).run P w).andThen fun a w1 => ((loadVar ty a).run P w1).andThen fun v w2 => .ok (.tuple #[tmps.getD u undef, v]) w2 := by
  simp only [results, h]
  simp [Sem.run_bind, Result.andThen]
theorem OwD.putsN {α : Type} {K : Kd α} {e lo c : Nat} {O : Option Addr} {xs : List α} (q : Nat) (hq : q < lo) : ∀ {w : World}, OwD K e lo w O c xs → ∀ (o : Nat) (vs : List Value), OwD K e lo (w.setCells q o vs) O c xs := by
  intro w h o vs
  induction vs generalizing o w with
  | nil => exact h
  | cons v vs ih => exact ih ⟨ownsRow_setCell_other h.1 (fun e9 => absurd (h.1.lt _ e9).1 (by show ¬ lo ≤ q; omega)) v, h.2.1.mono (by simp), h.2.2⟩ (o + 1)
set_option maxHeartbeats 1000000 in
theorem vRules_same {B B' : Nat} {A A' : Option Addr} {c c' : Nat} {xs : List Rul} {w : World} (h : Rd RuleK B w A c xs) (h' : Rd RuleK B' w A' c' xs) :
    Calls Try.prog 41 #[.slice A xs.length c, .slice A' xs.length c'] w fun e w' => e = .returned (.bool true) ∧ Below w.heap.size w w' := by
  have ha := h.cells
  have hb := h'.cells
  have hn := h.2.2.1
  have hne : ((xs.length : Int) != (xs.length : Int)) = false := by simp
  clear h h'
  go_enter Try.func41, Try.ntmps41
  go_wp2
  go_loopw [5] (fun i wr => ∃ k : Nat, k ≤ xs.length ∧ i = .int .i64 k ∧ ∃ m, wr = w.drewN m) (fun i _ => xs.length - (intOf i).toNat)
  case atStart => exact ⟨0, Nat.zero_le _, rfl, 0, rfl⟩
  case round =>
    obtain ⟨k, hk, rfl, m, rfl⟩ := hrel
    by_cases hlt : k < xs.length
    · obtain ⟨a, rfl, hc0, hc1, hc2, hc3, hc4, hc5, hc6⟩ := rule_at ha hlt
      obtain ⟨b, rfl, hd0, hd1, hd2, hd3, hd4, hd5, hd6⟩ := rule_at hb hlt
      have i1 : (k : Int) < (xs.length : Int) := by omega
      obtain ⟨x, hx⟩ : ∃ x, xs[k] = x := ⟨_, rfl⟩
      rw [hx] at hc0 hc1 hc2 hc3 hc4 hc5 hc6 hd0 hd1 hd2 hd3 hd4 hd5 hd6
      clear hx
      go_wp2
      go_quiet (fail)
      go_wp2
      go_roundw
      case rel => exact ⟨k + 1, hlt, by go_num, by first | exact ⟨_, rfl⟩ | exact ⟨_, World.drewN_drewN _ _ _⟩⟩
      case measure => simp [intOf]; omega
    · obtain rfl : k = xs.length := by omega
      go_wp2
      go_ret
      exact ⟨rfl, below_drewN (Below.refl _ _) m⟩
set_option maxRecDepth 100000 in
set_option maxHeartbeats 4000000 in
theorem DrawRulesAbove_any (A : Option Addr) (n c : Nat) (w : World) (h : BytesC w A n) (hn : n ≤ 65536) :
    Calls Try.prog 43 #[.slice A n c] w fun e w' => ∃ (P : Option Addr) (p : Nat) (xs : List Rul) (k : Int), e = .returned (.tuple #[.slice P xs.length p, .int .i64 k]) ∧ DrR w P p xs w' := by
  have S := Lib.hid (Tst.mk (Cur.new_ (c := c) h hn 88) (below1 w _) h (Nat.le_refl _))
  have hb0 : w.heap.size < (w.alloc (.cells #[.slice A n c, .int .i64 0, .int .u64 0] 88)).heap.size := by simp
  clear h
  go_enter Try.func43, Try.ntmps43
  go_upto_region 2 with fail
  generalize (w.alloc (.cells #[.slice A n c, .int .i64 0, .int .u64 0] 88)) = v1 at *
  go_wp2_with fail
  refine (rules_any w.heap.size A n c _ _ S.out.cur (by omega)).mono ?_
  rintro e v2 ⟨P, p, xs, rfl, hxl, o1, hc, ho⟩
  replace S := Lib.hid (S.out.draw hc ho)
  have RR := Lib.hid o1
  clear hc ho o1
  go_wp2_with fail
  refine (pick_any 13 (by omega) (by omega) w.heap.size A n c _ _ S.out.cur (by omega)).mono ?_
  rintro e v3 ⟨⟨y, rfl, hy⟩, hc, ho⟩
  replace S := Lib.hid (S.out.draw hc ho)
  replace RR := Lib.hid (RR.out.draw ho (by omega))
  clear hc ho 
  have qy : IntKind.i64.wrap ((y : Int) - 2) = (y : Int) - 2 := by rw [IntKind.wrap_i64]; omega
  go_wp2_with (refine bodyPost_ret (v := .tuple #[.slice P xs.length p, .int .i64 ((y : Int) - 2)]) (by simp [results, Try.results43, go_sem]) rfl ?_; exact ⟨P, p, xs, (y : Int) - 2, rfl, RR.out.low (by omega), hxl, S.out.on⟩)
set_option maxRecDepth 100000 in
set_option maxHeartbeats 4000000 in
theorem DrawChangeRank_any (A : Option Addr) (n c : Nat) (w : World) (h : BytesC w A n) (hn : n ≤ 65536) :
    Calls Try.prog 46 #[.slice A n c] w fun e w' => ∃ (P : Option Addr) (p : Nat) (xs : List Rul) (i q : Int), e = .returned (.tuple #[.slice P xs.length p, .int .i64 i, .int .i64 q]) ∧ DrR w P p xs w' := by
  have S := Lib.hid (Tst.mk (Cur.new_ (c := c) h hn 88) (below1 w _) h (Nat.le_refl _))
  have hb0 : w.heap.size < (w.alloc (.cells #[.slice A n c, .int .i64 0, .int .u64 0] 88)).heap.size := by simp
  clear h
  go_enter Try.func46, Try.ntmps46
  go_upto_region 2 with fail
  generalize (w.alloc (.cells #[.slice A n c, .int .i64 0, .int .u64 0] 88)) = v1 at *
  go_wp2_with fail
  refine (rules_any w.heap.size A n c _ _ S.out.cur (by omega)).mono ?_
  rintro e v2 ⟨P, p, xs, rfl, hxl, o1, hc, ho⟩
  replace S := Lib.hid (S.out.draw hc ho)
  have RR := Lib.hid o1
  clear hc ho o1
  go_wp2_with fail
  refine (ruleOf_any_ P p _ xs w.heap.size A n c _ _ S.out.cur (by omega) RR.out (by omega) (by omega)).mono ?_
  rintro e v3 ⟨⟨id, rfl⟩, hc, ho⟩
  replace S := Lib.hid (S.out.draw hc ho)
  replace RR := Lib.hid (RR.out.draw ho (by omega))
  clear hc ho 
  have HL := Lib.hid (lit_cellsI v3 [0, 5, 9, 10, -1] 3 v3.heap.size rfl)
  have HLb : v3.heap.size ≠ w.heap.size := by have := S.out.bw; omega
  have hbl := below1 v3 (.cells ((([0, 5, 9, 10, -1] : List Int).map (Value.int .i64)).toArray) 3)
  replace S := Lib.hid (S.out.call hbl)
  replace RR := Lib.hid (RR.out.call hbl)
  clear hbl
  go_wp2_with fail
  refine (among_any [0, 5, 9, 10, -1] (some ⟨v3.heap.size, 0, none⟩) 5 (by simp) (by simp) w.heap.size A n c _ _ S.out.cur (by omega) HL.out (fun a ha => by obtain rfl := Option.some.inj ha; exact HLb)).mono ?_
  rintro e v4 ⟨⟨q, rfl, hq⟩, hc, ho⟩
  replace S := Lib.hid (S.out.draw hc ho)
  replace RR := Lib.hid (RR.out.draw ho (by omega))
  clear hc ho HL HLb
  clear hq
  go_wp2_with (refine bodyPost_ret (v := .tuple #[.slice P xs.length p, .int .i64 id, .int .i64 q]) (by simp [results, Try.results46, go_sem]) rfl ?_; exact ⟨P, p, xs, id, q, rfl, RR.out.low (by omega), hxl, S.out.on⟩)
set_option maxRecDepth 100000 in
set_option maxHeartbeats 4000000 in
theorem DrawRuleByName_any (A : Option Addr) (n c : Nat) (w : World) (h : BytesC w A n) (hn : n ≤ 65536) :
    Calls Try.prog 48 #[.slice A n c] w fun e w' => ∃ (P : Option Addr) (p : Nat) (xs : List Rul) (s : ByteArray), e = .returned (.tuple #[.slice P xs.length p, .string s]) ∧ DrR w P p xs w' := by
  have S := Lib.hid (Tst.mk (Cur.new_ (c := c) h hn 88) (below1 w _) h (Nat.le_refl _))
  have hb0 : w.heap.size < (w.alloc (.cells #[.slice A n c, .int .i64 0, .int .u64 0] 88)).heap.size := by simp
  clear h
  go_enter Try.func48, Try.ntmps48
  go_upto_region 2 with fail
  generalize (w.alloc (.cells #[.slice A n c, .int .i64 0, .int .u64 0] 88)) = v1 at *
  go_wp2_with fail
  refine (rules_any w.heap.size A n c _ _ S.out.cur (by omega)).mono ?_
  rintro e v2 ⟨P, p, xs, rfl, hxl, o1, hc, ho⟩
  replace S := Lib.hid (S.out.draw hc ho)
  have RR := Lib.hid o1
  clear hc ho o1
  by_cases hz : xs.length = 0
  · have kz : decide ((xs.length : Int) > 0) = false := by simp [hz]
    have iz : ¬ (0 : Int) < (xs.length : Int) := by omega
    have HZ := Lib.hid hz
    clear hz
    go_wp2_with fail
    refine (word_any w.heap.size A n c _ _ S.out.cur (by omega)).mono ?_
    rintro e v3 ⟨⟨t, rfl, ht⟩, hc, ho⟩
    replace S := Lib.hid (S.out.draw hc ho)
    replace RR := Lib.hid (RR.out.draw ho (by omega))
    clear hc ho ht
    go_wp2_with (refine bodyPost_ret (v := .tuple #[.slice P xs.length p, .string t]) (by simp [results, Try.results48, go_sem]) rfl ?_; exact ⟨P, p, xs, t, rfl, RR.out.low (by omega), hxl, S.out.on⟩)
  · have iz : (0 : Int) < (xs.length : Int) := by omega
    have kz : decide ((0 : Int) < (xs.length : Int)) = true := decide_eq_true iz
    go_wp2_with fail
    refine (one_any 2 (by omega) (by omega) w.heap.size A n c _ _ S.out.cur (by omega)).mono ?_
    rintro e v4 ⟨⟨z, rfl⟩, hc, ho⟩
    replace S := Lib.hid (S.out.draw hc ho)
    replace RR := Lib.hid (RR.out.draw ho (by omega))
    clear hc ho 
    rcases Bool.eq_false_or_eq_true z with hz2 | hz2
    · subst hz2
      go_upto_region 4 with fail
      refine wp_region_noPanic ?_
      refine wp_region_held_drew (S := (fun w' => Below 0 w' w')) (by kernel_rfl) ?_ (fun hHeld => ?_)
      · ((try dsimp only); exact Below.refl 0 _)
      replace S := Lib.hid (S.out.call (Below.refl v4.heap.size v4).drew)
      replace RR := Lib.hid (RR.out.call (Below.refl v4.heap.size v4).drew)
      generalize v4.drew = ud at *
      refine take_yes (i := 0) (d := 18) (v := ?_) rfl rfl (by kernel_rfl) (by kernel_rfl) (by kernel_rfl) (fun _ _ _ h => h) (by kernel_rfl) ?_ hHeld ?_
      rotate_left
      · (intro w hSw; (try dsimp only at hSw); go_simp; try (with_reducible rfl))
      try simp only [Act.put, List.setIfInBounds_toArray, List.set_cons_zero, List.set_cons_succ]
      refine take_yes (i := 1) (d := 19) (v := ?_) rfl rfl (by kernel_rfl) (by kernel_rfl) (by kernel_rfl) (fun _ _ _ h => h) (by kernel_rfl) ?_ hHeld ?_
      rotate_left
      · (intro w hSw; (try dsimp only at hSw); go_simp; try (with_reducible rfl))
      try simp only [Act.put, List.setIfInBounds_toArray, List.set_cons_zero, List.set_cons_succ]
      refine take_yes (i := 2) (d := 20) (v := ?_) rfl rfl (by kernel_rfl) (by kernel_rfl) (by kernel_rfl) (fun _ _ _ h => h) (by kernel_rfl) ?_ hHeld ?_
      rotate_left
      · (intro w hSw; (try dsimp only at hSw); go_simp; try (with_reducible rfl))
      try simp only [Act.put, List.setIfInBounds_toArray, List.set_cons_zero, List.set_cons_succ]
      refine take_yes (i := 3) (d := 21) (v := ?_) rfl rfl (by kernel_rfl) (by kernel_rfl) (by kernel_rfl) (fun _ _ _ h => h) (by kernel_rfl) ?_ hHeld ?_
      rotate_left
      · (intro w hSw; (try dsimp only at hSw); go_simp; try (with_reducible rfl))
      try simp only [Act.put, List.setIfInBounds_toArray, List.set_cons_zero, List.set_cons_succ]
      refine take_yes (i := 4) (d := 22) (v := ?_) rfl rfl (by kernel_rfl) (by kernel_rfl) (by kernel_rfl) (fun _ _ _ h => h) (by kernel_rfl) ?_ hHeld ?_
      rotate_left
      · (intro w hSw; (try dsimp only at hSw); go_simp; try (with_reducible rfl))
      try simp only [Act.put, List.setIfInBounds_toArray, List.set_cons_zero, List.set_cons_succ]
      refine wpAnyH_ready (rs := [5]) (by kernel_rfl) (by simp) ?_
      refine AllReadyH.cons rfl (fun K hK => ?_) (AllReadyH.nil)
      go_simp
      (go_at_call 84; refine (pickZ_any (xs.length : Int) (by omega) w.heap.size A n c _ _ S.out.cur (by omega)).mono ?_; rintro e v5 ⟨⟨y, rfl, hy⟩, hc, ho⟩; have HC := Lib.hid hc; have HO := Lib.hid ho; clear hc ho)
      (first | refine hK.out _ _ ?_ (fun hHeld1 => ?_) | (go_wp2_with fail; refine hK.out _ _ ?_ (fun hHeld1 => ?_)))
      · ((try dsimp only); exact Below.refl 0 _)
      clear hK K hHeld
      have hHeld := hHeld1
      clear hHeld1
      try simp only [Act.put, List.setIfInBounds_toArray, List.set_cons_zero, List.set_cons_succ]
      replace S := Lib.hid (S.out.draw HC.out HO.out)
      replace RR := Lib.hid (RR.out.draw HO.out (by omega))
      clear HC HO
      have hyl : y < xs.length := by omega
      obtain ⟨a, hPa, _, hcj, _⟩ := rule_at RR.out.rd.cells hyl
      subst hPa
      have i1 : (y : Int) < (xs.length : Int) := by omega
      obtain ⟨u, hu⟩ : ∃ u, xs[y].nm = u := ⟨_, rfl⟩
      rw [hu] at hcj
      clear hu
      refine take_yes (i := 6) (d := 24) (v := ?_) rfl rfl (by kernel_rfl) (by kernel_rfl) (by kernel_rfl) (fun _ _ _ h => h) (by kernel_rfl) ?_ hHeld ?_
      rotate_left
      · (intro w hSw; (try dsimp only at hSw); go_simp; try (with_reducible rfl))
      try simp only [Act.put, List.setIfInBounds_toArray, List.set_cons_zero, List.set_cons_succ]
      refine take_yes (i := 7) (d := 25) (v := ?_) rfl rfl (by kernel_rfl) (by kernel_rfl) (by kernel_rfl) (fun _ _ _ h => h) (by kernel_rfl) ?_ hHeld ?_
      rotate_left
      · (intro w hSw; (try dsimp only at hSw); go_simp; try (with_reducible rfl))
      try simp only [Act.put, List.setIfInBounds_toArray, List.set_cons_zero, List.set_cons_succ]
      refine take_yes (i := 9) (d := 2) (v := ?_) rfl rfl (by kernel_rfl) (by kernel_rfl) (by kernel_rfl) (fun _ _ _ h => h) (by kernel_rfl) ?_ hHeld ?_
      rotate_left
      · (intro w hSw; (try dsimp only at hSw); go_simp; try (with_reducible rfl))
      try simp only [Act.put, List.setIfInBounds_toArray, List.set_cons_zero, List.set_cons_succ]
      refine wpAnyH_ready (rs := [8]) (by kernel_rfl) (by simp) ?_
      refine AllReadyH.cons rfl (fun K hK => ?_) (AllReadyH.nil)
      go_simp
      (first | refine hK.out _ _ ?_ (fun hHeld1 => ?_) | (go_wp2_with fail; refine hK.out _ _ ?_ (fun hHeld1 => ?_)))
      · ((try dsimp only); exact Below.refl 0 _)
      clear hK K hHeld
      have hHeld := hHeld1
      clear hHeld1
      try simp only [Act.put, List.setIfInBounds_toArray, List.set_cons_zero, List.set_cons_succ]
      refine take_yes (i := 10) (d := 3) (v := ?_) rfl rfl (by kernel_rfl) (by kernel_rfl) (by kernel_rfl) (fun _ _ _ h => h) (by kernel_rfl) ?_ hHeld ?_
      rotate_left
      · (intro w hSw; (try dsimp only at hSw); go_simp; try (with_reducible rfl))
      try simp only [Act.put, List.setIfInBounds_toArray, List.set_cons_zero, List.set_cons_succ]
      refine wpAnyH_done (by kernel_rfl) ?_ _
      refine NoPanic.normal ?_
      clear hHeld
      go_wp2_with (refine bodyPost_ret (v := .tuple #[.slice (some a) xs.length p, .string u]) (by simp [results, Try.results48, go_sem]) rfl ?_; exact ⟨some a, p, xs, u, rfl, RR.out.low (by omega), hxl, S.out.on⟩)
    · subst hz2
      go_wp2_with fail
      refine (word_any w.heap.size A n c _ _ S.out.cur (by omega)).mono ?_
      rintro e v6 ⟨⟨t, rfl, ht⟩, hc, ho⟩
      replace S := Lib.hid (S.out.draw hc ho)
      replace RR := Lib.hid (RR.out.draw ho (by omega))
      clear hc ho ht
      go_wp2_with (refine bodyPost_ret (v := .tuple #[.slice P xs.length p, .string t]) (by simp [results, Try.results48, go_sem]) rfl ?_; exact ⟨P, p, xs, t, rfl, RR.out.low (by omega), hxl, S.out.on⟩)
set_option maxRecDepth 100000 in
set_option maxHeartbeats 4000000 in
theorem DrawAddRule_any (A : Option Addr) (n c : Nat) (w : World) (h : BytesC w A n) (hn : n ≤ 65536) :
    Calls Try.prog 38 #[.slice A n c] w fun e w' => ∃ (P : Option Addr) (p : Nat) (xs : List Rul) (x : Rul), e = .returned (.tuple #[.slice P xs.length p, .agg #[.int .i64 x.id, .string x.nm, .int .i64 x.rk, .bool x.sc, .bool x.db, .bool x.am, .int .i64 x.nd]]) ∧ RuleK.fit x ∧ DrR w P p xs w' := by
  have Z := Lib.hid (BT.new w #[.int .i64 0, .string ⟨#[]⟩, .int .i64 0, .bool false, .bool false, .bool false, .int .i64 0] 52 w.heap.size rfl)
  have HB0 := Lib.hid (below1 w (.cells #[.int .i64 0, .string ⟨#[]⟩, .int .i64 0, .bool false, .bool false, .bool false, .int .i64 0] 52))
  have hs0 : w.heap.size + 1 = (w.alloc (.cells #[.int .i64 0, .string ⟨#[]⟩, .int .i64 0, .bool false, .bool false, .bool false, .int .i64 0] 52)).heap.size := by simp
  have h0 := h.below_ HB0.out
  clear h
  go_enter Try.func38, Try.ntmps38
  go_upto_region 1 with fail
  generalize (w.alloc (.cells #[.int .i64 0, .string ⟨#[]⟩, .int .i64 0, .bool false, .bool false, .bool false, .int .i64 0] 52)) = w0 at *
  have S := Lib.hid (Tst.mk (Cur.new_ (c := c) h0 hn 88) (below1 w0 _) h0 (Nat.le_refl _))
  have hb0 : w0.heap.size < (w0.alloc (.cells #[.slice A n c, .int .i64 0, .int .u64 0] 88)).heap.size := by simp
  replace Z := Lib.hid (Z.out.call (below1 w0 (.cells #[.slice A n c, .int .i64 0, .int .u64 0] 88)))
  clear h0
  go_upto_region 2 with fail
  generalize (w0.alloc (.cells #[.slice A n c, .int .i64 0, .int .u64 0] 88)) = v1 at *
  go_wp2_with fail
  refine (rules_any w0.heap.size A n c _ _ S.out.cur (by omega)).mono ?_
  rintro e v2 ⟨P, p, xs, rfl, hxl, o1, hc, ho⟩
  replace Z := Lib.hid (Z.out.draw ho (by omega))
  replace S := Lib.hid (S.out.draw hc ho)
  have RR := Lib.hid o1
  clear hc ho o1
  go_wp2_with fail
  refine (rule_any w0.heap.size A n c _ _ S.out.cur (by omega)).mono ?_
  rintro e v3 ⟨x, rfl, hx, hc, ho⟩
  replace Z := Lib.hid (Z.out.draw ho (by omega))
  replace S := Lib.hid (S.out.draw hc ho)
  replace RR := Lib.hid (RR.out.draw ho (by omega))
  have HX := Lib.hid (fit11 hx)
  clear hc ho hx
  go_wp2_with (first | ((refine wpList_store_mid rfl 52 _ _ rfl w.heap.size 0 #[.int .i64 x.id, .string x.nm, .int .i64 x.rk, .bool x.sc, .bool x.db, .bool x.am, .int .i64 x.nd] rfl rfl Z.out.there (by kernel_rfl) (by simp [Value.oneCell']) ?_); replace Z := Lib.hid (Z.out.puts [.int .i64 x.id, .string x.nm, .int .i64 x.rk, .bool x.sc, .bool x.db, .bool x.am, .int .i64 x.nd] (by rfl)); have KS := Z.out.box; have k0 := KS.1 0 _ rfl; have k1 := KS.1 1 _ rfl; have k2 := KS.1 2 _ rfl; have k3 := KS.1 3 _ rfl; have k4 := KS.1 4 _ rfl; have k5 := KS.1 5 _ rfl; have k6 := KS.1 6 _ rfl; clear KS; have HB9 := Lib.hid (show Below w.heap.size w (v3.setCells w.heap.size 0 [.int .i64 x.id, .string x.nm, .int .i64 x.rk, .bool x.sc, .bool x.db, .bool x.am, .int .i64 x.nd]) from below_puts_ (HB0.out.trans (S.out.on.mono HB0.out.size)) (Nat.le_refl _) _ _); replace RR := Lib.hid (OwD.putsN w.heap.size (by omega) RR.out 0 [.int .i64 x.id, .string x.nm, .int .i64 x.rk, .bool x.sc, .bool x.db, .bool x.am, .int .i64 x.nd])) | (refine bodyPost_ret (v := .tuple #[.slice P xs.length p, .agg #[.int .i64 x.id, .string x.nm, .int .i64 x.rk, .bool x.sc, .bool x.db, .bool x.am, .int .i64 x.nd]]) (by rw [tmp_cell Try.results38]; simp [go_sem, k0, k1, k2, k3, k4, k5, k6]) rfl ?_; exact ⟨P, p, xs, x, rfl, HX.out, RR.out.low (by omega), hxl, HB9.out⟩))
end Go.Proofs.Ytifahgdalgjgfaa
namespace Go.Proofs.Ytifahgdalgjgfaa
open Go.RowKit
set_option linter.unusedVariables false
theorem add_law {xs : List Rul} {x : Rul} (h : adB xs x = true) : rbB (adL xs x) x.nm = true ∧ rbR (adL xs x) x.nm = x ∧ crB (adL xs x) x.id x.rk = true ∧ crL (adL xs x) x.id x.rk = adL xs x ∧ (adL xs x).length = xs.length + 1 := by
  have e : adL xs x = insR x xs := by unfold adL; rw [if_pos h]
  have hb := h
  unfold adB at hb
  rw [Bool.and_eq_true] at hb
  have hr := hb.2
  have hle := cntR_le x.id xs
  obtain ⟨g, hg⟩ : ∃ g, insR x xs = g := ⟨_, rfl⟩
  have hl : g.length = xs.length + 1 := by rw [← hg]; exact insR_len x xs
  have hn : cntR x.id xs < g.length := by omega
  have hx : g[cntR x.id xs] = x := by
    have h1 : g[cntR x.id xs]? = some x := by
      rw [← hg]
      unfold insR
      rw [List.getElem?_append_right (by rw [List.length_take]; omega), List.length_take, Nat.min_eq_left hle, Nat.sub_self]
      rfl
    rw [List.getElem?_eq_getElem hn] at h1
    exact Option.some.inj h1
  rw [e, hg]
  rw [hg] at hr
  have h2 := rb_at hr hn
  have h3 := ix_at hr hn
  rw [hx] at h2 h3
  have hs : setRk g (cntR x.id xs) x.rk = g := by
    rw [setRk_at hn hx]
    apply List.ext_getElem (by rw [List.length_set])
    intro j h4 h5
    rw [List.getElem_set]
    split
    · rename_i h6
      subst h6
      exact hx.symm
    · rfl
  obtain ⟨h6, h7⟩ := cr_yes (k := x.rk) hr h3
  rw [hs] at h6 h7
  exact ⟨h2.1, h2.2, by rw [h7]; exact hr, by rw [h6]; unfold rkL; rw [if_pos hr], hl⟩
theorem above_law {xs : List Rul} {k : Int} (h : raB xs k = true) {i : Nat} (hi : i < xs.length) : hasB xs[i].id (raL xs k) = decide (k < xs[i].rk) := by
  have hb := h
  unfold raB at hb
  rw [Bool.and_eq_true] at hb
  obtain ⟨hr, hk⟩ := hb
  obtain ⟨k1, k2⟩ := inB_iff.1 hk
  have e : raL xs k = (buck Rul.rk (ats (9 - k).toNat) xs).map Rul.id := by unfold raL; rw [if_pos h]
  have key2 : xs[i].id ∈ raL xs k ↔ k < xs[i].rk := by
    rw [e, List.mem_map]
    constructor
    · rintro ⟨y, hy, hid⟩
      obtain ⟨h1, h2⟩ := buck_mem.1 hy
      have h3 := ats_mem.1 h2
      obtain ⟨m, hm, rfl⟩ := List.getElem_of_mem h1
      have hmi : m = i := by
        rcases Nat.lt_trichotomy m i with h4 | h4 | h4
        · have := ru_id hr hi h4; omega
        · exact h4
        · have := ru_id hr hm h4; omega
      subst hmi
      omega
    · intro h1
      have h2 := rules_rk hr (List.getElem_mem hi)
      exact ⟨xs[i], buck_mem.2 ⟨List.getElem_mem hi, ats_mem.2 ⟨by omega, by omega⟩⟩, rfl⟩
  unfold hasB
  by_cases c : k < xs[i].rk
  · rw [decide_eq_true c]; exact List.contains_iff_mem.2 (key2.2 c)
  · rw [decide_eq_false c]
    rcases Bool.eq_false_or_eq_true ((raL xs k).contains xs[i].id) with h5 | h5
    · exact absurd (key2.1 (List.contains_iff_mem.1 h5)) c
    · exact h5
end Go.Proofs.Ytifahgdalgjgfaa
namespace Go.Proofs.Ytifahgdalgjgfaa.fnRanks
open Go.RowKit
set_option linter.unusedVariables false
set_option linter.unusedSimpArgs false
attribute [local go_sem ↓] Go.wp_at_zero Go.wp_at_succ
set_option maxRecDepth 100000 in
set_option maxHeartbeats 16000000 in
theorem walk (A : Option Addr) (c : Nat) (xs : List Int) (w : World) (hx : xs.length ≤ c ∧ Cells w A (ByteK.row xs) ∧ xs.length ≤ maxLen ∧ ∀ x ∈ xs, ByteK.fit x) :
    Calls Try.prog 5 #[.slice A xs.length c] w fun e w' => e = .returned (.bool true) ∧ Below w.heap.size w w' := by
  have S := Lib.hid (Lst.mk (Below.refl w.heap.size w) (bytesC_of hx.2.1 hx.2.2.2))
  clear hx
  by_cases hbig : 65536 < xs.length
  · have hd : decide (65536 < xs.length) = true := decide_eq_true hbig
    go_enter Try.func5, Try.ntmps5
    go_wp2_with fail
    refine (vBig_any A _ c w).mono ?_
    rintro e w1 ⟨rfl, hb⟩
    rw [hd]
    go_wp2
    go_ret
    exact ⟨rfl, hb⟩
  have hd : decide (65536 < xs.length) = false := decide_eq_false hbig
  have hxl : xs.length ≤ 65536 := by omega
  clear hbig
  go_enter Try.func5, Try.ntmps5
  go_wp2_with fail
  refine (vBig_any A _ c w).mono ?_
  rintro e v1 ⟨rfl, hb⟩
  replace S := Lib.hid (S.out.call hb)
  rw [hd]
  clear hd hb
  have hlo := S.out.sz
  go_wp2_with fail
  refine (DrawAddRule_any A _ c v1 S.out.bytes hxl).mono ?_
  rintro e v2 ⟨Pa, pa, xa, x, rfl, hfx, r1, hla, hb⟩
  replace S := Lib.hid (S.out.call hb)
  have Ra := Lib.hid (OwD.low r1 hlo)
  clear hb r1 hlo
  have HFX := Lib.hid hfx
  clear hfx
  have Bx := Lib.hid (BT.new v2 #[.int .i64 x.id, .string x.nm, .int .i64 x.rk, .bool x.sc, .bool x.db, .bool x.am, .int .i64 x.nd] 52 v2.heap.size rfl)
  have hbl := below1 v2 (.cells #[.int .i64 x.id, .string x.nm, .int .i64 x.rk, .bool x.sc, .bool x.db, .bool x.am, .int .i64 x.nd] 52)
  replace S := Lib.hid (S.out.call hbl)
  replace Ra := Lib.hid (Ra.out.call hbl)
  clear hbl
  go_upto_region 4 with fail
  generalize (v2.alloc (.cells #[.int .i64 x.id, .string x.nm, .int .i64 x.rk, .bool x.sc, .bool x.db, .bool x.am, .int .i64 x.nd] 52)) = v3 at *
  generalize v2.heap.size = bx at *
  have hlo := S.out.sz
  go_wp2_with (refine wpList_load_mid rfl 52 _ rfl bx 0 rfl [.int .i64 x.id, .string x.nm, .int .i64 x.rk, .bool x.sc, .bool x.db, .bool x.am, .int .i64 x.nd] _ Bx.out.rng Try.underlying52 rfl (by kernel_rfl) ?_)
  refine (AddRule_any _ _ xa x _ Ra.out.rd.cells Ra.out.rd.1 (by omega) Ra.out.rd.2.2.2 HFX.out).mono ?_
  rintro e v4 ⟨Pg, pg, rfl, r1, hb⟩
  replace S := Lib.hid (S.out.call hb)
  replace Ra := Lib.hid (Ra.out.call hb)
  replace Bx := Lib.hid (Bx.out.call hb)
  have Rg := Lib.hid (OwD.low (show OwD RuleK 52 _ v4 Pg pg (adL xa x) from r1) hlo)
  clear hb r1 hlo
  obtain ⟨g, Hg⟩ : ∃ zz0, Hid (adL xa x = zz0) := ⟨_, Lib.hid rfl⟩
  rw [Hg.out] at Rg ⊢
  have hlo := S.out.sz
  go_wp2_with (refine wpList_load_mid rfl 52 _ rfl bx 0 rfl [.int .i64 x.id, .string x.nm, .int .i64 x.rk, .bool x.sc, .bool x.db, .bool x.am, .int .i64 x.nd] _ Bx.out.rng Try.underlying52 rfl (by kernel_rfl) ?_)
  refine (sAddRule_any _ _ xa x _ Ra.out.rd.cells (by omega) Ra.out.rd.1 Ra.out.rd.2.2.2 HFX.out).mono ?_
  rintro e v5 ⟨Ph, ph, rfl, r1, hb⟩
  replace S := Lib.hid (S.out.call hb)
  replace Ra := Lib.hid (Ra.out.call hb)
  replace Bx := Lib.hid (Bx.out.call hb)
  replace Rg := Lib.hid (Rg.out.call hb)
  have Rh := Lib.hid (OwD.low (show OwD RuleK 52 _ v5 Ph ph (adL xa x) from r1) hlo)
  clear hb r1 hlo
  rw [Hg.out] at Rh ⊢
  have kb : (adB xa x != adB xa x) = false := by simp
  go_wp2_with fail
  refine (vRules_same Rg.out.rd Rh.out.rd).mono ?_
  rintro e v6 ⟨rfl, hb⟩
  replace S := Lib.hid (S.out.call hb)
  replace Ra := Lib.hid (Ra.out.call hb)
  replace Bx := Lib.hid (Bx.out.call hb)
  replace Rg := Lib.hid (Rg.out.call hb)
  replace Rh := Lib.hid (Rh.out.call hb)
  clear hb
  clear Rh
  clear kb
  go_upto_if 61 with fail
  go_cut [6, 8] (fun u1 u2 wx => Hid (Lst w wx A xs.length))
  case first => as_aux_lemma =>
    rcases Bool.eq_false_or_eq_true (adB xa x) with hk | hk
    · rw [hk]
      obtain ⟨h1, h2, h3, h4, h5⟩ := add_law hk
      rw [Hg.out] at h1 h2 h3 h4 h5
      have T1 := Lib.hid h1
      have T2 := Lib.hid h2
      have T3 := Lib.hid h3
      have T4 := Lib.hid h4
      have T5 := Lib.hid h5
      have hg21 : g.length ≤ 21 := by omega
      clear h1 h2 h3 h4 h5 hk
      have x0 := Bx.out.box.1 0 _ rfl
      have x1 := Bx.out.box.1 1 _ rfl
      have x2 := Bx.out.box.1 2 _ rfl
      have x3 := Bx.out.box.1 3 _ rfl
      have x4 := Bx.out.box.1 4 _ rfl
      have x5 := Bx.out.box.1 5 _ rfl
      have x6 := Bx.out.box.1 6 _ rfl
      go_wp2_with fail
      refine (RuleByName_any _ _ g x.nm _ Rg.out.rd.cells (by omega) Rg.out.rd.1 Rg.out.rd.2.2.2).mono ?_
      rintro e v7 ⟨rfl, hb⟩
      replace S := Lib.hid (S.out.call hb)
      replace Ra := Lib.hid (Ra.out.call hb)
      replace Bx := Lib.hid (Bx.out.call hb)
      replace Rg := Lib.hid (Rg.out.call hb)
      clear hb x0 x1 x2 x3 x4 x5 x6
      rw [T1.out, T2.out]
      have Bf := Lib.hid (BT.new v7 #[.int .i64 x.id, .string x.nm, .int .i64 x.rk, .bool x.sc, .bool x.db, .bool x.am, .int .i64 x.nd] 52 v7.heap.size rfl)
      have hbl := below1 v7 (.cells #[.int .i64 x.id, .string x.nm, .int .i64 x.rk, .bool x.sc, .bool x.db, .bool x.am, .int .i64 x.nd] 52)
      replace S := Lib.hid (S.out.call hbl)
      replace Ra := Lib.hid (Ra.out.call hbl)
      replace Bx := Lib.hid (Bx.out.call hbl)
      replace Rg := Lib.hid (Rg.out.call hbl)
      clear hbl
      go_upto_region 10 with fail
      generalize (v7.alloc (.cells #[.int .i64 x.id, .string x.nm, .int .i64 x.rk, .bool x.sc, .bool x.db, .bool x.am, .int .i64 x.nd] 52)) = v8 at *
      generalize v7.heap.size = bf at *
      have x0 := Bx.out.box.1 0 _ rfl
      have x1 := Bx.out.box.1 1 _ rfl
      have x2 := Bx.out.box.1 2 _ rfl
      have x3 := Bx.out.box.1 3 _ rfl
      have x4 := Bx.out.box.1 4 _ rfl
      have x5 := Bx.out.box.1 5 _ rfl
      have x6 := Bx.out.box.1 6 _ rfl
      have hlo := S.out.sz
      go_wp2_with fail
      refine (ChangeRank_any _ _ g x.id x.rk _ Rg.out.rd.cells Rg.out.rd.1 (by omega) Rg.out.rd.2.2.2).mono ?_
      rintro e v9 ⟨Pk, pk, rfl, r1, hb⟩
      replace S := Lib.hid (S.out.call hb)
      replace Ra := Lib.hid (Ra.out.call hb)
      replace Bx := Lib.hid (Bx.out.call hb)
      replace Rg := Lib.hid (Rg.out.call hb)
      replace Bf := Lib.hid (Bf.out.call hb)
      have Rk := Lib.hid (OwD.low (show OwD RuleK 52 _ v9 Pk pk (crL g x.id x.rk) from r1) hlo)
      clear hb r1 hlo
      clear x0 x1 x2 x3 x4 x5 x6
      rw [T4.out] at Rk ⊢
      rw [T3.out]
      have x0 := Bx.out.box.1 0 _ rfl
      have x1 := Bx.out.box.1 1 _ rfl
      have x2 := Bx.out.box.1 2 _ rfl
      have x3 := Bx.out.box.1 3 _ rfl
      have x4 := Bx.out.box.1 4 _ rfl
      have x5 := Bx.out.box.1 5 _ rfl
      have x6 := Bx.out.box.1 6 _ rfl
      have f0 := Bf.out.box.1 0 _ rfl
      have f1 := Bf.out.box.1 1 _ rfl
      have f2 := Bf.out.box.1 2 _ rfl
      have f3 := Bf.out.box.1 3 _ rfl
      have f4 := Bf.out.box.1 4 _ rfl
      have f5 := Bf.out.box.1 5 _ rfl
      have f6 := Bf.out.box.1 6 _ rfl
      have q1 : IntKind.i64.wrap ((xa.length : Int) + 1) = (xa.length : Int) + 1 := by rw [IntKind.wrap_i64]; omega
      have k1 : ((g.length : Int) != (xa.length : Int) + 1) = false := by (rw [T5.out]; simp)
      go_wp2_with fail
      refine (vRules_same Rk.out.rd Rg.out.rd).mono ?_
      rintro e v10 ⟨rfl, hb⟩
      replace S := Lib.hid (S.out.call hb)
      replace Ra := Lib.hid (Ra.out.call hb)
      replace Bx := Lib.hid (Bx.out.call hb)
      replace Rg := Lib.hid (Rg.out.call hb)
      replace Bf := Lib.hid (Bf.out.call hb)
      replace Rk := Lib.hid (Rk.out.call hb)
      clear hb
      go_wp2_with fail
      go_meet
      exact S
    · rw [hk]
      go_wp2_with fail
      go_meet
      exact S
  case rest =>
    clear S Ra Rg Bx HFX Hg
    obtain ⟨W, rfl⟩ : ∃ W, W = wc := ⟨_, rfl⟩
    have S := hcut
    clear hcut
    have hlo := S.out.sz
    go_wp2_with fail
    refine (DrawRulesAbove_any A _ c W S.out.bytes hxl).mono ?_
    rintro e v11 ⟨Pb, pb, xb, k, rfl, r1, hlb, hb⟩
    replace S := Lib.hid (S.out.call hb)
    have Rb := Lib.hid (OwD.low r1 hlo)
    clear hb r1 hlo
    have hlo := S.out.sz
    go_wp2_with fail
    refine (RulesAbove_any _ _ xb k _ Rb.out.rd.cells Rb.out.rd.1 (by omega) Rb.out.rd.2.2.2).mono ?_
    rintro e v12 ⟨Pg, pg, rfl, r1, hb⟩
    replace S := Lib.hid (S.out.call hb)
    replace Rb := Lib.hid (Rb.out.call hb)
    have Rg := Lib.hid (OwD.low (show OwD IntK 3 _ v12 Pg pg (raL xb k) from r1) hlo)
    clear hb r1 hlo
    obtain ⟨g2, Hg2⟩ : ∃ zz0, Hid (raL xb k = zz0) := ⟨_, Lib.hid rfl⟩
    rw [Hg2.out] at Rg ⊢
    have hlo := S.out.sz
    go_wp2_with fail
    refine (sRulesAbove_any _ _ xb k _ Rb.out.rd.cells Rb.out.rd.1 (by omega) Rb.out.rd.2.2.2).mono ?_
    rintro e v13 ⟨Ph, ph, rfl, r1, hb⟩
    replace S := Lib.hid (S.out.call hb)
    replace Rb := Lib.hid (Rb.out.call hb)
    replace Rg := Lib.hid (Rg.out.call hb)
    have Rh := Lib.hid (OwD.low (show OwD IntK 3 _ v13 Ph ph (raL xb k) from r1) hlo)
    clear hb r1 hlo
    rw [Hg2.out] at Rh ⊢
    have kb : (raB xb k != raB xb k) = false := by simp
    go_wp2_with fail
    refine (vInts_same Rg.out.rd Rh.out.rd).mono ?_
    rintro e v14 ⟨rfl, hb⟩
    replace S := Lib.hid (S.out.call hb)
    replace Rb := Lib.hid (Rb.out.call hb)
    replace Rg := Lib.hid (Rg.out.call hb)
    replace Rh := Lib.hid (Rh.out.call hb)
    clear hb
    clear Rh
    clear kb
    go_upto_block 0 with fail
    go_cut [16, 18, 19] from 108 to 152 (fun u1 u2 u3 wx => Hid (Lst w wx A xs.length))
    case first => as_aux_lemma =>
      rcases Bool.eq_false_or_eq_true (raB xb k) with hk | hk
      · rw [hk]
        have HK := Lib.hid hk
        clear hk
        go_wp2_with fail
        go_loopw [19] (fun vi wr => ∃ m : Nat, m ≤ xb.length ∧ vi = .int .i64 m ∧ Hid (Lst w wr A xs.length) ∧ Hid (OwD RuleK 52 w.heap.size wr Pb pb xb) ∧ Hid (OwD IntK 3 w.heap.size wr Pg pg g2)) (fun vi _ => xb.length - (intOf vi).toNat)
        case atStart => exact ⟨0, Nat.zero_le _, rfl, S, Rb, Rg⟩
        case round =>
          clear S Rb Rg
          obtain ⟨wq, hwq⟩ : ∃ x : World, x = wr := ⟨_, rfl⟩
          subst hwq
          obtain ⟨m, hm, rfl, S, Rb, Rg⟩ := hrel
          have q1 : IntKind.i64.wrap ((m : Int) + 1) = ((m + 1 : Nat) : Int) := by rw [IntKind.wrap_i64]; omega
          by_cases hlt : m < xb.length
          · have i1 : (m : Int) < (xb.length : Int) := by omega
            have i2 : decide ((m : Int) < (xb.length : Int)) = true := decide_eq_true i1
            have h9 := above_law HK.out hlt
            rw [Hg2.out] at h9
            obtain ⟨a, ha, hc0, _, hc2, _, _, _, _⟩ := rule_at Rb.out.rd.cells hlt
            subst ha
            obtain ⟨y, hy⟩ : ∃ y, xb[m] = y := ⟨_, rfl⟩
            rw [hy] at h9 hc0 hc2
            have TH := Lib.hid h9
            clear h9 hy
            go_upto_region 21 with fail
            by_cases hc : k < y.rk
            · have hd : decide (k < y.rk) = true := decide_eq_true hc
              have TH2 := Lib.hid (TH.out.trans hd)
              clear TH
              refine wp_region_noPanic ?_
              refine wp_region_held_drew (S := (fun w' => w'.cell? (a.add (m * 7)) = some (.int .i64 y.id) ∧ w'.cell? ⟨(a.add (m * 7)).block, (a.add (m * 7)).off + 2, none⟩ = some (.int .i64 y.rk))) (by kernel_rfl) ?_ (fun hHeld => ?_)
              · ((try dsimp only); exact ⟨hc0, hc2⟩)
              replace S := Lib.hid (S.out.call (Below.refl wq.heap.size wq).drew)
              replace Rb := Lib.hid (Rb.out.call (Below.refl wq.heap.size wq).drew)
              replace Rg := Lib.hid (Rg.out.call (Below.refl wq.heap.size wq).drew)
              generalize wq.drew = ud at *
              refine take_yes (i := 0) (d := 138) (v := ?_) rfl rfl (by kernel_rfl) (by kernel_rfl) (by kernel_rfl) (fun _ _ _ h => h) (by kernel_rfl) ?_ hHeld ?_
              rotate_left
              · (intro w hSw; (try dsimp only at hSw); go_simp; try (with_reducible rfl))
              try simp only [Act.put, List.setIfInBounds_toArray, List.set_cons_zero, List.set_cons_succ]
              refine take_yes (i := 1) (d := 139) (v := ?_) rfl rfl (by kernel_rfl) (by kernel_rfl) (by kernel_rfl) (fun _ _ _ h => h) (by kernel_rfl) ?_ hHeld ?_
              rotate_left
              · (intro w hSw; (try dsimp only at hSw); go_simp; try (with_reducible rfl))
              try simp only [Act.put, List.setIfInBounds_toArray, List.set_cons_zero, List.set_cons_succ]
              refine take_yes (i := 2) (d := 140) (v := ?_) rfl rfl (by kernel_rfl) (by kernel_rfl) (by kernel_rfl) (fun _ _ _ h => h) (by kernel_rfl) ?_ hHeld ?_
              rotate_left
              · (intro w hSw; (try dsimp only at hSw); go_simp; try (with_reducible rfl))
              try simp only [Act.put, List.setIfInBounds_toArray, List.set_cons_zero, List.set_cons_succ]
              refine take_yes (i := 3) (d := 141) (v := ?_) rfl rfl (by kernel_rfl) (by kernel_rfl) (by kernel_rfl) (fun _ _ _ h => h) (by kernel_rfl) ?_ hHeld ?_
              rotate_left
              · (intro w hSw; (try dsimp only at hSw); go_simp; try (with_reducible rfl))
              try simp only [Act.put, List.setIfInBounds_toArray, List.set_cons_zero, List.set_cons_succ]
              refine take_yes (i := 4) (d := 142) (v := ?_) rfl rfl (by kernel_rfl) (by kernel_rfl) (by kernel_rfl) (fun _ _ _ h => h) (by kernel_rfl) ?_ hHeld ?_
              rotate_left
              · (intro w hSw; (try dsimp only at hSw); go_simp; try (with_reducible rfl))
              try simp only [Act.put, List.setIfInBounds_toArray, List.set_cons_zero, List.set_cons_succ]
              refine take_yes (i := 5) (d := 143) (v := ?_) rfl rfl (by kernel_rfl) (by kernel_rfl) (by kernel_rfl) (fun _ _ _ h => h) (by kernel_rfl) ?_ hHeld ?_
              rotate_left
              · (intro w hSw; (try dsimp only at hSw); go_simp; try (with_reducible rfl))
              try simp only [Act.put, List.setIfInBounds_toArray, List.set_cons_zero, List.set_cons_succ]
              refine take_yes (i := 7) (d := 145) (v := ?_) rfl rfl (by kernel_rfl) (by kernel_rfl) (by kernel_rfl) (fun _ _ _ h => h) (by kernel_rfl) ?_ hHeld ?_
              rotate_left
              · (intro w hSw; (try dsimp only at hSw); go_simp; try (with_reducible rfl))
              try simp only [Act.put, List.setIfInBounds_toArray, List.set_cons_zero, List.set_cons_succ]
              refine take_yes (i := 8) (d := 146) (v := ?_) rfl rfl (by kernel_rfl) (by kernel_rfl) (by kernel_rfl) (fun _ _ _ h => h) (by kernel_rfl) ?_ hHeld ?_
              rotate_left
              · (intro w hSw; (try dsimp only at hSw); go_simp; try (with_reducible rfl))
              try simp only [Act.put, List.setIfInBounds_toArray, List.set_cons_zero, List.set_cons_succ]
              refine take_yes (i := 9) (d := 147) (v := ?_) rfl rfl (by kernel_rfl) (by kernel_rfl) (by kernel_rfl) (fun _ _ _ h => h) (by kernel_rfl) ?_ hHeld ?_
              rotate_left
              · (intro w hSw; (try dsimp only at hSw); go_simp; try (with_reducible rfl))
              try simp only [Act.put, List.setIfInBounds_toArray, List.set_cons_zero, List.set_cons_succ]
              refine take_yes (i := 10) (d := 148) (v := ?_) rfl rfl (by kernel_rfl) (by kernel_rfl) (by kernel_rfl) (fun _ _ _ h => h) (by kernel_rfl) ?_ hHeld ?_
              rotate_left
              · (intro w hSw; (try dsimp only at hSw); go_simp; try (with_reducible rfl))
              try simp only [Act.put, List.setIfInBounds_toArray, List.set_cons_zero, List.set_cons_succ]
              refine take_yes (i := 11) (d := 149) (v := ?_) rfl rfl (by kernel_rfl) (by kernel_rfl) (by kernel_rfl) (fun _ _ _ h => h) (by kernel_rfl) ?_ hHeld ?_
              rotate_left
              · (intro w hSw; (try dsimp only at hSw); go_simp; try (with_reducible rfl))
              try simp only [Act.put, List.setIfInBounds_toArray, List.set_cons_zero, List.set_cons_succ]
              refine take_yes (i := 12) (d := 150) (v := ?_) rfl rfl (by kernel_rfl) (by kernel_rfl) (by kernel_rfl) (fun _ _ _ h => h) (by kernel_rfl) ?_ hHeld ?_
              rotate_left
              · (intro w hSw; (try dsimp only at hSw); go_simp; try (with_reducible rfl))
              try simp only [Act.put, List.setIfInBounds_toArray, List.set_cons_zero, List.set_cons_succ]
              refine take_yes (i := 13) (d := 151) (v := ?_) rfl rfl (by kernel_rfl) (by kernel_rfl) (by kernel_rfl) (fun _ _ _ h => h) (by kernel_rfl) ?_ hHeld ?_
              rotate_left
              · (intro w hSw; (try dsimp only at hSw); go_simp; try (with_reducible rfl))
              try simp only [Act.put, List.setIfInBounds_toArray, List.set_cons_zero, List.set_cons_succ]
              refine wpAnyH_ready (rs := [6]) (by kernel_rfl) (by simp) ?_
              refine AllReadyH.cons rfl (fun K hK => ?_) (AllReadyH.nil)
              go_simp
              (go_at_call 30; refine (vHas_any _ _ g2 y.id _ Rg.out.rd.cells Rg.out.rd.2.2.1).mono ?_; rintro e w' ⟨rfl, hw⟩; rw [TH2.out, ← hw]; clear hw)
              (first | refine hK.out _ _ ?_ (fun hHeld1 => ?_) | (go_wp2_with fail; refine hK.out _ _ ?_ (fun hHeld1 => ?_)))
              · ((try dsimp only); exact hHeld)
              clear hK K hHeld
              have hHeld := hHeld1
              clear hHeld1
              try simp only [Act.put, List.setIfInBounds_toArray, List.set_cons_zero, List.set_cons_succ]
              refine take_yes (i := 14) (d := 152) (v := ?_) rfl rfl (by kernel_rfl) (by kernel_rfl) (by kernel_rfl) (fun _ _ _ h => h) (by kernel_rfl) ?_ hHeld ?_
              rotate_left
              · (intro w hSw; (try dsimp only at hSw); go_simp; try (with_reducible rfl))
              try simp only [Act.put, List.setIfInBounds_toArray, List.set_cons_zero, List.set_cons_succ]
              refine wpAnyH_done (by kernel_rfl) ?_ _
              refine NoPanic.normal ?_
              clear hHeld
              go_wp2_with fail
              go_roundw
              case rel => exact ⟨m + 1, hlt, by go_num, S, Rb, Rg⟩
              case measure => (first | (simp [intOf]; done) | (simp [intOf]; omega))
            · have hd : decide (k < y.rk) = false := decide_eq_false hc
              have TH2 := Lib.hid (TH.out.trans hd)
              clear TH
              refine wp_region_noPanic ?_
              refine wp_region_held_drew (S := (fun w' => w'.cell? (a.add (m * 7)) = some (.int .i64 y.id) ∧ w'.cell? ⟨(a.add (m * 7)).block, (a.add (m * 7)).off + 2, none⟩ = some (.int .i64 y.rk))) (by kernel_rfl) ?_ (fun hHeld => ?_)
              · ((try dsimp only); exact ⟨hc0, hc2⟩)
              replace S := Lib.hid (S.out.call (Below.refl wq.heap.size wq).drew)
              replace Rb := Lib.hid (Rb.out.call (Below.refl wq.heap.size wq).drew)
              replace Rg := Lib.hid (Rg.out.call (Below.refl wq.heap.size wq).drew)
              generalize wq.drew = ud at *
              refine take_yes (i := 0) (d := 138) (v := ?_) rfl rfl (by kernel_rfl) (by kernel_rfl) (by kernel_rfl) (fun _ _ _ h => h) (by kernel_rfl) ?_ hHeld ?_
              rotate_left
              · (intro w hSw; (try dsimp only at hSw); go_simp; try (with_reducible rfl))
              try simp only [Act.put, List.setIfInBounds_toArray, List.set_cons_zero, List.set_cons_succ]
              refine take_yes (i := 1) (d := 139) (v := ?_) rfl rfl (by kernel_rfl) (by kernel_rfl) (by kernel_rfl) (fun _ _ _ h => h) (by kernel_rfl) ?_ hHeld ?_
              rotate_left
              · (intro w hSw; (try dsimp only at hSw); go_simp; try (with_reducible rfl))
              try simp only [Act.put, List.setIfInBounds_toArray, List.set_cons_zero, List.set_cons_succ]
              refine take_yes (i := 2) (d := 140) (v := ?_) rfl rfl (by kernel_rfl) (by kernel_rfl) (by kernel_rfl) (fun _ _ _ h => h) (by kernel_rfl) ?_ hHeld ?_
              rotate_left
              · (intro w hSw; (try dsimp only at hSw); go_simp; try (with_reducible rfl))
              try simp only [Act.put, List.setIfInBounds_toArray, List.set_cons_zero, List.set_cons_succ]
              refine take_yes (i := 3) (d := 141) (v := ?_) rfl rfl (by kernel_rfl) (by kernel_rfl) (by kernel_rfl) (fun _ _ _ h => h) (by kernel_rfl) ?_ hHeld ?_
              rotate_left
              · (intro w hSw; (try dsimp only at hSw); go_simp; try (with_reducible rfl))
              try simp only [Act.put, List.setIfInBounds_toArray, List.set_cons_zero, List.set_cons_succ]
              refine take_yes (i := 4) (d := 142) (v := ?_) rfl rfl (by kernel_rfl) (by kernel_rfl) (by kernel_rfl) (fun _ _ _ h => h) (by kernel_rfl) ?_ hHeld ?_
              rotate_left
              · (intro w hSw; (try dsimp only at hSw); go_simp; try (with_reducible rfl))
              try simp only [Act.put, List.setIfInBounds_toArray, List.set_cons_zero, List.set_cons_succ]
              refine take_yes (i := 5) (d := 143) (v := ?_) rfl rfl (by kernel_rfl) (by kernel_rfl) (by kernel_rfl) (fun _ _ _ h => h) (by kernel_rfl) ?_ hHeld ?_
              rotate_left
              · (intro w hSw; (try dsimp only at hSw); go_simp; try (with_reducible rfl))
              try simp only [Act.put, List.setIfInBounds_toArray, List.set_cons_zero, List.set_cons_succ]
              refine take_yes (i := 7) (d := 145) (v := ?_) rfl rfl (by kernel_rfl) (by kernel_rfl) (by kernel_rfl) (fun _ _ _ h => h) (by kernel_rfl) ?_ hHeld ?_
              rotate_left
              · (intro w hSw; (try dsimp only at hSw); go_simp; try (with_reducible rfl))
              try simp only [Act.put, List.setIfInBounds_toArray, List.set_cons_zero, List.set_cons_succ]
              refine take_yes (i := 8) (d := 146) (v := ?_) rfl rfl (by kernel_rfl) (by kernel_rfl) (by kernel_rfl) (fun _ _ _ h => h) (by kernel_rfl) ?_ hHeld ?_
              rotate_left
              · (intro w hSw; (try dsimp only at hSw); go_simp; try (with_reducible rfl))
              try simp only [Act.put, List.setIfInBounds_toArray, List.set_cons_zero, List.set_cons_succ]
              refine take_yes (i := 9) (d := 147) (v := ?_) rfl rfl (by kernel_rfl) (by kernel_rfl) (by kernel_rfl) (fun _ _ _ h => h) (by kernel_rfl) ?_ hHeld ?_
              rotate_left
              · (intro w hSw; (try dsimp only at hSw); go_simp; try (with_reducible rfl))
              try simp only [Act.put, List.setIfInBounds_toArray, List.set_cons_zero, List.set_cons_succ]
              refine take_yes (i := 10) (d := 148) (v := ?_) rfl rfl (by kernel_rfl) (by kernel_rfl) (by kernel_rfl) (fun _ _ _ h => h) (by kernel_rfl) ?_ hHeld ?_
              rotate_left
              · (intro w hSw; (try dsimp only at hSw); go_simp; try (with_reducible rfl))
              try simp only [Act.put, List.setIfInBounds_toArray, List.set_cons_zero, List.set_cons_succ]
              refine take_yes (i := 11) (d := 149) (v := ?_) rfl rfl (by kernel_rfl) (by kernel_rfl) (by kernel_rfl) (fun _ _ _ h => h) (by kernel_rfl) ?_ hHeld ?_
              rotate_left
              · (intro w hSw; (try dsimp only at hSw); go_simp; try (with_reducible rfl))
              try simp only [Act.put, List.setIfInBounds_toArray, List.set_cons_zero, List.set_cons_succ]
              refine take_yes (i := 12) (d := 150) (v := ?_) rfl rfl (by kernel_rfl) (by kernel_rfl) (by kernel_rfl) (fun _ _ _ h => h) (by kernel_rfl) ?_ hHeld ?_
              rotate_left
              · (intro w hSw; (try dsimp only at hSw); go_simp; try (with_reducible rfl))
              try simp only [Act.put, List.setIfInBounds_toArray, List.set_cons_zero, List.set_cons_succ]
              refine take_yes (i := 13) (d := 151) (v := ?_) rfl rfl (by kernel_rfl) (by kernel_rfl) (by kernel_rfl) (fun _ _ _ h => h) (by kernel_rfl) ?_ hHeld ?_
              rotate_left
              · (intro w hSw; (try dsimp only at hSw); go_simp; try (with_reducible rfl))
              try simp only [Act.put, List.setIfInBounds_toArray, List.set_cons_zero, List.set_cons_succ]
              refine wpAnyH_ready (rs := [6]) (by kernel_rfl) (by simp) ?_
              refine AllReadyH.cons rfl (fun K hK => ?_) (AllReadyH.nil)
              go_simp
              (go_at_call 30; refine (vHas_any _ _ g2 y.id _ Rg.out.rd.cells Rg.out.rd.2.2.1).mono ?_; rintro e w' ⟨rfl, hw⟩; rw [TH2.out, ← hw]; clear hw)
              (first | refine hK.out _ _ ?_ (fun hHeld1 => ?_) | (go_wp2_with fail; refine hK.out _ _ ?_ (fun hHeld1 => ?_)))
              · ((try dsimp only); exact hHeld)
              clear hK K hHeld
              have hHeld := hHeld1
              clear hHeld1
              try simp only [Act.put, List.setIfInBounds_toArray, List.set_cons_zero, List.set_cons_succ]
              refine take_yes (i := 14) (d := 152) (v := ?_) rfl rfl (by kernel_rfl) (by kernel_rfl) (by kernel_rfl) (fun _ _ _ h => h) (by kernel_rfl) ?_ hHeld ?_
              rotate_left
              · (intro w hSw; (try dsimp only at hSw); go_simp; try (with_reducible rfl))
              try simp only [Act.put, List.setIfInBounds_toArray, List.set_cons_zero, List.set_cons_succ]
              refine wpAnyH_done (by kernel_rfl) ?_ _
              refine NoPanic.normal ?_
              clear hHeld
              go_wp2_with fail
              go_roundw
              case rel => exact ⟨m + 1, hlt, by go_num, S, Rb, Rg⟩
              case measure => (first | (simp [intOf]; done) | (simp [intOf]; omega))
          · have i1 : ¬ (m : Int) < (xb.length : Int) := by omega
            have i2 : decide ((m : Int) < (xb.length : Int)) = false := decide_eq_false i1
            go_wp2_with fail
            go_meet
            exact S
      · rw [hk]
        have HK := Lib.hid hk
        clear hk
        go_wp2_with fail
        go_loopw [19] (fun vi wr => ∃ m : Nat, m ≤ xb.length ∧ vi = .int .i64 m ∧ Hid (Lst w wr A xs.length) ∧ Hid (OwD RuleK 52 w.heap.size wr Pb pb xb) ∧ Hid (OwD IntK 3 w.heap.size wr Pg pg g2)) (fun vi _ => xb.length - (intOf vi).toNat)
        case atStart => exact ⟨0, Nat.zero_le _, rfl, S, Rb, Rg⟩
        case round =>
          clear S Rb Rg
          obtain ⟨wq, hwq⟩ : ∃ x : World, x = wr := ⟨_, rfl⟩
          subst hwq
          obtain ⟨m, hm, rfl, S, Rb, Rg⟩ := hrel
          by_cases hlt : m < xb.length
          · have i1 : (m : Int) < (xb.length : Int) := by omega
            have i2 : decide ((m : Int) < (xb.length : Int)) = true := decide_eq_true i1
            go_wp2_with fail
            go_meet
            exact S
          · have i1 : ¬ (m : Int) < (xb.length : Int) := by omega
            have i2 : decide ((m : Int) < (xb.length : Int)) = false := decide_eq_false i1
            go_wp2_with fail
            go_meet
            exact S
    case rest =>
      clear S Rb Rg Hg2
      obtain ⟨W2, rfl⟩ : ∃ W, W = wc := ⟨_, rfl⟩
      have S := hcut
      clear hcut
      have hlo := S.out.sz
      go_wp2_with fail
      refine (DrawChangeRank_any A _ c W2 S.out.bytes hxl).mono ?_
      rintro e v15 ⟨Pc, pc, xc, i, q, rfl, r1, hlc, hb⟩
      replace S := Lib.hid (S.out.call hb)
      have Rc := Lib.hid (OwD.low r1 hlo)
      clear hb r1 hlo
      have hlo := S.out.sz
      go_wp2_with fail
      refine (ChangeRank_any _ _ xc i q _ Rc.out.rd.cells Rc.out.rd.1 (by omega) Rc.out.rd.2.2.2).mono ?_
      rintro e v16 ⟨Pg, pg, rfl, r1, hb⟩
      replace S := Lib.hid (S.out.call hb)
      replace Rc := Lib.hid (Rc.out.call hb)
      have Rg := Lib.hid (OwD.low (show OwD RuleK 52 _ v16 Pg pg (crL xc i q) from r1) hlo)
      clear hb r1 hlo
      obtain ⟨g3, Hg3⟩ : ∃ zz0, Hid (crL xc i q = zz0) := ⟨_, Lib.hid rfl⟩
      rw [Hg3.out] at Rg ⊢
      have hlo := S.out.sz
      go_wp2_with fail
      refine (sChangeRank_any _ _ xc i q _ Rc.out.rd.cells Rc.out.rd.1 (by omega) Rc.out.rd.2.2.2).mono ?_
      rintro e v17 ⟨Ph, ph, rfl, r1, hb⟩
      replace S := Lib.hid (S.out.call hb)
      replace Rc := Lib.hid (Rc.out.call hb)
      replace Rg := Lib.hid (Rg.out.call hb)
      have Rh := Lib.hid (OwD.low (show OwD RuleK 52 _ v17 Ph ph (crL xc i q) from r1) hlo)
      clear hb r1 hlo
      rw [Hg3.out] at Rh ⊢
      have kb : (crB xc i q != crB xc i q) = false := by simp
      go_wp2_with fail
      refine (vRules_same Rg.out.rd Rh.out.rd).mono ?_
      rintro e v18 ⟨rfl, hb⟩
      replace S := Lib.hid (S.out.call hb)
      replace Rc := Lib.hid (Rc.out.call hb)
      replace Rg := Lib.hid (Rg.out.call hb)
      replace Rh := Lib.hid (Rh.out.call hb)
      clear hb
      clear Rg Rh Rc
      clear kb
      have hlo := S.out.sz
      go_wp2_with fail
      refine (DrawRuleByName_any A _ c v18 S.out.bytes hxl).mono ?_
      rintro e v19 ⟨Pd, pd, xd, s, rfl, r1, hld, hb⟩
      replace S := Lib.hid (S.out.call hb)
      have Rd := Lib.hid (OwD.low r1 hlo)
      clear hb r1 hlo
      go_wp2_with fail
      refine (RuleByName_any _ _ xd s _ Rd.out.rd.cells (by omega) Rd.out.rd.1 Rd.out.rd.2.2.2).mono ?_
      rintro e v20 ⟨rfl, hb⟩
      replace S := Lib.hid (S.out.call hb)
      replace Rd := Lib.hid (Rd.out.call hb)
      clear hb
      obtain ⟨r, Hr⟩ : ∃ z, Hid (rbR xd s = z) := ⟨_, Lib.hid rfl⟩
      obtain ⟨z, Hz⟩ : ∃ z, Hid (rbB xd s = z) := ⟨_, Lib.hid rfl⟩
      rw [Hr.out, Hz.out]
      have B1 := Lib.hid (BT.new v20 #[.int .i64 r.id, .string r.nm, .int .i64 r.rk, .bool r.sc, .bool r.db, .bool r.am, .int .i64 r.nd] 52 v20.heap.size rfl)
      have hbl := below1 v20 (.cells #[.int .i64 r.id, .string r.nm, .int .i64 r.rk, .bool r.sc, .bool r.db, .bool r.am, .int .i64 r.nd] 52)
      replace S := Lib.hid (S.out.call hbl)
      replace Rd := Lib.hid (Rd.out.call hbl)
      clear hbl
      go_upto_region 30 with fail
      generalize (v20.alloc (.cells #[.int .i64 r.id, .string r.nm, .int .i64 r.rk, .bool r.sc, .bool r.db, .bool r.am, .int .i64 r.nd] 52)) = v21 at *
      generalize v20.heap.size = b1 at *
      go_wp2_with fail
      refine (sRuleByName_any _ _ xd s _ Rd.out.rd.cells (by omega) Rd.out.rd.1 Rd.out.rd.2.2.2).mono ?_
      rintro e v22 ⟨rfl, hb⟩
      replace S := Lib.hid (S.out.call hb)
      replace Rd := Lib.hid (Rd.out.call hb)
      replace B1 := Lib.hid (B1.out.call hb)
      clear hb
      rw [Hr.out, Hz.out]
      have B2 := Lib.hid (BT.new v22 #[.int .i64 r.id, .string r.nm, .int .i64 r.rk, .bool r.sc, .bool r.db, .bool r.am, .int .i64 r.nd] 52 v22.heap.size rfl)
      have hbl := below1 v22 (.cells #[.int .i64 r.id, .string r.nm, .int .i64 r.rk, .bool r.sc, .bool r.db, .bool r.am, .int .i64 r.nd] 52)
      replace S := Lib.hid (S.out.call hbl)
      replace Rd := Lib.hid (Rd.out.call hbl)
      replace B1 := Lib.hid (B1.out.call hbl)
      clear hbl
      go_upto_region 31 with fail
      generalize (v22.alloc (.cells #[.int .i64 r.id, .string r.nm, .int .i64 r.rk, .bool r.sc, .bool r.db, .bool r.am, .int .i64 r.nd] 52)) = v23 at *
      generalize v22.heap.size = b2 at *
      have k2 : (z == z) = true := by simp
      go_wp2_with (first | (refine wpList_load_mid rfl 52 _ rfl b1 0 rfl [.int .i64 r.id, .string r.nm, .int .i64 r.rk, .bool r.sc, .bool r.db, .bool r.am, .int .i64 r.nd] _ B1.out.rng Try.underlying52 rfl (by kernel_rfl) ?_) | (refine wpList_load_mid rfl 52 _ rfl b2 0 rfl [.int .i64 r.id, .string r.nm, .int .i64 r.rk, .bool r.sc, .bool r.db, .bool r.am, .int .i64 r.nd] _ B2.out.rng Try.underlying52 rfl (by kernel_rfl) ?_) | (go_ret; exact ⟨rfl, S.out.on⟩))
end Go.Proofs.Ytifahgdalgjgfaa.fnRanks
namespace Go.Proofs.Ytifahgdalgjgfaa.fnRanks
open Go.ChangeShapes Go.WideShapes Go.ChangeAt Go.RowKit Go.Joins
open Go.ChangeMaps (open_string shut_string)
set_option linter.unusedVariables false

theorem own : ownKnob Try.prog.godebug = none := by kernel_rfl
theorem laidOut : laidOutB Try.prog = true := by kernel_rfl
set_option maxRecDepth 100000 in
theorem lifted (os : Os) (started : os.Started) (H : Type) (enc : TypeId × Value → H) :
    ReturnsInHanded {} Try.checked os 5 .any (Rows.fnRanksSpec.pre6 enc Try.prog Try.f5 Rows.fnRanksRow.domain false) (Rows.fnRanksSpec.post enc Try.prog Try.f5 false true false false) := by
  refine returnsInHanded_of_change (C := Try.checked) own started (by kernel_rfl) Try.func5
    (ChangeSpec.witness6 (enc := enc) (C := Try.checked) false ⟨#[], #[.slice none 0 0], []⟩ 8 (by kernel_rfl) (by kernel_rfl) (by kernel_rfl) (by kernel_rfl)) ?_
  intro W base args ds gs before hval0 hW hcnd hsz
  have hval : ∀ (j : Nat) t v, Try.f5.params[j]? = some t → args[j]? = some v → Value.okWide Try.prog W .any base t v := hval0
  have hW' := hW
  obtain ⟨p, q, hA0, hV, rfl, hfz, hnd⟩ := hW
  have hA : DataW.TrodAll enc Try.prog W 0 (fun _ => true) true Try.f5.params.toList args.toList ds p := hA0
  rw [Try.params5] at hA hval
  obtain ⟨v0, vs0, d0, ds0, p0, q0, hargs, rfl, rfl, h0, r0⟩ := trodAll_cons hA
  obtain ⟨rfl, rfl, rfl⟩ := trodAll_nil r0
  obtain rfl : args = #[v0] := by cases args; simp_all
  obtain ⟨rfl, rfl⟩ := trodVars_none hV
  have k0 := h0
  have lt0 : ∀ x ∈ p0, x.block < W.heap.size := by obtain ⟨m, hm⟩ := k0; exact DataW.trod_lt m _ _ _ hm
  obtain ⟨A00, c00, f0, rfl, x00⟩ := codeIn (hval 0 22 v0 rfl rfl) h0
  clear hA0 hval0
  refine (walk A00 c00 f0 W x00).mono fun e W' ⟨he, bel⟩ => ?_
  subst he
  exact ⟨_, rfl, _, _, _, [], _, [], hW', trodAll_mk1 (shut_bool Try.underlying4 _), (trodAll_cons_mk (Below.trod laidOut (by kernel_rfl) (of_decide_eq_true (by kernel_rfl)) k0 bel lt0) trodAll_mk0), rfl, bel.frame _, fun h => by cases h⟩
theorem over : Rows.fnRanksRow.holds Try.pinned (OpenSpec.ofChange Rows.fnRanksSpec) :=
  OpenClaim.holds_of_wide 5 Try.f5 rfl rfl rfl rfl rfl rfl rfl ⟨rfl, rfl, rfl, rfl, rfl⟩ rfl rfl rfl rfl rfl (by kernel_rfl) Try.func5 (by kernel_rfl)
    (of_decide_eq_true (by kernel_rfl)) (by unfold Func.isWrapper; first | (rw [if_pos (by decide +kernel)]; kernel_rfl) | (rw [if_neg (by decide +kernel)]; exact ⟨rfl, rfl⟩))
    (fun os started H enc _ => lifted os started H enc)
/-- The statement. -/
theorem proved : Rows.FnRanksSaid := over
#print axioms proved
end Go.Proofs.Ytifahgdalgjgfaa.fnRanks
