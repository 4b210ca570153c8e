/- A rule by its name, in the program. Conditions: the ranges named. -/
import Derived.Test.YtifahgdalgjgfaaSk1
import Derived.Test.YtifahgdalgjgfaaRu3
namespace Go.Proofs.Ytifahgdalgjgfaa
open Go.RowKit
set_option linter.unusedVariables false
theorem rc_tmp {fn : Func} {p u : Tmp} {ty : TypeId} (h : fn.results = #[.cell p ty, .tmp u]) (tmps : Array Value) (P : Program) (w : World) :
    (results fn tmps).run P w = ((asAddr (tmps.getD p undef)).run P w).andThen fun a w1 => ((loadVar ty a).run P w1).andThen fun v w2 => .ok (.tuple #[v, tmps.getD u undef]) w2 := by
  simp only [results, h]
  simp [Sem.run_bind, Result.andThen]
theorem namedP_any (x : Rul) (b : Nat) (nm : ByteArray) (w : World) (hp : w.cell? ⟨b, 0, none⟩ = some (.string nm)) : Calls Try.prog 91 #[.agg #[.int .i64 x.id, .string x.nm, .int .i64 x.rk, .bool x.sc, .bool x.db, .bool x.am, .int .i64 x.nd], .pointer (some ⟨b, 0, none⟩)] w fun e w' => e = .returned (.bool (nmB x.nm nm)) ∧ Below w.heap.size w w' := by
  have hp1 := cell_alloc hp (.cells #[.int .i64 x.id, .string x.nm, .int .i64 x.rk, .bool x.sc, .bool x.db, .bool x.am, .int .i64 x.nd] 52)
  go_enter Try.func91, Try.ntmps91
  go_wp2
  go_ret
  exact ⟨rfl, by go_grown⟩
set_option maxHeartbeats 1000000 in
theorem indexNm_any (A : Option Addr) (n c : Nat) (xs : List Rul) (b : Nat) (s : ByteArray) (w : World) (hn : n = xs.length) (ha : Cells w A (RuleK.row xs)) (hm : xs.length ≤ 1048576) (hp : w.cell? ⟨b, 0, none⟩ = some (.string s)) :
    Calls Try.prog 90 #[.slice A n c, .func (.func 91) #[] #[.pointer (some ⟨b, 0, none⟩)]] w fun e w' => e = .returned (.int .i64 (findI (fun x => nmB x.nm s) 0 xs)) ∧ Below w.heap.size w w' := by
  subst hn
  have hl := World.block_lt_of_cell? _ _ hp
  go_enter Try.func90, Try.ntmps90
  go_wp2
  go_loopw [8] (fun i wr => ∃ k : Nat, k ≤ xs.length ∧ i = .int .i64 k ∧ Hid (findI (fun x => nmB x.nm s) 0 xs = findI (fun x => nmB x.nm s) k (xs.drop k)) ∧ Below w.heap.size w wr) (fun i _ => xs.length - (intOf i).toNat)
  case atStart => exact ⟨0, Nat.zero_le _, rfl, rfl, Below.refl _ _⟩
  case round =>
    obtain ⟨k, hk, rfl, hq, hB⟩ := hrel
    by_cases hlt : k < xs.length
    · obtain ⟨a, rfl, hc0, hc1, hc2, hc3, hc4, hc5, hc6⟩ := rule_at (ha.below hB) hlt
      have i1 : (k : Int) < (xs.length : Int) := by omega
      have hp1 := (hB.cell (p := ⟨b, 0, none⟩) hl).trans hp
      have HB := Lib.hid hB
      obtain ⟨x, hx⟩ : ∃ x, Hid (xs[k] = x) := ⟨_, Lib.hid rfl⟩
      have HH := Lib.hid (fun (h : (fun x : Rul => nmB x.nm s) xs[k] = true) => findI_hit (k := k) (i := k) (p := fun x => nmB x.nm s) hlt h)
      have HMi := Lib.hid (fun (h : (fun x : Rul => nmB x.nm s) xs[k] = false) => findI_miss (k := k) (i := k) (p := fun x => nmB x.nm s) hlt h)
      rw [hx.out] at hc0 hc1 hc2 hc3 hc4 hc5 hc6 HH HMi
      rcases Bool.eq_false_or_eq_true (nmB x.nm s) with hm2 | hm2
      · have HA := Lib.hid (hq.out.trans (HH.out hm2))
        clear hB hq HH HMi
        go_wp2_with (go_at_call 91; refine (namedP_any x b s _ hp1).mono ?_; rintro e w1 ⟨rfl, hb⟩; rw [hm2]; have HB1 := Lib.hid (after HB.out hb); clear hb)
        go_ret
        exact ⟨ret_int HA.out.symm, HB1.out⟩
      · have HA := Lib.hid (hq.out.trans (HMi.out hm2))
        clear hB hq HH HMi
        go_wp2_with (go_at_call 91; refine (namedP_any x b s _ hp1).mono ?_; rintro e w1 ⟨rfl, hb⟩; rw [hm2]; have HB1 := Lib.hid (after HB.out hb); clear hb)
        go_roundw
        case rel => exact ⟨k + 1, hlt, by go_num, HA.out, HB1.out⟩
        case measure => simp [intOf]; omega
    · obtain rfl : k = xs.length := by omega
      have HA := Lib.hid (hq.out.trans findI_end)
      go_wp2
      go_ret
      exact ⟨ret_int HA.out.symm, hB⟩
theorem rb_no {xs : List Rul} {s : ByteArray} (h : rbB xs s = false) : rbB xs s = false ∧ rbR xs s = noRule := ⟨h, by unfold rbR; rw [h]; rfl⟩
theorem rbI_at {xs : List Rul} {s : ByteArray} (h : 0 ≤ rbI xs s) : ∃ j : Nat, rbI xs s = (j : Int) ∧ j < xs.length := by
  have h2 := findI_range (fun x => nmB x.nm s) xs 0
  unfold rbI at h ⊢
  exact ⟨(findI (fun x => nmB x.nm s) 0 xs).toNat, by omega, by omega⟩
set_option maxHeartbeats 1000000 in
theorem RuleByName_any (A : Option Addr) (c : Nat) (xs : List Rul) (s : ByteArray) (w : World) (ha : Cells w A (RuleK.row xs)) (hm : xs.length ≤ 1048576) (hcc : xs.length ≤ c) (hf : ∀ x ∈ xs, RuleK.fit x) :
    Calls Try.prog 33 #[.slice A xs.length c, .string s] w fun e w' => e = .returned (.tuple #[.agg #[.int .i64 (rbR xs s).id, .string (rbR xs s).nm, .int .i64 (rbR xs s).rk, .bool (rbR xs s).sc, .bool (rbR xs s).db, .bool (rbR xs s).am, .int .i64 (rbR xs s).nd], .bool (rbB xs s)]) ∧ Below w.heap.size w w' := by
  have HA := Lib.hid ha
  have HF := Lib.hid hf
  clear ha hf
  go_enter Try.func33, Try.ntmps33
  go_wp2_with fail
  refine (indexNm_any _ _ _ xs _ s _ rfl (HA.out.below (by go_grown)) hm (by first | (simp; done) | go_simp)).mono ?_
  rintro e w1 ⟨rfl, hb⟩
  have g0 : w1.cell? ⟨w.heap.size + 1, 0, none⟩ = some (.int .i64 0) := (hb.cell (p := ⟨w.heap.size + 1, 0, none⟩) (by simp)).trans (by have h := World.cell?_alloc_new (w.alloc (.cells #[.string s] 9)) #[.int .i64 0, .string ByteArray.empty, .int .i64 0, .bool false, .bool false, .bool false, .int .i64 0] 52 0; rw [show (w.alloc (.cells #[.string s] 9)).heap.size = w.heap.size + 1 by simp] at h; exact h)
  have z0 : w1.frozen? ⟨w.heap.size + 1, 0, none⟩ = false := (hb.frozen (p := ⟨w.heap.size + 1, 0, none⟩) (by simp)).trans (by simp [go_sem])
  have g1 : w1.cell? ⟨w.heap.size + 1, 1, none⟩ = some (.string ByteArray.empty) := (hb.cell (p := ⟨w.heap.size + 1, 1, none⟩) (by simp)).trans (by have h := World.cell?_alloc_new (w.alloc (.cells #[.string s] 9)) #[.int .i64 0, .string ByteArray.empty, .int .i64 0, .bool false, .bool false, .bool false, .int .i64 0] 52 1; rw [show (w.alloc (.cells #[.string s] 9)).heap.size = w.heap.size + 1 by simp] at h; exact h)
  have z1 : w1.frozen? ⟨w.heap.size + 1, 1, none⟩ = false := (hb.frozen (p := ⟨w.heap.size + 1, 1, none⟩) (by simp)).trans (by simp [go_sem])
  have g2 : w1.cell? ⟨w.heap.size + 1, 2, none⟩ = some (.int .i64 0) := (hb.cell (p := ⟨w.heap.size + 1, 2, none⟩) (by simp)).trans (by have h := World.cell?_alloc_new (w.alloc (.cells #[.string s] 9)) #[.int .i64 0, .string ByteArray.empty, .int .i64 0, .bool false, .bool false, .bool false, .int .i64 0] 52 2; rw [show (w.alloc (.cells #[.string s] 9)).heap.size = w.heap.size + 1 by simp] at h; exact h)
  have z2 : w1.frozen? ⟨w.heap.size + 1, 2, none⟩ = false := (hb.frozen (p := ⟨w.heap.size + 1, 2, none⟩) (by simp)).trans (by simp [go_sem])
  have g3 : w1.cell? ⟨w.heap.size + 1, 3, none⟩ = some (.bool false) := (hb.cell (p := ⟨w.heap.size + 1, 3, none⟩) (by simp)).trans (by have h := World.cell?_alloc_new (w.alloc (.cells #[.string s] 9)) #[.int .i64 0, .string ByteArray.empty, .int .i64 0, .bool false, .bool false, .bool false, .int .i64 0] 52 3; rw [show (w.alloc (.cells #[.string s] 9)).heap.size = w.heap.size + 1 by simp] at h; exact h)
  have z3 : w1.frozen? ⟨w.heap.size + 1, 3, none⟩ = false := (hb.frozen (p := ⟨w.heap.size + 1, 3, none⟩) (by simp)).trans (by simp [go_sem])
  have g4 : w1.cell? ⟨w.heap.size + 1, 4, none⟩ = some (.bool false) := (hb.cell (p := ⟨w.heap.size + 1, 4, none⟩) (by simp)).trans (by have h := World.cell?_alloc_new (w.alloc (.cells #[.string s] 9)) #[.int .i64 0, .string ByteArray.empty, .int .i64 0, .bool false, .bool false, .bool false, .int .i64 0] 52 4; rw [show (w.alloc (.cells #[.string s] 9)).heap.size = w.heap.size + 1 by simp] at h; exact h)
  have z4 : w1.frozen? ⟨w.heap.size + 1, 4, none⟩ = false := (hb.frozen (p := ⟨w.heap.size + 1, 4, none⟩) (by simp)).trans (by simp [go_sem])
  have g5 : w1.cell? ⟨w.heap.size + 1, 5, none⟩ = some (.bool false) := (hb.cell (p := ⟨w.heap.size + 1, 5, none⟩) (by simp)).trans (by have h := World.cell?_alloc_new (w.alloc (.cells #[.string s] 9)) #[.int .i64 0, .string ByteArray.empty, .int .i64 0, .bool false, .bool false, .bool false, .int .i64 0] 52 5; rw [show (w.alloc (.cells #[.string s] 9)).heap.size = w.heap.size + 1 by simp] at h; exact h)
  have z5 : w1.frozen? ⟨w.heap.size + 1, 5, none⟩ = false := (hb.frozen (p := ⟨w.heap.size + 1, 5, none⟩) (by simp)).trans (by simp [go_sem])
  have g6 : w1.cell? ⟨w.heap.size + 1, 6, none⟩ = some (.int .i64 0) := (hb.cell (p := ⟨w.heap.size + 1, 6, none⟩) (by simp)).trans (by have h := World.cell?_alloc_new (w.alloc (.cells #[.string s] 9)) #[.int .i64 0, .string ByteArray.empty, .int .i64 0, .bool false, .bool false, .bool false, .int .i64 0] 52 6; rw [show (w.alloc (.cells #[.string s] 9)).heap.size = w.heap.size + 1 by simp] at h; exact h)
  have z6 : w1.frozen? ⟨w.heap.size + 1, 6, none⟩ = false := (hb.frozen (p := ⟨w.heap.size + 1, 6, none⟩) (by simp)).trans (by simp [go_sem])
  have HB1 := Lib.hid (bmono (bmono hb))
  have hb0 := hb
  clear hb
  go_wp2_with fail
  refine (IsValidRules_any _ _ xs _ (HA.out.below HB1.out) hm hcc HF.out).mono ?_
  rintro e w2 ⟨rfl, hb2⟩
  have HB := Lib.hid (after HB1.out hb2)
  replace z0 := (hb2.frozen (p := ⟨w.heap.size + 1, 0, none⟩) (World.block_lt_of_cell? _ _ g0)).trans z0
  replace g0 := (hb2.cell (p := ⟨w.heap.size + 1, 0, none⟩) (World.block_lt_of_cell? _ _ g0)).trans g0
  replace z1 := (hb2.frozen (p := ⟨w.heap.size + 1, 1, none⟩) (World.block_lt_of_cell? _ _ g1)).trans z1
  replace g1 := (hb2.cell (p := ⟨w.heap.size + 1, 1, none⟩) (World.block_lt_of_cell? _ _ g1)).trans g1
  replace z2 := (hb2.frozen (p := ⟨w.heap.size + 1, 2, none⟩) (World.block_lt_of_cell? _ _ g2)).trans z2
  replace g2 := (hb2.cell (p := ⟨w.heap.size + 1, 2, none⟩) (World.block_lt_of_cell? _ _ g2)).trans g2
  replace z3 := (hb2.frozen (p := ⟨w.heap.size + 1, 3, none⟩) (World.block_lt_of_cell? _ _ g3)).trans z3
  replace g3 := (hb2.cell (p := ⟨w.heap.size + 1, 3, none⟩) (World.block_lt_of_cell? _ _ g3)).trans g3
  replace z4 := (hb2.frozen (p := ⟨w.heap.size + 1, 4, none⟩) (World.block_lt_of_cell? _ _ g4)).trans z4
  replace g4 := (hb2.cell (p := ⟨w.heap.size + 1, 4, none⟩) (World.block_lt_of_cell? _ _ g4)).trans g4
  replace z5 := (hb2.frozen (p := ⟨w.heap.size + 1, 5, none⟩) (World.block_lt_of_cell? _ _ g5)).trans z5
  replace g5 := (hb2.cell (p := ⟨w.heap.size + 1, 5, none⟩) (World.block_lt_of_cell? _ _ g5)).trans g5
  replace z6 := (hb2.frozen (p := ⟨w.heap.size + 1, 6, none⟩) (World.block_lt_of_cell? _ _ g6)).trans z6
  replace g6 := (hb2.cell (p := ⟨w.heap.size + 1, 6, none⟩) (World.block_lt_of_cell? _ _ g6)).trans g6
  clear hb0 hb2
  rcases Bool.eq_false_or_eq_true (rulesB xs) with hr | hr
  · rw [hr]
    by_cases hi : rbI xs s < 0
    · have HN := Lib.hid (rb_no (show rbB xs s = false by unfold rbB; rw [hr]; simp; omega))
      have hi' : findI (fun x => nmB x.nm s) 0 xs < 0 := hi
      go_wp2
      refine bodyPost_ret (v := .tuple #[.agg #[.int .i64 noRule.id, .string noRule.nm, .int .i64 noRule.rk, .bool noRule.sc, .bool noRule.db, .bool noRule.am, .int .i64 noRule.nd], .bool false]) (by rw [rc_tmp Try.results33]; simp [go_sem, noRule, g0, g1, g2, g3, g4, g5, g6]; rfl) rfl ⟨by rw [HN.out.1, HN.out.2], have hb := HB.out; by go_grown⟩
    · have hi := Int.not_lt.1 hi
      obtain ⟨n, hn, hl⟩ := rbI_at hi
      have hyb : rbB xs s = true := by unfold rbB; rw [hr]; simp; omega
      have HY := Lib.hid (show rbB xs s = true ∧ rbR xs s = xs[n] from ⟨hyb, by unfold rbR; rw [if_pos hyb, hn, Int.toNat_natCast, getD_lt hl]⟩)
      clear hyb
      clear hi
      unfold rbI at hn
      rw [hn]
      have i1 : (n : Int) < (xs.length : Int) := by omega
      obtain ⟨a, rfl, hc0, hc1, hc2, hc3, hc4, hc5, hc6⟩ := rule_at (HA.out.below HB.out) hl
      go_wp2
      refine bodyPost_ret (v := .tuple #[.agg #[.int .i64 xs[n].id, .string xs[n].nm, .int .i64 xs[n].rk, .bool xs[n].sc, .bool xs[n].db, .bool xs[n].am, .int .i64 xs[n].nd], .bool true]) (by rw [rc_tmp Try.results33]; simp [go_sem, g0, g1, g2, g3, g4, g5, g6]) rfl ⟨by rw [HY.out.1, HY.out.2], have hb := HB.out; by go_grown⟩
  · rw [hr]
    have HN := Lib.hid (rb_no (show rbB xs s = false by unfold rbB; rw [hr]; rfl))
    go_wp2
    refine bodyPost_ret (v := .tuple #[.agg #[.int .i64 noRule.id, .string noRule.nm, .int .i64 noRule.rk, .bool noRule.sc, .bool noRule.db, .bool noRule.am, .int .i64 noRule.nd], .bool false]) (by rw [rc_tmp Try.results33]; simp [go_sem, noRule, g0, g1, g2, g3, g4, g5, g6]; rfl) rfl ⟨by rw [HN.out.1, HN.out.2], have hb := HB.out; by go_grown⟩
end Go.Proofs.Ytifahgdalgjgfaa
