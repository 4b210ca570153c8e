/- The rule of a question, in the program and in the reference. Conditions: the ranges named. -/
import Derived.Test.YtifahgdalgjgfaaRu3
import Derived.Test.YtifahgdalgjgfaaQuestion
namespace Go.Proofs.Ytifahgdalgjgfaa
open Go.RowKit
set_option linter.unusedVariables false
/-- Where the rule with an id lies. -/
def ixR (xs : List Rul) (s : Int) : Int := findI (fun x => x.id == s) 0 xs
theorem ruleIndex_any (A : Option Addr) (c : Nat) (xs : List Rul) (s : Int) (w : World) (ha : Cells w A (RuleK.row xs)) (hm : xs.length ≤ 1048576) :
    Calls Try.prog 77 #[.slice A xs.length c, .int .i64 s] w fun e w' => e = .returned (.int .i64 (ixR xs s)) ∧ Below w.heap.size w w' := by
  have HA := Lib.hid ha
  clear ha
  go_enter Try.func77, Try.ntmps77
  go_wp2_with (go_at_call 90; refine (indexId_any _ _ _ xs _ s _ rfl (HA.out.below ((Below.refl _ _).alloc (Nat.le_refl _) _)) hm (by first | (simp; done) | go_simp)).mono ?_; rintro e w1 ⟨rfl, hb⟩; have HB := Lib.hid (bmono hb); clear hb)
  go_ret
  exact ⟨rfl, HB.out⟩
set_option maxHeartbeats 1000000 in
theorem l2Find_any (A : Option Addr) (c : Nat) (xs : List Rul) (s : Int) (w : World) (ha : Cells w A (RuleK.row xs)) (hm : xs.length ≤ 1048576) :
    Calls Try.prog 80 #[.slice A xs.length c, .int .i64 s] w fun e w' => e = .returned (.int .i64 (ixR xs s)) ∧ Below w.heap.size w w' := by
  go_enter Try.func80, Try.ntmps80
  go_wp2
  go_loopw [5] (fun i wr => ∃ k : Nat, k ≤ xs.length ∧ i = .int .i64 k ∧ Hid (ixR xs s = findI (fun x => x.id == s) k (xs.drop k)) ∧ Below w.heap.size w wr) (fun i _ => xs.length - (intOf i).toNat)
  case atStart => exact ⟨0, Nat.zero_le _, rfl, rfl, Below.refl _ _⟩
  case round =>
    obtain ⟨k, hk, rfl, hq, hB⟩ := hrel
    by_cases hlt : k < xs.length
    · obtain ⟨a, rfl, hc0, hc1, hc2, hc3, hc4, hc5, hc6⟩ := rule_at (ha.below hB) hlt
      have i1 : (k : Int) < (xs.length : Int) := by omega
      have HB := Lib.hid hB
      obtain ⟨x, hx⟩ : ∃ x, Hid (xs[k] = x) := ⟨_, Lib.hid rfl⟩
      have HH := Lib.hid (fun (h : (fun x : Rul => x.id == s) xs[k] = true) => findI_hit (k := k) (i := k) (p := fun x => x.id == s) hlt h)
      have HMi := Lib.hid (fun (h : (fun x : Rul => x.id == s) xs[k] = false) => findI_miss (k := k) (i := k) (p := fun x => x.id == s) hlt h)
      rw [hx.out] at hc0 HH HMi
      clear hc1 hc2 hc3 hc4 hc5 hc6 hB
      rcases Bool.eq_false_or_eq_true (x.id == s) with hm2 | hm2
      · have HA := Lib.hid (hq.out.trans (HH.out hm2))
        clear hq HH HMi
        go_wp2
        go_ret
        exact ⟨ret_int HA.out.symm, HB.out⟩
      · have HA := Lib.hid (hq.out.trans (HMi.out hm2))
        clear hq HH HMi
        go_wp2
        go_roundw
        case rel => exact ⟨k + 1, hlt, by go_num, HA.out, HB.out⟩
        case measure => simp [intOf]; omega
    · obtain rfl : k = xs.length := by omega
      have HA := Lib.hid (hq.out.trans findI_end)
      go_wp2
      go_ret
      exact ⟨ret_int HA.out.symm, hB⟩
set_option maxHeartbeats 1000000 in
theorem ruleOf_any (A : Option Addr) (c : Nat) (xs : List Rul) (q : Qst) (i : Nat) (w : World) (ha : Cells w A (RuleK.row xs)) (hm : xs.length ≤ 1048576) (hq : ixR xs q.r = (i : Int)) (hi : i < xs.length) :
    Calls Try.prog 78 #[.slice A xs.length c, .agg #[.int .i64 q.r, .int .i64 q.m, .bool q.s]] w fun e w' => e = .returned (.agg #[.int .i64 xs[i].id, .string xs[i].nm, .int .i64 xs[i].rk, .bool xs[i].sc, .bool xs[i].db, .bool xs[i].am, .int .i64 xs[i].nd]) ∧ Below w.heap.size w w' := by
  have HA := Lib.hid ha
  have HQ := Lib.hid hq
  have i1 : (i : Int) < (xs.length : Int) := by omega
  clear ha hq
  go_enter Try.func78, Try.ntmps78
  go_wp2_with fail
  refine (ruleIndex_any _ _ xs _ _ (HA.out.below (by go_grown)) hm).mono ?_
  rintro e w1 ⟨rfl, hb⟩
  rw [HQ.out]
  obtain ⟨a, rfl, hc0, hc1, hc2, hc3, hc4, hc5, hc6⟩ := rule_at ((HA.out.below (show Below w.heap.size w _ by go_grown)).below hb) hi
  have g0 : w1.cell? ⟨w.heap.size + 1, 0, none⟩ = some (.int .i64 0) := (hb.cell (p := ⟨w.heap.size + 1, 0, none⟩) (by simp)).trans (by have h := World.cell?_alloc_new (w.alloc (.cells #[.int .i64 q.r, .int .i64 q.m, .bool q.s] 32)) #[.int .i64 0, .string ByteArray.empty, .int .i64 0, .bool false, .bool false, .bool false, .int .i64 0] 52 0; rw [show (w.alloc (.cells #[.int .i64 q.r, .int .i64 q.m, .bool q.s] 32)).heap.size = w.heap.size + 1 by simp] at h; exact h)
  have z0 : w1.frozen? ⟨w.heap.size + 1, 0, none⟩ = false := (hb.frozen (p := ⟨w.heap.size + 1, 0, none⟩) (by simp)).trans (by simp [go_sem])
  have g1 : w1.cell? ⟨w.heap.size + 1, 1, none⟩ = some (.string ByteArray.empty) := (hb.cell (p := ⟨w.heap.size + 1, 1, none⟩) (by simp)).trans (by have h := World.cell?_alloc_new (w.alloc (.cells #[.int .i64 q.r, .int .i64 q.m, .bool q.s] 32)) #[.int .i64 0, .string ByteArray.empty, .int .i64 0, .bool false, .bool false, .bool false, .int .i64 0] 52 1; rw [show (w.alloc (.cells #[.int .i64 q.r, .int .i64 q.m, .bool q.s] 32)).heap.size = w.heap.size + 1 by simp] at h; exact h)
  have z1 : w1.frozen? ⟨w.heap.size + 1, 1, none⟩ = false := (hb.frozen (p := ⟨w.heap.size + 1, 1, none⟩) (by simp)).trans (by simp [go_sem])
  have g2 : w1.cell? ⟨w.heap.size + 1, 2, none⟩ = some (.int .i64 0) := (hb.cell (p := ⟨w.heap.size + 1, 2, none⟩) (by simp)).trans (by have h := World.cell?_alloc_new (w.alloc (.cells #[.int .i64 q.r, .int .i64 q.m, .bool q.s] 32)) #[.int .i64 0, .string ByteArray.empty, .int .i64 0, .bool false, .bool false, .bool false, .int .i64 0] 52 2; rw [show (w.alloc (.cells #[.int .i64 q.r, .int .i64 q.m, .bool q.s] 32)).heap.size = w.heap.size + 1 by simp] at h; exact h)
  have z2 : w1.frozen? ⟨w.heap.size + 1, 2, none⟩ = false := (hb.frozen (p := ⟨w.heap.size + 1, 2, none⟩) (by simp)).trans (by simp [go_sem])
  have g3 : w1.cell? ⟨w.heap.size + 1, 3, none⟩ = some (.bool false) := (hb.cell (p := ⟨w.heap.size + 1, 3, none⟩) (by simp)).trans (by have h := World.cell?_alloc_new (w.alloc (.cells #[.int .i64 q.r, .int .i64 q.m, .bool q.s] 32)) #[.int .i64 0, .string ByteArray.empty, .int .i64 0, .bool false, .bool false, .bool false, .int .i64 0] 52 3; rw [show (w.alloc (.cells #[.int .i64 q.r, .int .i64 q.m, .bool q.s] 32)).heap.size = w.heap.size + 1 by simp] at h; exact h)
  have z3 : w1.frozen? ⟨w.heap.size + 1, 3, none⟩ = false := (hb.frozen (p := ⟨w.heap.size + 1, 3, none⟩) (by simp)).trans (by simp [go_sem])
  have g4 : w1.cell? ⟨w.heap.size + 1, 4, none⟩ = some (.bool false) := (hb.cell (p := ⟨w.heap.size + 1, 4, none⟩) (by simp)).trans (by have h := World.cell?_alloc_new (w.alloc (.cells #[.int .i64 q.r, .int .i64 q.m, .bool q.s] 32)) #[.int .i64 0, .string ByteArray.empty, .int .i64 0, .bool false, .bool false, .bool false, .int .i64 0] 52 4; rw [show (w.alloc (.cells #[.int .i64 q.r, .int .i64 q.m, .bool q.s] 32)).heap.size = w.heap.size + 1 by simp] at h; exact h)
  have z4 : w1.frozen? ⟨w.heap.size + 1, 4, none⟩ = false := (hb.frozen (p := ⟨w.heap.size + 1, 4, none⟩) (by simp)).trans (by simp [go_sem])
  have g5 : w1.cell? ⟨w.heap.size + 1, 5, none⟩ = some (.bool false) := (hb.cell (p := ⟨w.heap.size + 1, 5, none⟩) (by simp)).trans (by have h := World.cell?_alloc_new (w.alloc (.cells #[.int .i64 q.r, .int .i64 q.m, .bool q.s] 32)) #[.int .i64 0, .string ByteArray.empty, .int .i64 0, .bool false, .bool false, .bool false, .int .i64 0] 52 5; rw [show (w.alloc (.cells #[.int .i64 q.r, .int .i64 q.m, .bool q.s] 32)).heap.size = w.heap.size + 1 by simp] at h; exact h)
  have z5 : w1.frozen? ⟨w.heap.size + 1, 5, none⟩ = false := (hb.frozen (p := ⟨w.heap.size + 1, 5, none⟩) (by simp)).trans (by simp [go_sem])
  have g6 : w1.cell? ⟨w.heap.size + 1, 6, none⟩ = some (.int .i64 0) := (hb.cell (p := ⟨w.heap.size + 1, 6, none⟩) (by simp)).trans (by have h := World.cell?_alloc_new (w.alloc (.cells #[.int .i64 q.r, .int .i64 q.m, .bool q.s] 32)) #[.int .i64 0, .string ByteArray.empty, .int .i64 0, .bool false, .bool false, .bool false, .int .i64 0] 52 6; rw [show (w.alloc (.cells #[.int .i64 q.r, .int .i64 q.m, .bool q.s] 32)).heap.size = w.heap.size + 1 by simp] at h; exact h)
  have z6 : w1.frozen? ⟨w.heap.size + 1, 6, none⟩ = false := (hb.frozen (p := ⟨w.heap.size + 1, 6, none⟩) (by simp)).trans (by simp [go_sem])
  have HB := Lib.hid hb
  clear hb
  go_wp2
  refine bodyPost_ret (v := .agg #[.int .i64 xs[i].id, .string xs[i].nm, .int .i64 xs[i].rk, .bool xs[i].sc, .bool xs[i].db, .bool xs[i].am, .int .i64 xs[i].nd]) (by simp [results, Try.results78, go_sem, g0, g1, g2, g3, g4, g5, g6]) rfl ⟨rfl, ?_⟩
  have hb := bmono (bmono HB.out)
  go_grown
set_option maxHeartbeats 1000000 in
theorem l7Rank_any (A : Option Addr) (c : Nat) (xs : List Rul) (q : Qst) (i : Nat) (w : World) (ha : Cells w A (RuleK.row xs)) (hm : xs.length ≤ 1048576) (hq : ixR xs q.r = (i : Int)) (hi : i < xs.length) :
    Calls Try.prog 124 #[.slice A xs.length c, .agg #[.int .i64 q.r, .int .i64 q.m, .bool q.s]] w fun e w' => e = .returned (.int .i64 xs[i].rk) ∧ Below w.heap.size w w' := by
  have HA := Lib.hid ha
  have HQ := Lib.hid hq
  have i1 : (i : Int) < (xs.length : Int) := by omega
  clear ha hq
  go_enter Try.func124, Try.ntmps124
  go_wp2_with fail
  refine (l2Find_any _ _ xs _ _ (HA.out.below (by go_grown)) hm).mono ?_
  rintro e w1 ⟨rfl, hb⟩
  rw [HQ.out]
  obtain ⟨a, rfl, hc0, hc1, hc2, hc3, hc4, hc5, hc6⟩ := rule_at ((HA.out.below (show Below w.heap.size w _ by go_grown)).below hb) hi
  have HB := Lib.hid hb
  clear hb hc0 hc1 hc3 hc4 hc5 hc6
  go_wp2
  go_ret
  exact ⟨rfl, bmono HB.out⟩
set_option maxHeartbeats 1000000 in
theorem l7Lacks_any (A : Option Addr) (c : Nat) (xs : List Rul) (q : Qst) (i : Nat) (w : World) (ha : Cells w A (RuleK.row xs)) (hm : xs.length ≤ 1048576) (hq : ixR xs q.r = (i : Int)) (hi : i < xs.length) :
    Calls Try.prog 74 #[.slice A xs.length c, .agg #[.int .i64 q.r, .int .i64 q.m, .bool q.s]] w fun e w' => e = .returned (.bool (xs[i].sc && !q.s)) ∧ Below w.heap.size w w' := by
  have HA := Lib.hid ha
  have HQ := Lib.hid hq
  have i1 : (i : Int) < (xs.length : Int) := by omega
  clear ha hq
  go_enter Try.func74, Try.ntmps74
  go_wp2_with fail
  refine (l2Find_any _ _ xs _ _ (HA.out.below (by go_grown)) hm).mono ?_
  rintro e w1 ⟨rfl, hb⟩
  rw [HQ.out]
  obtain ⟨a, rfl, hc0, hc1, hc2, hc3, hc4, hc5, hc6⟩ := rule_at ((HA.out.below (show Below w.heap.size w _ by go_grown)).below hb) hi
  have HG2 : w1.cell? ⟨w.heap.size, 2, none⟩ = some (.bool q.s) := (hb.cell (p := ⟨w.heap.size, 2, none⟩) (by simp)).trans (World.cell?_alloc_new w #[.int .i64 q.r, .int .i64 q.m, .bool q.s] 32 2)
  have HB := Lib.hid hb
  clear hb hc0 hc1 hc2 hc4 hc5 hc6
  rcases Bool.eq_false_or_eq_true xs[i].sc with hs | hs
  · rw [hs] at hc3
    go_wp2
    go_ret
    exact ⟨by rw [hs]; rfl, bmono HB.out⟩
  · rw [hs] at hc3
    go_wp2
    go_ret
    exact ⟨by rw [hs]; rfl, bmono HB.out⟩
theorem fld_sc (v0 v1 v2 : Value) (b : Bool) (v4 v5 v6 : Value) (w : World) : (Instr.field 52 (.agg #[v0, v1, v2, .bool b, v4, v5, v6]) 3).run Try.prog w = .ok (.bool b) w := by kernel_rfl
set_option maxHeartbeats 1000000 in
theorem lacksSecond_any (A : Option Addr) (c : Nat) (xs : List Rul) (q : Qst) (i : Nat) (w : World) (ha : Cells w A (RuleK.row xs)) (hm : xs.length ≤ 1048576) (hq : ixR xs q.r = (i : Int)) (hi : i < xs.length) :
    Calls Try.prog 79 #[.slice A xs.length c, .agg #[.int .i64 q.r, .int .i64 q.m, .bool q.s]] w fun e w' => e = .returned (.bool (xs[i].sc && !q.s)) ∧ Below w.heap.size w w' := by
  have HA := Lib.hid ha
  clear ha
  go_enter Try.func79, Try.ntmps79
  go_wp2_with fail
  refine (ruleOf_any _ _ xs q i _ (HA.out.below (by go_grown)) hm hq hi).mono ?_
  rintro e w1 ⟨rfl, hb⟩
  have HG2 : w1.cell? ⟨w.heap.size, 2, none⟩ = some (.bool q.s) := (hb.cell (p := ⟨w.heap.size, 2, none⟩) (by simp)).trans (World.cell?_alloc_new w #[.int .i64 q.r, .int .i64 q.m, .bool q.s] 32 2)
  have hfl := fld_sc
  have HB := Lib.hid hb
  clear hb
  rcases Bool.eq_false_or_eq_true xs[i].sc with hs | hs
  · rw [hs]
    go_wp2
    go_ret
    exact ⟨by first | rfl | (rw [hs]; rfl) | simp [hs], bmono HB.out⟩
  · rw [hs]
    go_wp2
    go_ret
    exact ⟨by first | rfl | (rw [hs]; rfl) | simp [hs], bmono HB.out⟩
end Go.Proofs.Ytifahgdalgjgfaa
