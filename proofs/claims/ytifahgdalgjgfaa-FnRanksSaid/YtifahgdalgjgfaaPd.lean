/- Lists of pending questions. Conditions: the ranges named. -/
import Derived.Test.YtifahgdalgjgfaaPn
namespace Go.Proofs.Ytifahgdalgjgfaa
open Go.RowKit
set_option linter.unusedVariables false
def noQst : Qst := ⟨0, 0, false⟩
/-- The rule of a question. -/
def ruleAt (rs : List Rul) (q : Qst) : Rul := rs.getD (ixR rs q.r).toNat noRule
def lackB (rs : List Rul) (q : Qst) : Bool := (ruleAt rs q).sc && !q.s
/-- Question i may stand behind those ahead of it. -/
def okQ (rs : List Rul) (qs : List Qst) (i : Nat) : Bool := decide (0 ≤ ixR rs (qs.getD i noQst).r) && memB (qs.getD i noQst).m && !((qs.getD i noQst).s && !(ruleAt rs (qs.getD i noQst)).sc) && (i == 0 || !(lackB rs (qs.getD (i - 1) noQst) || decide ((ruleAt rs (qs.getD i noQst)).rk ≤ (ruleAt rs (qs.getD (i - 1) noQst)).rk)))
def pendB (rs : List Rul) (qs : List Qst) : Bool := rulesB rs && decide ((qs.length : Int) ≤ 6) && allN (okQ rs qs) qs.length
theorem okQ_eq {rs : List Rul} {qs : List Qst} {i : Nat} (h : i < qs.length) : okQ rs qs i = (decide (0 ≤ ixR rs qs[i].r) && memB qs[i].m && !(qs[i].s && !(ruleAt rs qs[i]).sc) && (i == 0 || !(lackB rs (qs[i - 1]'(by omega)) || decide ((ruleAt rs qs[i]).rk ≤ (ruleAt rs (qs[i - 1]'(by omega))).rk)))) := by
  unfold okQ
  rw [getD_lt h, getD_lt (show i - 1 < qs.length by omega)]
theorem pendB_no {rs : List Rul} {qs : List Qst} {k : Nat} (h : k < qs.length) (hk : okQ rs qs k = false) : pendB rs qs = false := by unfold pendB; rw [allN_no h hk]; simp
theorem ixR_at {rs : List Rul} {s : Int} (h : 0 ≤ ixR rs s) : ∃ j : Nat, ixR rs s = (j : Int) ∧ j < rs.length := by
  have h2 := findI_range (fun x => x.id == s) rs 0
  unfold ixR at h ⊢
  exact ⟨(findI (fun x => x.id == s) 0 rs).toNat, by omega, by omega⟩
theorem ruleAt_of {rs : List Rul} {q : Qst} {j : Nat} (h : ixR rs q.r = (j : Int)) (hj : j < rs.length) : ruleAt rs q = rs[j] := by
  unfold ruleAt
  rw [h, Int.toNat_natCast, getD_lt hj]
theorem okQ_ix {rs : List Rul} {qs : List Qst} {i : Nat} (hi : i < qs.length) (h : okQ rs qs i = true) : 0 ≤ ixR rs qs[i].r := by
  rw [okQ_eq hi] at h
  simp only [Bool.and_eq_true, decide_eq_true_eq] at h
  exact h.1.1.1
theorem ruleOf_at (A : Option Addr) (c : Nat) (xs : List Rul) (q : Qst) (w : World) (ha : Cells w A (RuleK.row xs)) (hm : xs.length ≤ 1048576) (hq : 0 ≤ ixR xs q.r) :
    Calls Try.prog 78 #[.slice A xs.length c, .agg #[.int .i64 q.r, .int .i64 q.m, .bool q.s]] w fun e w' => e = .returned (.agg #[.int .i64 (ruleAt xs q).id, .string (ruleAt xs q).nm, .int .i64 (ruleAt xs q).rk, .bool (ruleAt xs q).sc, .bool (ruleAt xs q).db, .bool (ruleAt xs q).am, .int .i64 (ruleAt xs q).nd]) ∧ Below w.heap.size w w' := by
  obtain ⟨j, hj, hl⟩ := ixR_at hq
  have h := ruleOf_any A c xs q j w ha hm hj hl
  rw [ruleAt_of hj hl]
  exact h
theorem lacksSecond_at (A : Option Addr) (c : Nat) (xs : List Rul) (q : Qst) (w : World) (ha : Cells w A (RuleK.row xs)) (hm : xs.length ≤ 1048576) (hq : 0 ≤ ixR xs q.r) :
    Calls Try.prog 79 #[.slice A xs.length c, .agg #[.int .i64 q.r, .int .i64 q.m, .bool q.s]] w fun e w' => e = .returned (.bool (lackB xs q)) ∧ Below w.heap.size w w' := by
  obtain ⟨j, hj, hl⟩ := ixR_at hq
  have h := lacksSecond_any A c xs q j w ha hm hj hl
  unfold lackB
  rw [ruleAt_of hj hl]
  exact h
theorem l7Lacks_at (A : Option Addr) (c : Nat) (xs : List Rul) (q : Qst) (w : World) (ha : Cells w A (RuleK.row xs)) (hm : xs.length ≤ 1048576) (hq : 0 ≤ ixR xs q.r) :
    Calls Try.prog 74 #[.slice A xs.length c, .agg #[.int .i64 q.r, .int .i64 q.m, .bool q.s]] w fun e w' => e = .returned (.bool (lackB xs q)) ∧ Below w.heap.size w w' := by
  obtain ⟨j, hj, hl⟩ := ixR_at hq
  have h := l7Lacks_any A c xs q j w ha hm hj hl
  unfold lackB
  rw [ruleAt_of hj hl]
  exact h
theorem l7Rank_at (A : Option Addr) (c : Nat) (xs : List Rul) (q : Qst) (w : World) (ha : Cells w A (RuleK.row xs)) (hm : xs.length ≤ 1048576) (hq : 0 ≤ ixR xs q.r) :
    Calls Try.prog 124 #[.slice A xs.length c, .agg #[.int .i64 q.r, .int .i64 q.m, .bool q.s]] w fun e w' => e = .returned (.int .i64 (ruleAt xs q).rk) ∧ Below w.heap.size w w' := by
  obtain ⟨j, hj, hl⟩ := ixR_at hq
  have h := l7Rank_any A c xs q j w ha hm hj hl
  rw [ruleAt_of hj hl]
  exact h
end Go.Proofs.Ytifahgdalgjgfaa
