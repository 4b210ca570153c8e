/- Whether two amendments conflict, in the program and in the reference. Conditions: the ranges named. -/
import Derived.Test.YtgchbimjgdoifaaFits
import Derived.Deep.Light
namespace Go.Proofs.Ytgchbimjgdoifaa
open Go.RowKit
set_option linter.unusedVariables false

def insB (a : Amd) : Bool := decide (0 < (a.ws.length : Int))
def aroundB (b : Amd) (x : Int) : Bool := decide (b.p < x) && decide (x < b.p + b.n)
/-- Two amendments conflict. -/
def conB (a b : Amd) : Bool := decide ((if a.p < b.p then b.p else a.p) < (if b.p + b.n < a.p + a.n then b.p + b.n else a.p + a.n)) || (insB a && aroundB b a.p || insB b && aroundB a b.p) || insB a && insB b && a.p == b.p
/-- The numbers of a valid amendment are small. -/
def Small (a : Amd) : Prop := 0 ≤ a.p ∧ a.p ≤ 20 ∧ 0 ≤ a.n ∧ a.n ≤ 5
theorem Small.of {a : Amd} (h : vldA a = true) : Small a := by
  obtain ⟨h1, h2, h3, h4, _⟩ := vldA_range h
  exact ⟨h1, h2, h3, h4⟩
theorem inserts_any (A : Option Addr) (c : Nat) (a : Amd) (w : World) (hl : a.ws.length ≤ 1048576) : Calls Try.prog 118 #[.agg #[.int .i64 a.k, .int .i64 a.p, .int .i64 a.n, .slice A a.ws.length c]] w fun e w' => e = .returned (.bool (insB a)) ∧ w.alloc (.cells #[.int .i64 a.k, .int .i64 a.p, .int .i64 a.n, .slice A a.ws.length c] 40) = w' := by
  go_enter Try.func118, Try.ntmps118
  go_wp2
  go_ret
  exact ⟨ret_bool (by unfold insB; simp), rfl⟩
theorem l10Inserts_any (A : Option Addr) (c : Nat) (a : Amd) (w : World) (hl : a.ws.length ≤ 1048576) : Calls Try.prog 121 #[.agg #[.int .i64 a.k, .int .i64 a.p, .int .i64 a.n, .slice A a.ws.length c]] w fun e w' => e = .returned (.bool (insB a)) ∧ w.alloc (.cells #[.int .i64 a.k, .int .i64 a.p, .int .i64 a.n, .slice A a.ws.length c] 40) = w' := by
  go_enter Try.func121, Try.ntmps121
  go_wp2
  go_ret
  exact ⟨ret_bool (by unfold insB; simp), rfl⟩
theorem strikesAround_any (A : Option Addr) (c : Nat) (a : Amd) (x : Int) (w : World) (hs : Small a) : Calls Try.prog 119 #[.agg #[.int .i64 a.k, .int .i64 a.p, .int .i64 a.n, .slice A a.ws.length c], .int .i64 x] w fun e w' => e = .returned (.bool (aroundB a x)) ∧ w.alloc (.cells #[.int .i64 a.k, .int .i64 a.p, .int .i64 a.n, .slice A a.ws.length c] 40) = w' := by
  obtain ⟨s1, s2, s3, s4⟩ := hs
  go_enter Try.func119, Try.ntmps119
  go_wp2
  all_goals (go_ret; exact ⟨ret_bool (by unfold aroundB; simp; try omega), rfl⟩)
theorem l10Inside_any (A : Option Addr) (c : Nat) (a : Amd) (x : Int) (w : World) (hs : Small a) : Calls Try.prog 122 #[.int .i64 x, .agg #[.int .i64 a.k, .int .i64 a.p, .int .i64 a.n, .slice A a.ws.length c]] w fun e w' => e = .returned (.bool (aroundB a x)) ∧ w.alloc (.cells #[.int .i64 a.k, .int .i64 a.p, .int .i64 a.n, .slice A a.ws.length c] 40) = w' := by
  obtain ⟨s1, s2, s3, s4⟩ := hs
  go_enter Try.func122, Try.ntmps122
  go_wp2
  all_goals (go_ret; exact ⟨ret_bool (by unfold aroundB; simp; try omega), rfl⟩)
theorem l1Most_any (x y : Int) (w : World) : Calls Try.prog 120 #[.int .i64 x, .int .i64 y] w fun e w' => e = .returned (.int .i64 (if x < y then y else x)) ∧ w' = w := by
  go_enter Try.func120, Try.ntmps120
  go_wp2
  all_goals (go_ret; exact ⟨ret_int (by first | rfl | omega), rfl⟩)
theorem l1Least_any (x y : Int) (w : World) : Calls Try.prog 116 #[.int .i64 x, .int .i64 y] w fun e w' => e = .returned (.int .i64 (if y < x then y else x)) ∧ w' = w := by
  go_enter Try.func116, Try.ntmps116
  go_wp2
  all_goals (go_ret; exact ⟨ret_int (by first | rfl | omega), rfl⟩)
set_option maxHeartbeats 1600000 in
set_option maxRecDepth 100000 in
theorem doConflict_any (A B : Option Addr) (c d : Nat) (a b : Amd) (w : World) (hs : Small a) (hs' : Small b) (hl : a.ws.length ≤ 1048576) (hl' : b.ws.length ≤ 1048576) :
    Calls Try.prog 90 #[.agg #[.int .i64 a.k, .int .i64 a.p, .int .i64 a.n, .slice A a.ws.length c], .agg #[.int .i64 b.k, .int .i64 b.p, .int .i64 b.n, .slice B b.ws.length d]] w fun e w' => e = .returned (.bool (conB a b)) ∧ Below w.heap.size w w' := by
  have ⟨s1, s2, s3, s4⟩ := hs
  have ⟨r1, r2, r3, r4⟩ := hs'
  have HS := Lib.hid hs
  have HS' := Lib.hid hs'
  clear hs hs'
  obtain ⟨M, e1⟩ : ∃ M, (if a.p < b.p then b.p else a.p) = M := ⟨_, rfl⟩
  obtain ⟨N, e2⟩ : ∃ N, (if b.p + b.n < a.p + a.n then b.p + b.n else a.p + a.n) = N := ⟨_, rfl⟩
  have HC := Lib.hid (show conB a b = (decide (M < N) || (insB a && aroundB b a.p || insB b && aroundB a b.p) || insB a && insB b && a.p == b.p) by unfold conB; rw [e1, e2])
  go_enter Try.func90, Try.ntmps90
  go_wp2_with (first
    | (go_at_call_of 118 (.agg #[.int .i64 a.k, .int .i64 a.p, .int .i64 a.n, .slice A a.ws.length c] : Value); refine (inserts_any A c a _ hl).mono ?_; rintro e w' ⟨rfl, rfl⟩)
    | (go_at_call_of 118 (.agg #[.int .i64 b.k, .int .i64 b.p, .int .i64 b.n, .slice B b.ws.length d] : Value); refine (inserts_any B d b _ hl').mono ?_; rintro e w' ⟨rfl, rfl⟩)
    | (go_at_call_of 119 (.agg #[.int .i64 a.k, .int .i64 a.p, .int .i64 a.n, .slice A a.ws.length c] : Value); refine (strikesAround_any A c a _ _ HS.out).mono ?_; rintro e w' ⟨rfl, rfl⟩)
    | (go_at_call_of 119 (.agg #[.int .i64 b.k, .int .i64 b.p, .int .i64 b.n, .slice B b.ws.length d] : Value); refine (strikesAround_any B d b _ _ HS'.out).mono ?_; rintro e w' ⟨rfl, rfl⟩))
  all_goals
    go_ret
    refine ⟨ret_bool ?_, by first | (go_grown; done) | (exact below_drewN (by go_grown) _)⟩
    rw [HC.out]
    clear HC e1 e2 HS HS'
    go_light
    simp_all
    try omega
set_option maxHeartbeats 1600000 in
set_option maxRecDepth 100000 in
theorem l10Conflict_any (A B : Option Addr) (c d : Nat) (a b : Amd) (w : World) (hs : Small a) (hs' : Small b) (hl : a.ws.length ≤ 1048576) (hl' : b.ws.length ≤ 1048576) :
    Calls Try.prog 91 #[.agg #[.int .i64 a.k, .int .i64 a.p, .int .i64 a.n, .slice A a.ws.length c], .agg #[.int .i64 b.k, .int .i64 b.p, .int .i64 b.n, .slice B b.ws.length d]] w fun e w' => e = .returned (.bool (conB a b)) ∧ Below w.heap.size w w' := by
  have ⟨s1, s2, s3, s4⟩ := hs
  have ⟨r1, r2, r3, r4⟩ := hs'
  have HS := Lib.hid hs
  have HS' := Lib.hid hs'
  clear hs hs'
  obtain ⟨M, e1⟩ : ∃ M, (if a.p < b.p then b.p else a.p) = M := ⟨_, rfl⟩
  obtain ⟨N, e2⟩ : ∃ N, (if b.p + b.n < a.p + a.n then b.p + b.n else a.p + a.n) = N := ⟨_, rfl⟩
  have HC := Lib.hid (show conB a b = (decide (M < N) || (insB a && aroundB b a.p || insB b && aroundB a b.p) || insB a && insB b && a.p == b.p) by unfold conB; rw [e1, e2])
  have HM := Lib.hid (fun W : World => (l1Most_any a.p b.p W).mono (fun e w' ⟨he, hw⟩ => (⟨he.trans (ret_int e1), hw⟩ : e = Ending.returned (.int .i64 M) ∧ w' = W)))
  have HN := Lib.hid (fun W : World => (l1Least_any (a.p + a.n) (b.p + b.n) W).mono (fun e w' ⟨he, hw⟩ => (⟨he.trans (ret_int e2), hw⟩ : e = Ending.returned (.int .i64 N) ∧ w' = W)))
  have q1 : IntKind.i64.wrap (a.p + a.n) = a.p + a.n := by rw [IntKind.wrap_i64]; omega
  have q2 : IntKind.i64.wrap (b.p + b.n) = b.p + b.n := by rw [IntKind.wrap_i64]; omega
  go_enter Try.func91, Try.ntmps91
  go_wp2_with fail
  go_quiet ((first | (go_at_call 120; exact Calls.quiet_of_same (HM.out _)) | (go_at_call 116; exact Calls.quiet_of_same (HN.out _))))
  clear q1 q2 HM HN e1 e2
  go_wp2_with fail
  · (go_ret; refine ⟨ret_bool ?_, ?_⟩; rotate_left; (focus repeat' (first | (with_reducible exact Below.refl _ _) | (with_reducible refine below_drewN ?_ _) | (with_reducible refine Below.alloc ?_ ?_ _) | (simp; done) | (simp; omega))); rw [HC.out]; clear HC HS HS'; go_light; simp_all; try omega)
  · (refine (l10Inserts_any A c a _ hl).mono ?_; rintro e w' ⟨rfl, rfl⟩; go_wp2_with fail)
    · (refine (l10Inside_any B d b _ _ HS'.out).mono ?_; rintro e w' ⟨rfl, rfl⟩; go_wp2_with fail)
      · (go_ret; refine ⟨ret_bool ?_, ?_⟩; rotate_left; (focus repeat' (first | (with_reducible exact Below.refl _ _) | (with_reducible refine below_drewN ?_ _) | (with_reducible refine Below.alloc ?_ ?_ _) | (simp; done) | (simp; omega))); rw [HC.out]; clear HC HS HS'; go_light; simp_all; try omega)
      · (refine (l10Inserts_any B d b _ hl').mono ?_; rintro e w' ⟨rfl, rfl⟩; go_wp2_with fail)
        · (refine (l10Inside_any A c a _ _ HS.out).mono ?_; rintro e w' ⟨rfl, rfl⟩; go_wp2_with fail)
          · (go_ret; refine ⟨ret_bool ?_, ?_⟩; rotate_left; (focus repeat' (first | (with_reducible exact Below.refl _ _) | (with_reducible refine below_drewN ?_ _) | (with_reducible refine Below.alloc ?_ ?_ _) | (simp; done) | (simp; omega))); rw [HC.out]; clear HC HS HS'; go_light; simp_all; try omega)
          · (refine (l10Inserts_any A c a _ hl).mono ?_; rintro e w' ⟨rfl, rfl⟩; go_wp2_with fail)
            (refine (l10Inserts_any B d b _ hl').mono ?_; rintro e w' ⟨rfl, rfl⟩; go_wp2_with fail)
            all_goals (go_ret; refine ⟨ret_bool ?_, ?_⟩; rotate_left; (focus repeat' (first | (with_reducible exact Below.refl _ _) | (with_reducible refine below_drewN ?_ _) | (with_reducible refine Below.alloc ?_ ?_ _) | (simp; done) | (simp; omega))); rw [HC.out]; clear HC HS HS'; go_light; simp_all; try omega)
        · (refine (l10Inserts_any A c a _ hl).mono ?_; rintro e w' ⟨rfl, rfl⟩; go_wp2_with fail)
          (refine (l10Inserts_any B d b _ hl').mono ?_; rintro e w' ⟨rfl, rfl⟩; go_wp2_with fail)
          all_goals (go_ret; refine ⟨ret_bool ?_, ?_⟩; rotate_left; (focus repeat' (first | (with_reducible exact Below.refl _ _) | (with_reducible refine below_drewN ?_ _) | (with_reducible refine Below.alloc ?_ ?_ _) | (simp; done) | (simp; omega))); rw [HC.out]; clear HC HS HS'; go_light; simp_all; try omega)
    · (refine (l10Inserts_any B d b _ hl').mono ?_; rintro e w' ⟨rfl, rfl⟩; go_wp2_with fail)
      · (refine (l10Inside_any A c a _ _ HS.out).mono ?_; rintro e w' ⟨rfl, rfl⟩; go_wp2_with fail)
        · (go_ret; refine ⟨ret_bool ?_, ?_⟩; rotate_left; (focus repeat' (first | (with_reducible exact Below.refl _ _) | (with_reducible refine below_drewN ?_ _) | (with_reducible refine Below.alloc ?_ ?_ _) | (simp; done) | (simp; omega))); rw [HC.out]; clear HC HS HS'; go_light; simp_all; try omega)
        · (refine (l10Inserts_any A c a _ hl).mono ?_; rintro e w' ⟨rfl, rfl⟩; go_wp2_with fail)
          all_goals (go_ret; refine ⟨ret_bool ?_, ?_⟩; rotate_left; (focus repeat' (first | (with_reducible exact Below.refl _ _) | (with_reducible refine below_drewN ?_ _) | (with_reducible refine Below.alloc ?_ ?_ _) | (simp; done) | (simp; omega))); rw [HC.out]; clear HC HS HS'; go_light; simp_all; try omega)
      · (refine (l10Inserts_any A c a _ hl).mono ?_; rintro e w' ⟨rfl, rfl⟩; go_wp2_with fail)
        all_goals (go_ret; refine ⟨ret_bool ?_, ?_⟩; rotate_left; (focus repeat' (first | (with_reducible exact Below.refl _ _) | (with_reducible refine below_drewN ?_ _) | (with_reducible refine Below.alloc ?_ ?_ _) | (simp; done) | (simp; omega))); rw [HC.out]; clear HC HS HS'; go_light; simp_all; try omega)
end Go.Proofs.Ytgchbimjgdoifaa
