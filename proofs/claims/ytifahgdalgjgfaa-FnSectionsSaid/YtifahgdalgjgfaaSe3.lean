/- The parts of a section, sections asked for, in the program and in the reference. Conditions: the ranges named. -/
import Derived.Test.YtifahgdalgjgfaaSe2
import Derived.Deep.QuietTactic
namespace Go.Proofs.Ytifahgdalgjgfaa
open Go.RowKit
set_option linter.unusedVariables false
set_option linter.unusedSimpArgs false
/-- How many sections at the head of a list lie deeper. -/
def cntD (dv : Int) : List Sec → Nat
  | [] => 0
  | x :: t => if dv < x.d then cntD dv t + 1 else 0
theorem cntD_le (dv : Int) : ∀ l : List Sec, cntD dv l ≤ l.length
  | [] => Nat.le_refl _
  | x :: t => by
    rw [cntD]
    have := cntD_le dv t
    split <;> simp <;> omega
/-- How many sections are parts of section i. -/
def partN (xs : List Sec) (i : Nat) : Nat := cntD (dAt xs i) (xs.drop (i + 1))
theorem part_le {xs : List Sec} {i : Nat} (hi : i < xs.length) : i + partN xs i + 1 ≤ xs.length := by
  have := cntD_le (dAt xs i) (xs.drop (i + 1))
  rw [List.length_drop] at this
  unfold partN
  omega
theorem cntD_at {xs : List Sec} {dv : Int} {k : Nat} (hk : k < xs.length) : cntD dv (xs.drop k) = if dv < dAt xs k then cntD dv (xs.drop (k + 1)) + 1 else 0 := by
  rw [List.drop_eq_getElem_cons hk, cntD, dAt_at hk]
theorem cntD_end {xs : List Sec} {dv : Int} {k : Nat} (hk : k = xs.length) : cntD dv (xs.drop k) = 0 := by
  rw [List.drop_eq_nil_of_le (by omega)]; rfl
def askB (xs : List Sec) (i : Int) : Bool := docB xs && inB i 0 ((xs.length : Int) - 1)
theorem ask_at {xs : List Sec} {i : Int} (h : askB xs i = true) : docB xs = true ∧ xs.length ≤ 12 ∧ ∃ n : Nat, i = n ∧ n < xs.length := by
  unfold askB at h
  rw [Bool.and_eq_true] at h
  obtain ⟨h1, h2⟩ := inB_iff.1 h.2
  exact ⟨h.1, (doc_yes h.1).1, i.toNat, by omega, by omega⟩
set_option maxHeartbeats 1000000 in
theorem partsOf_any (A : Option Addr) (c : Nat) (xs : List Sec) (i : Nat) (w : World) (h : Cells w A (SectionK.row xs)) (hi : i < xs.length) (hm : xs.length ≤ 1000000) :
    Calls Try.prog 111 #[.slice A xs.length c, .int .i64 i] w fun e w' => e = .returned (.int .i64 (partN xs i)) ∧ ∃ m, w' = w.drewN m := by
  obtain ⟨a, rfl, hci, _⟩ := sec_cell h hi
  have H := Lib.hid h
  have HU := Lib.hid (show partN xs i = 0 + cntD (dAt xs i) (xs.drop (i + 1)) by unfold partN; omega)
  obtain ⟨dv, hdv⟩ : ∃ dv, Hid (dAt xs i = dv) := ⟨_, Lib.hid rfl⟩
  rw [hdv.out] at hci HU
  have HCI := Lib.hid (show ∀ n, (w.drewN n).cell? (a.add (i * 2)) = some (.int .i64 dv) from fun n => hci)
  have i0 : (i : Int) < (xs.length : Int) := by omega
  have q0 : IntKind.i64.wrap ((i : Int) + 1) = ((i + 1 : Nat) : Int) := by rw [IntKind.wrap_i64]; omega
  clear h hci
  go_enter Try.func111, Try.ntmps111
  go_wp2
  go_loopw [5] (fun v wr => ∃ j n : Nat, i + 1 + j ≤ xs.length ∧ v = .int .i64 ((i + 1 + j : Nat) : Int) ∧ Hid (partN xs i = j + cntD dv (xs.drop (i + 1 + j))) ∧ wr = w.drewN n) (fun v _ => xs.length - (intOf v).toNat)
  case atStart => exact ⟨0, 0, by omega, rfl, HU, rfl⟩
  case round =>
    clear HU q0
    obtain ⟨j, n, hji, rfl, HU, hwr⟩ := hrel
    have HW := Lib.hid hwr
    have hcI : wr.cell? (a.add (i * 2)) = some (.int .i64 dv) := by rw [hwr]; exact HCI.out n
    clear hwr
    obtain ⟨k, hk⟩ : ∃ k, Hid (i + 1 + j = k) := ⟨_, Lib.hid rfl⟩
    rw [hk.out] at HU hji ⊢
    have e1 : (k : Int) - (i : Int) = (j : Int) + 1 := by have := hk.out; omega
    have q2 : IntKind.i64.wrap ((k : Int) - (i : Int)) = (k : Int) - (i : Int) := by rw [IntKind.wrap_i64]; omega
    have q3 : IntKind.i64.wrap ((k : Int) - (i : Int) - 1) = (j : Int) := by rw [IntKind.wrap_i64]; omega
    rcases Nat.lt_or_ge k xs.length with hlt | hge
    · obtain ⟨a', ha', hcp, _⟩ := sec_cell H.out hlt
      obtain rfl := Option.some.inj ha'
      have HS := Lib.hid (cntD_at (dv := dv) hlt)
      obtain ⟨dp, hdp⟩ : ∃ dp, Hid (dAt xs k = dp) := ⟨_, Lib.hid rfl⟩
      rw [hdp.out] at hcp HS
      have hcP : wr.cell? (a.add (k * 2)) = some (.int .i64 dp) := by rw [HW.out]; exact hcp
      have p0 : (k : Int) < (xs.length : Int) := by omega
      have g0 : decide ((k : Int) < (xs.length : Int)) = true := decide_eq_true p0
      have q1 : IntKind.i64.wrap ((k : Int) + 1) = ((k + 1 : Nat) : Int) := by rw [IntKind.wrap_i64]; omega
      clear hcp ha'
      by_cases hl : dv < dp
      · have g1 : decide (dv < dp) = true := decide_eq_true hl
        have HR := Lib.hid (show partN xs i = (j + 1) + cntD dv (xs.drop (k + 1)) by rw [HU.out, HS.out, if_pos hl]; omega)
        clear hl HU HS hdp hdv
        go_wp2
        go_quiet (fail)
        go_wp2
        go_roundw
        case rel => exact ⟨j + 1, _, by have := hk.out; omega, by have := hk.out; first | (subst this; rfl) | (go_num), by have := hk.out; rw [show i + 1 + (j + 1) = k + 1 by omega]; exact HR, (congrArg (fun u => World.drewN u _) HW.out).trans (World.drewN_drewN _ _ _)⟩
        case measure => simp [intOf]; try omega
      · have g1 : decide (dv < dp) = false := decide_eq_false hl
        have HR := Lib.hid (show partN xs i = j by rw [HU.out, HS.out, if_neg hl]; omega)
        clear hl HU HS hdp hdv
        go_wp2
        go_quiet (fail)
        go_wp2
        go_ret
        exact ⟨ret_int (by rw [HR.out]), by first | exact ⟨_, HW.out⟩ | exact drew_more HW.out _⟩
    · obtain rfl : k = xs.length := by omega
      have g0 : decide ((xs.length : Int) < (xs.length : Int)) = false := decide_eq_false (by omega)
      have HR := Lib.hid (show partN xs i = j by rw [HU.out, cntD_end rfl]; omega)
      clear HU hdv hge
      go_wp2
      go_quiet (fail)
      go_wp2
      go_ret
      exact ⟨ret_int (by rw [HR.out]), by first | exact ⟨_, HW.out⟩ | exact drew_more HW.out _⟩
set_option maxHeartbeats 1000000 in
theorem l6Part_any (A : Option Addr) (c : Nat) (xs : List Sec) (i : Nat) (w : World) (h : Cells w A (SectionK.row xs)) (hi : i < xs.length) (hm : xs.length ≤ 1000000) :
    Calls Try.prog 113 #[.slice A xs.length c, .int .i64 i] w fun e w' => e = .returned (.int .i64 (partN xs i)) ∧ ∃ m, w' = w.drewN m := by
  obtain ⟨a, rfl, hci, _⟩ := sec_cell h hi
  have H := Lib.hid h
  have HU := Lib.hid (show partN xs i = 0 + cntD (dAt xs i) (xs.drop (i + 1 + 0)) by unfold partN; rw [Nat.add_zero]; omega)
  obtain ⟨dv, hdv⟩ : ∃ dv, Hid (dAt xs i = dv) := ⟨_, Lib.hid rfl⟩
  rw [hdv.out] at hci HU
  have HCI := Lib.hid (show ∀ n, (w.drewN n).cell? (a.add (i * 2)) = some (.int .i64 dv) from fun n => hci)
  have i0 : (i : Int) < (xs.length : Int) := by omega
  clear h hci
  go_enter Try.func113, Try.ntmps113
  go_wp2
  go_loopw [5] (fun v wr => ∃ j n : Nat, i + 1 + j ≤ xs.length ∧ v = .int .i64 j ∧ Hid (partN xs i = j + cntD dv (xs.drop (i + 1 + j))) ∧ wr = w.drewN n) (fun v _ => xs.length - (intOf v).toNat)
  case atStart => exact ⟨0, 0, by omega, rfl, HU, rfl⟩
  case round =>
    clear HU
    obtain ⟨j, n, hji, rfl, HU, hwr⟩ := hrel
    have HW := Lib.hid hwr
    have hcI : wr.cell? (a.add (i * 2)) = some (.int .i64 dv) := by rw [hwr]; exact HCI.out n
    clear hwr
    obtain ⟨k, hk⟩ : ∃ k, Hid (i + 1 + j = k) := ⟨_, Lib.hid rfl⟩
    have q2 : IntKind.i64.wrap ((i : Int) + (j : Int)) = (i : Int) + (j : Int) := by rw [IntKind.wrap_i64]; omega
    have q3 : IntKind.i64.wrap ((i : Int) + (j : Int) + 1) = (k : Int) := by have := hk.out; rw [IntKind.wrap_i64]; omega
    rw [hk.out] at HU hji
    have q4 : IntKind.i64.wrap ((j : Int) + 1) = ((j + 1 : Nat) : Int) := by have := hk.out; rw [IntKind.wrap_i64]; omega
    rcases Nat.lt_or_ge k xs.length with hlt | hge
    · obtain ⟨a', ha', hcp, _⟩ := sec_cell H.out hlt
      obtain rfl := Option.some.inj ha'
      have HS := Lib.hid (cntD_at (dv := dv) hlt)
      obtain ⟨dp, hdp⟩ : ∃ dp, Hid (dAt xs k = dp) := ⟨_, Lib.hid rfl⟩
      rw [hdp.out] at hcp HS
      have hcP : wr.cell? (a.add (k * 2)) = some (.int .i64 dp) := by rw [HW.out]; exact hcp
      have p0 : (k : Int) < (xs.length : Int) := by omega
      have g0 : decide ((k : Int) < (xs.length : Int)) = true := decide_eq_true p0
      clear hcp ha'
      by_cases hl : dv < dp
      · have g1 : decide (dv < dp) = true := decide_eq_true hl
        have HR := Lib.hid (show partN xs i = (j + 1) + cntD dv (xs.drop (k + 1)) by rw [HU.out, HS.out, if_pos hl]; omega)
        clear hl HU HS hdp hdv
        go_wp2
        go_quiet (fail)
        go_wp2
        go_roundw
        case rel => exact ⟨j + 1, _, by have := hk.out; omega, by go_num, by have := hk.out; rw [show i + 1 + (j + 1) = k + 1 by omega]; exact HR, (congrArg (fun u => World.drewN u _) HW.out).trans (World.drewN_drewN _ _ _)⟩
        case measure => simp [intOf]; have := hk.out; try omega
      · have g1 : decide (dv < dp) = false := decide_eq_false hl
        have HR := Lib.hid (show partN xs i = j by rw [HU.out, HS.out, if_neg hl]; omega)
        clear hl HU HS hdp hdv
        go_wp2
        go_quiet (fail)
        go_wp2
        go_ret
        exact ⟨ret_int (by rw [HR.out]), by first | exact ⟨_, HW.out⟩ | exact drew_more HW.out _⟩
    · obtain rfl : k = xs.length := by omega
      have g0 : decide ((xs.length : Int) < (xs.length : Int)) = false := decide_eq_false (by omega)
      have HR := Lib.hid (show partN xs i = j by rw [HU.out, cntD_end rfl]; omega)
      clear HU hdv hge
      go_wp2
      go_quiet (fail)
      go_wp2
      go_ret
      exact ⟨ret_int (by rw [HR.out]), by first | exact ⟨_, HW.out⟩ | exact drew_more HW.out _⟩
end Go.Proofs.Ytifahgdalgjgfaa
