/- Numerals of small numbers; the section to which one belongs. Conditions: the ranges named. -/
import Derived.Test.YtfncfaamdedmjaaDoorSection
import Derived.Test.YtfncfaamdedmjaaDoorNum
import Derived.Test.YtfncfaamdedmjaaDoorWrd
import Derived.Test.YtfncfaamdedmjaaDoorShelf
import Derived.BigQuiet
import Derived.Deep.DrawnRows
namespace Go.Proofs.YtfncfaamdedmjaaDoor
open Go.RowKit
set_option linter.unusedVariables false
set_option linter.unusedSimpArgs false
/-- The numeral of a number. -/
def dec (i : Nat) : ByteArray := ⟨(Go.Lib.decDigits i).toArray⟩
theorem dec_0 : dec 0 = ⟨#[48]⟩ := by unfold dec; simp [Go.Lib.decDigits]
theorem dec_1 : dec 1 = ⟨#[49]⟩ := by unfold dec; simp [Go.Lib.decDigits]
theorem dec_2 : dec 2 = ⟨#[50]⟩ := by unfold dec; simp [Go.Lib.decDigits]
theorem dec_3 : dec 3 = ⟨#[51]⟩ := by unfold dec; simp [Go.Lib.decDigits]
theorem dec_4 : dec 4 = ⟨#[52]⟩ := by unfold dec; simp [Go.Lib.decDigits]
theorem dec_5 : dec 5 = ⟨#[53]⟩ := by unfold dec; simp [Go.Lib.decDigits]
theorem dec_6 : dec 6 = ⟨#[54]⟩ := by unfold dec; simp [Go.Lib.decDigits]
theorem dec_7 : dec 7 = ⟨#[55]⟩ := by unfold dec; simp [Go.Lib.decDigits]
theorem dec_8 : dec 8 = ⟨#[56]⟩ := by unfold dec; simp [Go.Lib.decDigits]
theorem dec_9 : dec 9 = ⟨#[57]⟩ := by unfold dec; simp [Go.Lib.decDigits]
theorem dec_10 : dec 10 = ⟨#[49, 48]⟩ := by unfold dec; simp [Go.Lib.decDigits]
theorem dec_11 : dec 11 = ⟨#[49, 49]⟩ := by unfold dec; simp [Go.Lib.decDigits]
theorem dec_12 : dec 12 = ⟨#[49, 50]⟩ := by unfold dec; simp [Go.Lib.decDigits]
theorem dec_13 : dec 13 = ⟨#[49, 51]⟩ := by unfold dec; simp [Go.Lib.decDigits]
theorem dec_14 : dec 14 = ⟨#[49, 52]⟩ := by unfold dec; simp [Go.Lib.decDigits]
theorem dec_15 : dec 15 = ⟨#[49, 53]⟩ := by unfold dec; simp [Go.Lib.decDigits]
theorem dec_16 : dec 16 = ⟨#[49, 54]⟩ := by unfold dec; simp [Go.Lib.decDigits]
theorem dec_17 : dec 17 = ⟨#[49, 55]⟩ := by unfold dec; simp [Go.Lib.decDigits]
theorem dec_18 : dec 18 = ⟨#[49, 56]⟩ := by unfold dec; simp [Go.Lib.decDigits]
theorem dec_19 : dec 19 = ⟨#[49, 57]⟩ := by unfold dec; simp [Go.Lib.decDigits]
theorem dec_20 : dec 20 = ⟨#[50, 48]⟩ := by unfold dec; simp [Go.Lib.decDigits]
theorem dec_size {i : Nat} (h : i ≤ 20) : (dec i).size ≤ 2 := by
  have h1 : i = 0 ∨ i = 1 ∨ i = 2 ∨ i = 3 ∨ i = 4 ∨ i = 5 ∨ i = 6 ∨ i = 7 ∨ i = 8 ∨ i = 9 ∨ i = 10 ∨ i = 11 ∨ i = 12 ∨ i = 13 ∨ i = 14 ∨ i = 15 ∨ i = 16 ∨ i = 17 ∨ i = 18 ∨ i = 19 ∨ i = 20 := by omega
  rcases h1 with rfl | rfl | rfl | rfl | rfl | rfl | rfl | rfl | rfl | rfl | rfl | rfl | rfl | rfl | rfl | rfl | rfl | rfl | rfl | rfl | rfl
  · rw [dec_0]; decide
  · rw [dec_1]; decide
  · rw [dec_2]; decide
  · rw [dec_3]; decide
  · rw [dec_4]; decide
  · rw [dec_5]; decide
  · rw [dec_6]; decide
  · rw [dec_7]; decide
  · rw [dec_8]; decide
  · rw [dec_9]; decide
  · rw [dec_10]; decide
  · rw [dec_11]; decide
  · rw [dec_12]; decide
  · rw [dec_13]; decide
  · rw [dec_14]; decide
  · rw [dec_15]; decide
  · rw [dec_16]; decide
  · rw [dec_17]; decide
  · rw [dec_18]; decide
  · rw [dec_19]; decide
  · rw [dec_20]; decide
theorem l1Num_0 (w : World) : Calls Tryd.prog 36 #[.int .i64 0] w fun e w' => e = .returned (.string (dec 0)) ∧ ∃ m, w' = w.drewN m := by
  have hd := dec_0
  go_enter Tryd.func36, Tryd.ntmps36
  go_wp2
  go_ret
  exact ⟨by rw [hd]; rfl, 0, rfl⟩
theorem l1Num_1 (w : World) : Calls Tryd.prog 36 #[.int .i64 1] w fun e w' => e = .returned (.string (dec 1)) ∧ ∃ m, w' = w.drewN m := by
  have hd := dec_1
  go_enter Tryd.func36, Tryd.ntmps36
  go_wp2
  go_ret
  exact ⟨by rw [hd]; rfl, 0, rfl⟩
theorem l1Num_2 (w : World) : Calls Tryd.prog 36 #[.int .i64 2] w fun e w' => e = .returned (.string (dec 2)) ∧ ∃ m, w' = w.drewN m := by
  have hd := dec_2
  go_enter Tryd.func36, Tryd.ntmps36
  go_wp2
  go_ret
  exact ⟨by rw [hd]; rfl, 0, rfl⟩
theorem l1Num_3 (w : World) : Calls Tryd.prog 36 #[.int .i64 3] w fun e w' => e = .returned (.string (dec 3)) ∧ ∃ m, w' = w.drewN m := by
  have hd := dec_3
  go_enter Tryd.func36, Tryd.ntmps36
  go_wp2
  go_ret
  exact ⟨by rw [hd]; rfl, 0, rfl⟩
theorem l1Num_4 (w : World) : Calls Tryd.prog 36 #[.int .i64 4] w fun e w' => e = .returned (.string (dec 4)) ∧ ∃ m, w' = w.drewN m := by
  have hd := dec_4
  go_enter Tryd.func36, Tryd.ntmps36
  go_wp2
  go_ret
  exact ⟨by rw [hd]; rfl, 0, rfl⟩
theorem l1Num_5 (w : World) : Calls Tryd.prog 36 #[.int .i64 5] w fun e w' => e = .returned (.string (dec 5)) ∧ ∃ m, w' = w.drewN m := by
  have hd := dec_5
  go_enter Tryd.func36, Tryd.ntmps36
  go_wp2
  go_ret
  exact ⟨by rw [hd]; rfl, 0, rfl⟩
theorem l1Num_6 (w : World) : Calls Tryd.prog 36 #[.int .i64 6] w fun e w' => e = .returned (.string (dec 6)) ∧ ∃ m, w' = w.drewN m := by
  have hd := dec_6
  go_enter Tryd.func36, Tryd.ntmps36
  go_wp2
  go_ret
  exact ⟨by rw [hd]; rfl, 0, rfl⟩
theorem l1Num_7 (w : World) : Calls Tryd.prog 36 #[.int .i64 7] w fun e w' => e = .returned (.string (dec 7)) ∧ ∃ m, w' = w.drewN m := by
  have hd := dec_7
  go_enter Tryd.func36, Tryd.ntmps36
  go_wp2
  go_ret
  exact ⟨by rw [hd]; rfl, 0, rfl⟩
theorem l1Num_8 (w : World) : Calls Tryd.prog 36 #[.int .i64 8] w fun e w' => e = .returned (.string (dec 8)) ∧ ∃ m, w' = w.drewN m := by
  have hd := dec_8
  go_enter Tryd.func36, Tryd.ntmps36
  go_wp2
  go_ret
  exact ⟨by rw [hd]; rfl, 0, rfl⟩
theorem l1Num_9 (w : World) : Calls Tryd.prog 36 #[.int .i64 9] w fun e w' => e = .returned (.string (dec 9)) ∧ ∃ m, w' = w.drewN m := by
  have hd := dec_9
  go_enter Tryd.func36, Tryd.ntmps36
  go_wp2
  go_ret
  exact ⟨by rw [hd]; rfl, 0, rfl⟩
theorem l1Num_10 (w : World) : Calls Tryd.prog 36 #[.int .i64 10] w fun e w' => e = .returned (.string (dec 10)) ∧ ∃ m, w' = w.drewN m := by
  have hd := dec_10
  go_enter Tryd.func36, Tryd.ntmps36
  have hd2 := dec_1
  go_wp2
  go_quiet ((go_at_call 36; exact Go.Calls.quiet_of (l1Num_1 _)))
  go_wp2
  go_ret
  exact ⟨by rw [hd]; rfl, _, rfl⟩
theorem l1Num_11 (w : World) : Calls Tryd.prog 36 #[.int .i64 11] w fun e w' => e = .returned (.string (dec 11)) ∧ ∃ m, w' = w.drewN m := by
  have hd := dec_11
  go_enter Tryd.func36, Tryd.ntmps36
  have hd2 := dec_1
  go_wp2
  go_quiet ((go_at_call 36; exact Go.Calls.quiet_of (l1Num_1 _)))
  go_wp2
  go_ret
  exact ⟨by rw [hd]; rfl, _, rfl⟩
theorem l1Num_12 (w : World) : Calls Tryd.prog 36 #[.int .i64 12] w fun e w' => e = .returned (.string (dec 12)) ∧ ∃ m, w' = w.drewN m := by
  have hd := dec_12
  go_enter Tryd.func36, Tryd.ntmps36
  have hd2 := dec_1
  go_wp2
  go_quiet ((go_at_call 36; exact Go.Calls.quiet_of (l1Num_1 _)))
  go_wp2
  go_ret
  exact ⟨by rw [hd]; rfl, _, rfl⟩
theorem l1Num_13 (w : World) : Calls Tryd.prog 36 #[.int .i64 13] w fun e w' => e = .returned (.string (dec 13)) ∧ ∃ m, w' = w.drewN m := by
  have hd := dec_13
  go_enter Tryd.func36, Tryd.ntmps36
  have hd2 := dec_1
  go_wp2
  go_quiet ((go_at_call 36; exact Go.Calls.quiet_of (l1Num_1 _)))
  go_wp2
  go_ret
  exact ⟨by rw [hd]; rfl, _, rfl⟩
theorem l1Num_14 (w : World) : Calls Tryd.prog 36 #[.int .i64 14] w fun e w' => e = .returned (.string (dec 14)) ∧ ∃ m, w' = w.drewN m := by
  have hd := dec_14
  go_enter Tryd.func36, Tryd.ntmps36
  have hd2 := dec_1
  go_wp2
  go_quiet ((go_at_call 36; exact Go.Calls.quiet_of (l1Num_1 _)))
  go_wp2
  go_ret
  exact ⟨by rw [hd]; rfl, _, rfl⟩
theorem l1Num_15 (w : World) : Calls Tryd.prog 36 #[.int .i64 15] w fun e w' => e = .returned (.string (dec 15)) ∧ ∃ m, w' = w.drewN m := by
  have hd := dec_15
  go_enter Tryd.func36, Tryd.ntmps36
  have hd2 := dec_1
  go_wp2
  go_quiet ((go_at_call 36; exact Go.Calls.quiet_of (l1Num_1 _)))
  go_wp2
  go_ret
  exact ⟨by rw [hd]; rfl, _, rfl⟩
theorem l1Num_16 (w : World) : Calls Tryd.prog 36 #[.int .i64 16] w fun e w' => e = .returned (.string (dec 16)) ∧ ∃ m, w' = w.drewN m := by
  have hd := dec_16
  go_enter Tryd.func36, Tryd.ntmps36
  have hd2 := dec_1
  go_wp2
  go_quiet ((go_at_call 36; exact Go.Calls.quiet_of (l1Num_1 _)))
  go_wp2
  go_ret
  exact ⟨by rw [hd]; rfl, _, rfl⟩
theorem l1Num_17 (w : World) : Calls Tryd.prog 36 #[.int .i64 17] w fun e w' => e = .returned (.string (dec 17)) ∧ ∃ m, w' = w.drewN m := by
  have hd := dec_17
  go_enter Tryd.func36, Tryd.ntmps36
  have hd2 := dec_1
  go_wp2
  go_quiet ((go_at_call 36; exact Go.Calls.quiet_of (l1Num_1 _)))
  go_wp2
  go_ret
  exact ⟨by rw [hd]; rfl, _, rfl⟩
theorem l1Num_18 (w : World) : Calls Tryd.prog 36 #[.int .i64 18] w fun e w' => e = .returned (.string (dec 18)) ∧ ∃ m, w' = w.drewN m := by
  have hd := dec_18
  go_enter Tryd.func36, Tryd.ntmps36
  have hd2 := dec_1
  go_wp2
  go_quiet ((go_at_call 36; exact Go.Calls.quiet_of (l1Num_1 _)))
  go_wp2
  go_ret
  exact ⟨by rw [hd]; rfl, _, rfl⟩
theorem l1Num_19 (w : World) : Calls Tryd.prog 36 #[.int .i64 19] w fun e w' => e = .returned (.string (dec 19)) ∧ ∃ m, w' = w.drewN m := by
  have hd := dec_19
  go_enter Tryd.func36, Tryd.ntmps36
  have hd2 := dec_1
  go_wp2
  go_quiet ((go_at_call 36; exact Go.Calls.quiet_of (l1Num_1 _)))
  go_wp2
  go_ret
  exact ⟨by rw [hd]; rfl, _, rfl⟩
theorem l1Num_20 (w : World) : Calls Tryd.prog 36 #[.int .i64 20] w fun e w' => e = .returned (.string (dec 20)) ∧ ∃ m, w' = w.drewN m := by
  have hd := dec_20
  go_enter Tryd.func36, Tryd.ntmps36
  have hd2 := dec_2
  go_wp2
  go_quiet ((go_at_call 36; exact Go.Calls.quiet_of (l1Num_2 _)))
  go_wp2
  go_ret
  exact ⟨by rw [hd]; rfl, _, rfl⟩
theorem l1Num_any (i : Nat) (h : i ≤ 20) (w : World) : Calls Tryd.prog 36 #[.int .i64 i] w fun e w' => e = .returned (.string (dec i)) ∧ ∃ m, w' = w.drewN m := by
  have h1 : i = 0 ∨ i = 1 ∨ i = 2 ∨ i = 3 ∨ i = 4 ∨ i = 5 ∨ i = 6 ∨ i = 7 ∨ i = 8 ∨ i = 9 ∨ i = 10 ∨ i = 11 ∨ i = 12 ∨ i = 13 ∨ i = 14 ∨ i = 15 ∨ i = 16 ∨ i = 17 ∨ i = 18 ∨ i = 19 ∨ i = 20 := by omega
  rcases h1 with rfl | rfl | rfl | rfl | rfl | rfl | rfl | rfl | rfl | rfl | rfl | rfl | rfl | rfl | rfl | rfl | rfl | rfl | rfl | rfl | rfl
  · exact l1Num_0 w
  · exact l1Num_1 w
  · exact l1Num_2 w
  · exact l1Num_3 w
  · exact l1Num_4 w
  · exact l1Num_5 w
  · exact l1Num_6 w
  · exact l1Num_7 w
  · exact l1Num_8 w
  · exact l1Num_9 w
  · exact l1Num_10 w
  · exact l1Num_11 w
  · exact l1Num_12 w
  · exact l1Num_13 w
  · exact l1Num_14 w
  · exact l1Num_15 w
  · exact l1Num_16 w
  · exact l1Num_17 w
  · exact l1Num_18 w
  · exact l1Num_19 w
  · exact l1Num_20 w
theorem drew_more {w wr : World} {n : Nat} (h : wr = w.drewN n) (m : Nat) : ∃ k, wr.drewN m = w.drewN k := by subst h; exact ⟨n + m, World.drewN_drewN _ _ _⟩
/-- How deep section k lies. -/
def dAt (xs : List Sec) (k : Nat) : Int := (xs.getD k ⟨0, ByteArray.empty⟩).d
def tAt (xs : List Sec) (k : Nat) : ByteArray := (xs.getD k ⟨0, ByteArray.empty⟩).t
theorem dAt_at {xs : List Sec} {k : Nat} (h : k < xs.length) : xs[k].d = dAt xs k := by unfold dAt; rw [List.getD_eq_getElem?_getD, List.getElem?_eq_getElem h]; rfl
theorem tAt_at {xs : List Sec} {k : Nat} (h : k < xs.length) : xs[k].t = tAt xs k := by unfold tAt; rw [List.getD_eq_getElem?_getD, List.getElem?_eq_getElem h]; rfl
theorem sec_cell {w : World} {A : Option Addr} {xs : List Sec} (h : Cells w A (SectionK.row xs)) {k : Nat} (hk : k < xs.length) : ∃ a, A = some a ∧ w.cell? (a.add (k * 2)) = some (.int .i64 (dAt xs k)) ∧ w.cell? ⟨(a.add (k * 2)).block, (a.add (k * 2)).off + 1, none⟩ = some (.string (tAt xs k)) := by
  obtain ⟨a, h1, h2, h3⟩ := section_at h hk
  rw [dAt_at hk] at h2
  rw [tAt_at hk] at h3
  exact ⟨a, h1, h2, h3⟩
/-- The last section before place k that lies less deep. -/
def upF (xs : List Sec) (dv : Int) : Nat → Int
  | 0 => -1
  | k + 1 => if dAt xs k < dv then (k : Int) else upF xs dv k
def upN (xs : List Sec) (i : Nat) : Int := upF xs (dAt xs i) i
theorem upF_lt {xs : List Sec} {dv : Int} : ∀ k, -1 ≤ upF xs dv k ∧ upF xs dv k < k
  | 0 => by simp [upF]
  | k + 1 => by
    rw [upF]
    have := upF_lt (xs := xs) (dv := dv) k
    split <;> omega
theorem upN_lt (xs : List Sec) (i : Nat) : -1 ≤ upN xs i ∧ upN xs i < i := upF_lt i
set_option maxHeartbeats 1000000 in
theorem belongsTo_any (A : Option Addr) (c : Nat) (xs : List Sec) (i : Nat) (w : World) (h : Cells w A (SectionK.row xs)) (hi : i < xs.length) (hm : xs.length ≤ 1000000) :
    Calls Tryd.prog 45 #[.slice A xs.length c, .int .i64 i] w fun e w' => e = .returned (.int .i64 (upN xs i)) ∧ ∃ m, w' = w.drewN m := by
  obtain ⟨a, rfl, hci, _⟩ := sec_cell h hi
  have H := Lib.hid h
  have HU := Lib.hid (show upN xs i = upF xs (dAt xs i) i from rfl)
  obtain ⟨dv, hdv⟩ : ∃ dv, Hid (dAt xs i = dv) := ⟨_, Lib.hid rfl⟩
  rw [hdv.out] at hci HU
  have hcI : ∀ n, (w.drewN n).cell? (a.add (i * 2)) = some (.int .i64 dv) := fun n => hci
  have i0 : (i : Int) < (xs.length : Int) := by omega
  have q0 : IntKind.i64.wrap ((i : Int) - 1) = (i : Int) - 1 := by rw [IntKind.wrap_i64]; omega
  clear h hci
  go_enter Tryd.func45, Tryd.ntmps45
  go_wp2
  go_loopw [5] (fun v wr => ∃ j n : Nat, j ≤ i ∧ v = .int .i64 ((j : Int) - 1) ∧ Hid (upN xs i = upF xs dv j) ∧ wr = w.drewN n) (fun v _ => (intOf v + 1).toNat)
  case atStart => exact ⟨i, 0, Nat.le_refl _, rfl, HU, rfl⟩
  case round =>
    clear HU q0
    obtain ⟨j, n, hji, rfl, HU, hwr⟩ := hrel
    have HW := Lib.hid hwr
    have hcI : wr.cell? (a.add (i * 2)) = some (.int .i64 dv) := by rw [hwr]; exact hcI n
    clear hwr
    cases j with
    | zero =>
      have e1 : ((0 : Nat) : Int) - 1 = -1 := rfl
      rw [e1]
      go_wp2
      go_quiet (fail)
      go_wp2
      go_ret
      exact ⟨by rw [HU.out]; rfl, by first | exact ⟨_, HW.out⟩ | exact drew_more HW.out _⟩
    | succ p =>
      have e1 : ((p + 1 : Nat) : Int) - 1 = (p : Int) := by omega
      rw [e1]
      obtain ⟨a', ha', hcp, _⟩ := sec_cell H.out (show p < xs.length by omega)
      obtain rfl := Option.some.inj ha'
      have HS := Lib.hid (show upF xs dv (p + 1) = if dAt xs p < dv then (p : Int) else upF xs dv p from rfl)
      obtain ⟨dp, hdp⟩ : ∃ dp, Hid (dAt xs p = dp) := ⟨_, Lib.hid rfl⟩
      rw [hdp.out] at hcp HS
      have hcP : wr.cell? (a.add (p * 2)) = some (.int .i64 dp) := by rw [HW.out]; exact hcp
      have p0 : (p : Int) < (xs.length : Int) := by omega
      have g0 : decide ((0 : Int) ≤ (p : Int)) = true := decide_eq_true (by omega)
      have q1 : IntKind.i64.wrap ((p : Int) - 1) = (p : Int) - 1 := by rw [IntKind.wrap_i64]; omega
      clear hcp e1 ha'
      by_cases hl : dp < dv
      · have g1 : decide (dv ≤ dp) = false := decide_eq_false (by omega)
        have HR := Lib.hid (HU.out.trans (HS.out.trans (if_pos hl)))
        clear hl HU HS hdp hdv
        go_wp2
        go_quiet (fail)
        go_wp2
        go_ret
        exact ⟨ret_int HR.out.symm, by first | exact ⟨_, HW.out⟩ | exact drew_more HW.out _⟩
      · have g1 : decide (dv ≤ dp) = true := decide_eq_true (by omega)
        have HR := Lib.hid (HU.out.trans (HS.out.trans (if_neg hl)))
        clear hl HU HS hdp hdv
        go_wp2
        go_quiet (fail)
        go_wp2
        go_roundw
        case rel => exact ⟨p, _, by omega, rfl, HR, (congrArg (fun u => World.drewN u _) HW.out).trans (World.drewN_drewN _ _ _)⟩
        case measure => simp [intOf]; try omega
set_option maxHeartbeats 1000000 in
theorem l6Up_any (A : Option Addr) (c : Nat) (xs : List Sec) (i : Nat) (w : World) (h : Cells w A (SectionK.row xs)) (hi : i < xs.length) (hm : xs.length ≤ 1000000) :
    Calls Tryd.prog 43 #[.slice A xs.length c, .int .i64 i] w fun e w' => e = .returned (.int .i64 (upN xs i)) ∧ ∃ m, w' = w.drewN m := by
  obtain ⟨a, rfl, hci, _⟩ := sec_cell h hi
  have H := Lib.hid h
  have HU := Lib.hid (show upN xs i = upF xs (dAt xs i) i from rfl)
  obtain ⟨dv, hdv⟩ : ∃ dv, Hid (dAt xs i = dv) := ⟨_, Lib.hid rfl⟩
  rw [hdv.out] at hci HU
  have hcI : ∀ n, (w.drewN n).cell? (a.add (i * 2)) = some (.int .i64 dv) := fun n => hci
  have i0 : (i : Int) < (xs.length : Int) := by omega
  have q0 : IntKind.i64.wrap ((i : Int) - 1) = (i : Int) - 1 := by rw [IntKind.wrap_i64]; omega
  clear h hci
  go_enter Tryd.func43, Tryd.ntmps43
  go_wp2
  go_loopw [5] (fun v wr => ∃ j n : Nat, j ≤ i ∧ v = .int .i64 ((j : Int) - 1) ∧ Hid (upN xs i = upF xs dv j) ∧ wr = w.drewN n) (fun v _ => (intOf v + 1).toNat)
  case atStart => exact ⟨i, 0, Nat.le_refl _, rfl, HU, rfl⟩
  case round =>
    clear HU q0
    obtain ⟨j, n, hji, rfl, HU, hwr⟩ := hrel
    have HW := Lib.hid hwr
    have hcI : wr.cell? (a.add (i * 2)) = some (.int .i64 dv) := by rw [hwr]; exact hcI n
    clear hwr
    cases j with
    | zero =>
      have e1 : ((0 : Nat) : Int) - 1 = -1 := rfl
      rw [e1]
      go_wp2
      go_ret
      exact ⟨by rw [HU.out]; rfl, by first | exact ⟨_, HW.out⟩ | exact drew_more HW.out _⟩
    | succ p =>
      have e1 : ((p + 1 : Nat) : Int) - 1 = (p : Int) := by omega
      rw [e1]
      obtain ⟨a', ha', hcp, _⟩ := sec_cell H.out (show p < xs.length by omega)
      obtain rfl := Option.some.inj ha'
      have HS := Lib.hid (show upF xs dv (p + 1) = if dAt xs p < dv then (p : Int) else upF xs dv p from rfl)
      obtain ⟨dp, hdp⟩ : ∃ dp, Hid (dAt xs p = dp) := ⟨_, Lib.hid rfl⟩
      rw [hdp.out] at hcp HS
      have hcP : wr.cell? (a.add (p * 2)) = some (.int .i64 dp) := by rw [HW.out]; exact hcp
      have p0 : (p : Int) < (xs.length : Int) := by omega
      have g0 : (0 : Int) ≤ (p : Int) := by omega
      have q1 : IntKind.i64.wrap ((p : Int) - 1) = (p : Int) - 1 := by rw [IntKind.wrap_i64]; omega
      clear hcp e1 ha'
      by_cases hl : dp < dv
      · have HR := Lib.hid (HU.out.trans (HS.out.trans (if_pos hl)))
        clear HU HS hdp hdv
        go_wp2
        go_quiet (fail)
        go_wp2
        go_ret
        exact ⟨ret_int HR.out.symm, by first | exact ⟨_, HW.out⟩ | exact drew_more HW.out _⟩
      · have HR := Lib.hid (HU.out.trans (HS.out.trans (if_neg hl)))
        clear HU HS hdp hdv
        go_wp2
        go_quiet (fail)
        go_wp2
        go_roundw
        case rel => exact ⟨p, _, by omega, rfl, HR, (congrArg (fun u => World.drewN u _) HW.out).trans (World.drewN_drewN _ _ _)⟩
        case measure => simp [intOf]; try omega
end Go.Proofs.YtfncfaamdedmjaaDoor
