/- The section to which one belongs, in the program and in the reference. Conditions: the ranges named. -/
import Derived.Test.YtajfbiihlfccnaaDoorSection
import Derived.Test.YtajfbiihlfccnaaDoorNum
import Derived.Test.YtajfbiihlfccnaaDoorWrd
import Derived.BigQuiet
import Derived.Deep.DrawnRows
namespace Go.Proofs.YtajfbiihlfccnaaDoor
open Go.RowKit
set_option linter.unusedVariables false
set_option linter.unusedSimpArgs false
theorem drew_more {w wr : World} {n : Nat} (h : wr = w.drewN n) (m : Nat) : ∃ k, wr.drewN m = w.drewN k := by subst h; exact ⟨n + m, World.drewN_drewN _ _ _⟩
/-- How deep section k lies. -/
def dAt (xs : List Sec) (k : Nat) : Int := (xs.getD k ⟨0, ByteArray.empty⟩).d
def tAt (xs : List Sec) (k : Nat) : ByteArray := (xs.getD k ⟨0, ByteArray.empty⟩).t
theorem dAt_at {xs : List Sec} {k : Nat} (h : k < xs.length) : xs[k].d = dAt xs k := by unfold dAt; rw [List.getD_eq_getElem?_getD, List.getElem?_eq_getElem h]; rfl
theorem tAt_at {xs : List Sec} {k : Nat} (h : k < xs.length) : xs[k].t = tAt xs k := by unfold tAt; rw [List.getD_eq_getElem?_getD, List.getElem?_eq_getElem h]; rfl
theorem sec_cell {w : World} {A : Option Addr} {xs : List Sec} (h : Cells w A (SectionK.row xs)) {k : Nat} (hk : k < xs.length) : ∃ a, A = some a ∧ w.cell? (a.add (k * 2)) = some (.int .i64 (dAt xs k)) ∧ w.cell? ⟨(a.add (k * 2)).block, (a.add (k * 2)).off + 1, none⟩ = some (.string (tAt xs k)) := by
  obtain ⟨a, h1, h2, h3⟩ := section_at h hk
  rw [dAt_at hk] at h2
  rw [tAt_at hk] at h3
  exact ⟨a, h1, h2, h3⟩
/-- The last section before place k that lies less deep. -/
def upF (xs : List Sec) (dv : Int) : Nat → Int
  | 0 => -1
  | k + 1 => if dAt xs k < dv then (k : Int) else upF xs dv k
def upN (xs : List Sec) (i : Nat) : Int := upF xs (dAt xs i) i
theorem upF_lt {xs : List Sec} {dv : Int} : ∀ k, -1 ≤ upF xs dv k ∧ upF xs dv k < k
  | 0 => by simp [upF]
  | k + 1 => by
    rw [upF]
    have := upF_lt (xs := xs) (dv := dv) k
    split <;> omega
theorem upN_lt (xs : List Sec) (i : Nat) : -1 ≤ upN xs i ∧ upN xs i < i := upF_lt i
set_option maxHeartbeats 1000000 in
theorem belongsTo_any (A : Option Addr) (c : Nat) (xs : List Sec) (i : Nat) (w : World) (h : Cells w A (SectionK.row xs)) (hi : i < xs.length) (hm : xs.length ≤ 1000000) :
    Calls Tryd.prog 67 #[.slice A xs.length c, .int .i64 i] w fun e w' => e = .returned (.int .i64 (upN xs i)) ∧ ∃ m, w' = w.drewN m := by
  obtain ⟨a, rfl, hci, _⟩ := sec_cell h hi
  have H := Lib.hid h
  have HU := Lib.hid (show upN xs i = upF xs (dAt xs i) i from rfl)
  obtain ⟨dv, hdv⟩ : ∃ dv, Hid (dAt xs i = dv) := ⟨_, Lib.hid rfl⟩
  rw [hdv.out] at hci HU
  have hcI : ∀ n, (w.drewN n).cell? (a.add (i * 2)) = some (.int .i64 dv) := fun n => hci
  have i0 : (i : Int) < (xs.length : Int) := by omega
  have q0 : IntKind.i64.wrap ((i : Int) - 1) = (i : Int) - 1 := by rw [IntKind.wrap_i64]; omega
  clear h hci
  go_enter Tryd.func67, Tryd.ntmps67
  go_wp2
  go_loopw [5] (fun v wr => ∃ j n : Nat, j ≤ i ∧ v = .int .i64 ((j : Int) - 1) ∧ Hid (upN xs i = upF xs dv j) ∧ wr = w.drewN n) (fun v _ => (intOf v + 1).toNat)
  case atStart => exact ⟨i, 0, Nat.le_refl _, rfl, HU, rfl⟩
  case round =>
    clear HU q0
    obtain ⟨j, n, hji, rfl, HU, hwr⟩ := hrel
    have HW := Lib.hid hwr
    have hcI : wr.cell? (a.add (i * 2)) = some (.int .i64 dv) := by rw [hwr]; exact hcI n
    clear hwr
    cases j with
    | zero =>
      have e1 : ((0 : Nat) : Int) - 1 = -1 := rfl
      rw [e1]
      go_wp2
      go_quiet (fail)
      go_wp2
      go_ret
      exact ⟨by rw [HU.out]; rfl, by first | exact ⟨_, HW.out⟩ | exact drew_more HW.out _⟩
    | succ p =>
      have e1 : ((p + 1 : Nat) : Int) - 1 = (p : Int) := by omega
      rw [e1]
      obtain ⟨a', ha', hcp, _⟩ := sec_cell H.out (show p < xs.length by omega)
      obtain rfl := Option.some.inj ha'
      have HS := Lib.hid (show upF xs dv (p + 1) = if dAt xs p < dv then (p : Int) else upF xs dv p from rfl)
      obtain ⟨dp, hdp⟩ : ∃ dp, Hid (dAt xs p = dp) := ⟨_, Lib.hid rfl⟩
      rw [hdp.out] at hcp HS
      have hcP : wr.cell? (a.add (p * 2)) = some (.int .i64 dp) := by rw [HW.out]; exact hcp
      have p0 : (p : Int) < (xs.length : Int) := by omega
      have g0 : decide ((0 : Int) ≤ (p : Int)) = true := decide_eq_true (by omega)
      have q1 : IntKind.i64.wrap ((p : Int) - 1) = (p : Int) - 1 := by rw [IntKind.wrap_i64]; omega
      clear hcp e1 ha'
      by_cases hl : dp < dv
      · have g1 : decide (dv ≤ dp) = false := decide_eq_false (by omega)
        have HR := Lib.hid (HU.out.trans (HS.out.trans (if_pos hl)))
        clear hl HU HS hdp hdv
        go_wp2
        go_quiet (fail)
        go_wp2
        go_ret
        exact ⟨ret_int HR.out.symm, by first | exact ⟨_, HW.out⟩ | exact drew_more HW.out _⟩
      · have g1 : decide (dv ≤ dp) = true := decide_eq_true (by omega)
        have HR := Lib.hid (HU.out.trans (HS.out.trans (if_neg hl)))
        clear hl HU HS hdp hdv
        go_wp2
        go_quiet (fail)
        go_wp2
        go_roundw
        case rel => exact ⟨p, _, by omega, rfl, HR, (congrArg (fun u => World.drewN u _) HW.out).trans (World.drewN_drewN _ _ _)⟩
        case measure => simp [intOf]; try omega
set_option maxHeartbeats 1000000 in
theorem l6Up_any (A : Option Addr) (c : Nat) (xs : List Sec) (i : Nat) (w : World) (h : Cells w A (SectionK.row xs)) (hi : i < xs.length) (hm : xs.length ≤ 1000000) :
    Calls Tryd.prog 90 #[.slice A xs.length c, .int .i64 i] w fun e w' => e = .returned (.int .i64 (upN xs i)) ∧ ∃ m, w' = w.drewN m := by
  obtain ⟨a, rfl, hci, _⟩ := sec_cell h hi
  have H := Lib.hid h
  have HU := Lib.hid (show upN xs i = upF xs (dAt xs i) i from rfl)
  obtain ⟨dv, hdv⟩ : ∃ dv, Hid (dAt xs i = dv) := ⟨_, Lib.hid rfl⟩
  rw [hdv.out] at hci HU
  have hcI : ∀ n, (w.drewN n).cell? (a.add (i * 2)) = some (.int .i64 dv) := fun n => hci
  have i0 : (i : Int) < (xs.length : Int) := by omega
  have q0 : IntKind.i64.wrap ((i : Int) - 1) = (i : Int) - 1 := by rw [IntKind.wrap_i64]; omega
  clear h hci
  go_enter Tryd.func90, Tryd.ntmps90
  go_wp2
  go_loopw [5] (fun v wr => ∃ j n : Nat, j ≤ i ∧ v = .int .i64 ((j : Int) - 1) ∧ Hid (upN xs i = upF xs dv j) ∧ wr = w.drewN n) (fun v _ => (intOf v + 1).toNat)
  case atStart => exact ⟨i, 0, Nat.le_refl _, rfl, HU, rfl⟩
  case round =>
    clear HU q0
    obtain ⟨j, n, hji, rfl, HU, hwr⟩ := hrel
    have HW := Lib.hid hwr
    have hcI : wr.cell? (a.add (i * 2)) = some (.int .i64 dv) := by rw [hwr]; exact hcI n
    clear hwr
    cases j with
    | zero =>
      have e1 : ((0 : Nat) : Int) - 1 = -1 := rfl
      rw [e1]
      go_wp2
      go_ret
      exact ⟨by rw [HU.out]; rfl, by first | exact ⟨_, HW.out⟩ | exact drew_more HW.out _⟩
    | succ p =>
      have e1 : ((p + 1 : Nat) : Int) - 1 = (p : Int) := by omega
      rw [e1]
      obtain ⟨a', ha', hcp, _⟩ := sec_cell H.out (show p < xs.length by omega)
      obtain rfl := Option.some.inj ha'
      have HS := Lib.hid (show upF xs dv (p + 1) = if dAt xs p < dv then (p : Int) else upF xs dv p from rfl)
      obtain ⟨dp, hdp⟩ : ∃ dp, Hid (dAt xs p = dp) := ⟨_, Lib.hid rfl⟩
      rw [hdp.out] at hcp HS
      have hcP : wr.cell? (a.add (p * 2)) = some (.int .i64 dp) := by rw [HW.out]; exact hcp
      have p0 : (p : Int) < (xs.length : Int) := by omega
      have g0 : (0 : Int) ≤ (p : Int) := by omega
      have q1 : IntKind.i64.wrap ((p : Int) - 1) = (p : Int) - 1 := by rw [IntKind.wrap_i64]; omega
      clear hcp e1 ha'
      by_cases hl : dp < dv
      · have HR := Lib.hid (HU.out.trans (HS.out.trans (if_pos hl)))
        clear HU HS hdp hdv
        go_wp2
        go_quiet (fail)
        go_wp2
        go_ret
        exact ⟨ret_int HR.out.symm, by first | exact ⟨_, HW.out⟩ | exact drew_more HW.out _⟩
      · have HR := Lib.hid (HU.out.trans (HS.out.trans (if_neg hl)))
        clear HU HS hdp hdv
        go_wp2
        go_quiet (fail)
        go_wp2
        go_roundw
        case rel => exact ⟨p, _, by omega, rfl, HR, (congrArg (fun u => World.drewN u _) HW.out).trans (World.drewN_drewN _ _ _)⟩
        case measure => simp [intOf]; try omega
end Go.Proofs.YtajfbiihlfccnaaDoor
