/- The contracts of the exported functions of chapter 11 (votes) on tallies and needs, of the program and of the reference: both return the same plain function of their arguments. Conditions: none. -/
import Derived.Test.YtjjjahfmgooobaaVt
namespace Go.Proofs.Ytjjjahfmgooobaa.Vt
open Go.RowKit
set_option linter.unusedVariables false

/-- The first number from k on, of n numbers, of which p holds. -/
def scan (p : Int → Bool) (k : Int) : Nat → Option Int
  | 0 => none
  | n + 1 => if p k then some k else scan p (k + 1) n
theorem scan_hit {p : Int → Bool} {k : Int} {n : Nat} (h : p k = true) (hn : 0 < n) : scan p k n = some k := by
  cases n with
  | zero => omega
  | succ n => simp [scan, h]
theorem scan_miss {p : Int → Bool} {k : Int} {n m : Nat} (h : p k = false) (hn : n = m + 1) : scan p k n = scan p (k + 1) m := by
  subst hn; simp [scan, h]
/-- The same downwards. -/
def scanDown (p : Int → Bool) (k : Int) : Nat → Option Int
  | 0 => none
  | n + 1 => if p k then some k else scanDown p (k - 1) n
theorem scanDown_hit {p : Int → Bool} {k : Int} {n : Nat} (h : p k = true) (hn : 0 < n) : scanDown p k n = some k := by
  cases n with
  | zero => omega
  | succ n => simp [scanDown, h]
theorem scanDown_miss {p : Int → Bool} {k : Int} {n m : Nat} (h : p k = false) (hn : n = m + 1) : scanDown p k n = scanDown p (k - 1) m := by
  subst hn; simp [scanDown, h]
theorem scanDown_skip {p : Int → Bool} (d : Nat) : ∀ (k : Int) (n : Nat), (∀ j, k - d < j → j ≤ k → p j = false) → d ≤ n → scanDown p k n = scanDown p (k - d) (n - d) := by
  induction d with
  | zero => intro k n _ _; simp
  | succ d ih =>
    intro k n h hn
    rw [scanDown_miss (m := n - 1) (h k (by omega) (by omega)) (by omega), ih (k - 1) (n - 1) (fun j h1 h2 => h j (by omega) (by omega)) (by omega)]
    congr 1 <;> omega
def optR : Option Int → Value
  | some k => .tuple #[.int .i64 k, .bool true]
  | none => .tuple #[.int .i64 0, .bool false]
def needed (k no : Int) : Option Int := if inB k 1 3 && inB no 0 1000 then scan (fun y => adB k y no) 0 2002 else none
def mostNo (k yes : Int) : Option Int := if inB k 1 3 && inB yes 0 1000 then scanDown (fun n => adB k yes n) yes (yes.toNat + 1) else none
theorem adB_above {k yes j : Int} (hj : yes < j) : adB k yes j = false := by
  unfold adB
  split
  · simp; omega
  · split <;> simp <;> omega
theorem mostNo_high (k yes : Int) (h0 : 0 ≤ yes) (h1 : yes ≤ 1000) : scanDown (fun n => adB k yes n) 1000 1001 = scanDown (fun n => adB k yes n) yes (yes.toNat + 1) := by
  rw [scanDown_skip (1000 - yes.toNat) 1000 1001 (fun j h1 h2 => adB_above (by omega)) (by omega)]
  congr 1 <;> omega
set_option maxHeartbeats 400000 in
theorem YesNeeded_any (k no : Int) (w : World) : Calls Try.prog 6 #[.int .i64 k, .int .i64 no] w fun e w' => e = .returned (optR (needed k no)) ∧ w = w' := by
  rcases Bool.eq_false_or_eq_true (inB k 1 3 && inB no 0 1000) with hg | hg
  · have hg2 := hg
    rw [Bool.and_eq_true, inB_iff, inB_iff] at hg2
    obtain ⟨⟨_, _⟩, h3, h4⟩ := hg2
    have HN := Lib.hid (show needed k no = scan (fun y => adB k y no) 0 2002 by unfold needed; rw [if_pos hg])
    rw [Bool.and_eq_true] at hg
    obtain ⟨hg1, hg2⟩ := hg
    go_enter Try.func6, Try.ntmps6
    go_wp2_with (first
      | (go_at_call 21; refine (isNeed_any _ _).mono ?_; rintro e w' ⟨rfl, rfl⟩)
      | (go_at_call 22; refine (areVotes_any _ _).mono ?_; rintro e w' ⟨rfl, rfl⟩))
    go_loop [6] (fun i => ∃ j : Nat, j ≤ 2002 ∧ i = .int .i64 j ∧ Hid (scan (fun y => adB k y no) 0 2002 = scan (fun y => adB k y no) j (2002 - j))) (fun i => 2002 - (intOf i).toNat)
    case atStart => exact ⟨0, by omega, rfl, rfl⟩
    case round =>
      obtain ⟨j, hj, rfl, hs⟩ := hrel
      by_cases hlt : j < 2002
      · rcases Bool.eq_false_or_eq_true (adB k j no) with ha | ha
        · have HA := Lib.hid (scan_hit (p := fun y => adB k y no) (k := j) (n := 2002 - j) ha (by omega))
          go_wp2_with (go_at_call 23; refine (isAdopted0_any _ _ _ _ (by omega) (by omega) (by omega) (by omega)).mono ?_; rintro e w' ⟨rfl, rfl⟩)
          go_ret2
          exact ⟨ret_val (by rw [HN.out, hs.out, HA.out]; rfl), rfl⟩
        · have HA := Lib.hid (scan_miss (p := fun y => adB k y no) (k := j) (n := 2002 - j) (m := 2002 - (j + 1)) ha (by omega))
          go_wp2_with (go_at_call 23; refine (isAdopted0_any _ _ _ _ (by omega) (by omega) (by omega) (by omega)).mono ?_; rintro e w' ⟨rfl, rfl⟩)
          go_round
          case rel => exact ⟨j + 1, by omega, by go_num, hs.out.trans HA.out⟩
          case measure => simp [intOf]; omega
      · obtain rfl : j = 2002 := by omega
        go_wp2
        go_ret2
        exact ⟨ret_val (by rw [HN.out, hs.out]; rfl), rfl⟩
  · have hn : needed k no = none := by unfold needed; rw [hg]; rfl
    rw [hn]
    clear hn
    go_enter Try.func6, Try.ntmps6
    go_wp2_with (first
      | (go_at_call 21; refine (isNeed_any _ _).mono ?_; rintro e w' ⟨rfl, rfl⟩)
      | (go_at_call 22; refine (areVotes_any _ _).mono ?_; rintro e w' ⟨rfl, rfl⟩))
    all_goals first
      | (go_ret2; exact ⟨rfl, rfl⟩)
      | (exfalso; simp_all)
set_option maxHeartbeats 400000 in
theorem sYesNeeded_any (k no : Int) (w : World) : Calls Try.prog 7 #[.int .i64 k, .int .i64 no] w fun e w' => e = .returned (optR (needed k no)) ∧ w = w' := by
  rcases Bool.eq_false_or_eq_true (inB k 1 3 && inB no 0 1000) with hg | hg
  · have hg2 := hg
    rw [Bool.and_eq_true, inB_iff, inB_iff] at hg2
    obtain ⟨⟨_, _⟩, h3, h4⟩ := hg2
    have HN := Lib.hid (show needed k no = scan (fun y => adB k y no) 0 2002 by unfold needed; rw [if_pos hg])
    rw [Bool.and_eq_true] at hg
    obtain ⟨hg1, hg2⟩ := hg
    go_enter Try.func7, Try.ntmps7
    go_wp2_with (first
      | (go_at_call 24; refine (l11Need_any _ _).mono ?_; rintro e w' ⟨rfl, rfl⟩)
      | (go_at_call 25; refine (l11Votes_any _ _).mono ?_; rintro e w' ⟨rfl, rfl⟩))
    go_loop [6] (fun i => ∃ j : Nat, j ≤ 2002 ∧ i = .int .i64 j ∧ Hid (scan (fun y => adB k y no) 0 2002 = scan (fun y => adB k y no) j (2002 - j))) (fun i => 2002 - (intOf i).toNat)
    case atStart => exact ⟨0, by omega, rfl, rfl⟩
    case round =>
      obtain ⟨j, hj, rfl, hs⟩ := hrel
      by_cases hlt : j < 2002
      · rcases Bool.eq_false_or_eq_true (adB k j no) with ha | ha
        · have HA := Lib.hid (scan_hit (p := fun y => adB k y no) (k := j) (n := 2002 - j) ha (by omega))
          go_wp2_with (go_at_call 26; refine (l11Enough_any _ _ _ _ (by omega) (by omega) (by omega) (by omega)).mono ?_; rintro e w' ⟨rfl, rfl⟩)
          go_ret2
          exact ⟨ret_val (by rw [HN.out, hs.out, HA.out]; rfl), rfl⟩
        · have HA := Lib.hid (scan_miss (p := fun y => adB k y no) (k := j) (n := 2002 - j) (m := 2002 - (j + 1)) ha (by omega))
          go_wp2_with (go_at_call 26; refine (l11Enough_any _ _ _ _ (by omega) (by omega) (by omega) (by omega)).mono ?_; rintro e w' ⟨rfl, rfl⟩)
          go_round
          case rel => exact ⟨j + 1, by omega, by go_num, hs.out.trans HA.out⟩
          case measure => simp [intOf]; omega
      · obtain rfl : j = 2002 := by omega
        go_wp2
        go_ret2
        exact ⟨ret_val (by rw [HN.out, hs.out]; rfl), rfl⟩
  · have hn : needed k no = none := by unfold needed; rw [hg]; rfl
    rw [hn]
    clear hn
    go_enter Try.func7, Try.ntmps7
    go_wp2_with (first
      | (go_at_call 24; refine (l11Need_any _ _).mono ?_; rintro e w' ⟨rfl, rfl⟩)
      | (go_at_call 25; refine (l11Votes_any _ _).mono ?_; rintro e w' ⟨rfl, rfl⟩))
    all_goals first
      | (go_ret2; exact ⟨rfl, rfl⟩)
      | (exfalso; simp_all)
set_option maxHeartbeats 400000 in
theorem MostNo_any (k yes : Int) (w : World) : Calls Try.prog 9 #[.int .i64 k, .int .i64 yes] w fun e w' => e = .returned (optR (mostNo k yes)) ∧ w = w' := by
  rcases Bool.eq_false_or_eq_true (inB k 1 3 && inB yes 0 1000) with hg | hg
  · have hg2 := hg
    rw [Bool.and_eq_true, inB_iff, inB_iff] at hg2
    obtain ⟨⟨_, _⟩, h3, h4⟩ := hg2
    have HN := Lib.hid (show mostNo k yes = scanDown (fun n => adB k yes n) yes (yes.toNat + 1) by unfold mostNo; rw [if_pos hg])
    rw [Bool.and_eq_true] at hg
    obtain ⟨hg1, hg2⟩ := hg
    go_enter Try.func9, Try.ntmps9
    go_wp2_with (first
      | (go_at_call 21; refine (isNeed_any _ _).mono ?_; rintro e w' ⟨rfl, rfl⟩)
      | (go_at_call 22; refine (areVotes_any _ _).mono ?_; rintro e w' ⟨rfl, rfl⟩))
    go_loop [6] (fun i => ∃ j : Int, -1 ≤ j ∧ j ≤ 1000 ∧ i = .int .i64 j ∧ Hid (scanDown (fun n => adB k yes n) yes (yes.toNat + 1) = scanDown (fun n => adB k yes n) j (j + 1).toNat)) (fun i => (intOf i + 1).toNat)
    case atStart => exact ⟨yes, by omega, by omega, rfl, by rw [show (yes + 1).toNat = yes.toNat + 1 from by omega]; rfl⟩
    case round =>
      obtain ⟨j, hj, hj', rfl, hs⟩ := hrel
      by_cases hlt : 0 ≤ j
      · rcases Bool.eq_false_or_eq_true (adB k yes j) with ha | ha
        · have HA := Lib.hid (scanDown_hit (p := fun n => adB k yes n) (k := j) (n := (j + 1).toNat) ha (by omega))
          go_wp2_with (go_at_call 23; refine (isAdopted0_any _ _ _ _ (by omega) (by omega) (by omega) (by omega)).mono ?_; rintro e w' ⟨rfl, rfl⟩)
          go_ret2
          exact ⟨ret_val (by rw [HN.out, hs.out, HA.out]; rfl), rfl⟩
        · have HA := Lib.hid (scanDown_miss (p := fun n => adB k yes n) (k := j) (n := (j + 1).toNat) (m := (j - 1 + 1).toNat) ha (by omega))
          go_wp2_with (go_at_call 23; refine (isAdopted0_any _ _ _ _ (by omega) (by omega) (by omega) (by omega)).mono ?_; rintro e w' ⟨rfl, rfl⟩)
          go_round
          case rel => exact ⟨j - 1, by omega, by omega, by go_num, hs.out.trans HA.out⟩
          case measure => simp [intOf]; omega
      · obtain rfl : j = -1 := by omega
        go_wp2
        go_ret2
        exact ⟨ret_val (by rw [HN.out, hs.out]; rfl), rfl⟩
  · have hn : mostNo k yes = none := by unfold mostNo; rw [hg]; rfl
    rw [hn]
    clear hn
    go_enter Try.func9, Try.ntmps9
    go_wp2_with (first
      | (go_at_call 21; refine (isNeed_any _ _).mono ?_; rintro e w' ⟨rfl, rfl⟩)
      | (go_at_call 22; refine (areVotes_any _ _).mono ?_; rintro e w' ⟨rfl, rfl⟩))
    all_goals first
      | (go_ret2; exact ⟨rfl, rfl⟩)
      | (exfalso; simp_all)
set_option maxHeartbeats 400000 in
theorem sMostNo_any (k yes : Int) (w : World) : Calls Try.prog 11 #[.int .i64 k, .int .i64 yes] w fun e w' => e = .returned (optR (mostNo k yes)) ∧ w = w' := by
  rcases Bool.eq_false_or_eq_true (inB k 1 3 && inB yes 0 1000) with hg | hg
  · have hg2 := hg
    rw [Bool.and_eq_true, inB_iff, inB_iff] at hg2
    obtain ⟨⟨_, _⟩, h3, h4⟩ := hg2
    have HN := Lib.hid (show mostNo k yes = scanDown (fun n => adB k yes n) 1000 1001 by unfold mostNo; rw [if_pos hg]; exact (mostNo_high k yes (by omega) (by omega)).symm)
    rw [Bool.and_eq_true] at hg
    obtain ⟨hg1, hg2⟩ := hg
    go_enter Try.func11, Try.ntmps11
    go_wp2_with (first
      | (go_at_call 24; refine (l11Need_any _ _).mono ?_; rintro e w' ⟨rfl, rfl⟩)
      | (go_at_call 25; refine (l11Votes_any _ _).mono ?_; rintro e w' ⟨rfl, rfl⟩))
    go_loop [6] (fun i => ∃ j : Int, -1 ≤ j ∧ j ≤ 1000 ∧ i = .int .i64 j ∧ Hid (scanDown (fun n => adB k yes n) 1000 1001 = scanDown (fun n => adB k yes n) j (j + 1).toNat)) (fun i => (intOf i + 1).toNat)
    case atStart => exact ⟨1000, by omega, by omega, rfl, rfl⟩
    case round =>
      obtain ⟨j, hj, hj', rfl, hs⟩ := hrel
      by_cases hlt : 0 ≤ j
      · rcases Bool.eq_false_or_eq_true (adB k yes j) with ha | ha
        · have HA := Lib.hid (scanDown_hit (p := fun n => adB k yes n) (k := j) (n := (j + 1).toNat) ha (by omega))
          go_wp2_with (go_at_call 26; refine (l11Enough_any _ _ _ _ (by omega) (by omega) (by omega) (by omega)).mono ?_; rintro e w' ⟨rfl, rfl⟩)
          go_ret2
          exact ⟨ret_val (by rw [HN.out, hs.out, HA.out]; rfl), rfl⟩
        · have HA := Lib.hid (scanDown_miss (p := fun n => adB k yes n) (k := j) (n := (j + 1).toNat) (m := (j - 1 + 1).toNat) ha (by omega))
          go_wp2_with (go_at_call 26; refine (l11Enough_any _ _ _ _ (by omega) (by omega) (by omega) (by omega)).mono ?_; rintro e w' ⟨rfl, rfl⟩)
          go_round
          case rel => exact ⟨j - 1, by omega, by omega, by go_num, hs.out.trans HA.out⟩
          case measure => simp [intOf]; omega
      · obtain rfl : j = -1 := by omega
        go_wp2
        go_ret2
        exact ⟨ret_val (by rw [HN.out, hs.out]; rfl), rfl⟩
  · have hn : mostNo k yes = none := by unfold mostNo; rw [hg]; rfl
    rw [hn]
    clear hn
    go_enter Try.func11, Try.ntmps11
    go_wp2_with (first
      | (go_at_call 24; refine (l11Need_any _ _).mono ?_; rintro e w' ⟨rfl, rfl⟩)
      | (go_at_call 25; refine (l11Votes_any _ _).mono ?_; rintro e w' ⟨rfl, rfl⟩))
    all_goals first
      | (go_ret2; exact ⟨rfl, rfl⟩)
      | (exfalso; simp_all)
end Go.Proofs.Ytjjjahfmgooobaa.Vt
