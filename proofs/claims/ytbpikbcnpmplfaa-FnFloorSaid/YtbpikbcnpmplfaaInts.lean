/- Slices of numbers: the copies, comparisons, sizes and marks of the laws. Conditions: the ranges named. -/
import Derived.Test.YtbpikbcnpmplfaaProg
import Derived.Test.YtbpikbcnpmplfaaCell
namespace Go.Proofs.Ytbpikbcnpmplfaa
open Go.RowKit
set_option linter.unusedVariables false

/-- Numbers as elements. -/
def IntK : Kd Int := ⟨1, fun x => [.int .i64 x], fun _ => rfl, fun _ => True⟩
theorem intK_row (xs : List Int) : IntK.row xs = xs.map (Value.int .i64) := by
  induction xs with
  | nil => rfl
  | cons x xs ih => show [Value.int .i64 x] ++ IntK.row xs = _; rw [ih]; rfl
theorem int_at {w : World} {A : Option Addr} {xs : List Int} (h : Cells w A (IntK.row xs)) {i : Nat} (hi : i < xs.length) : ∃ ad, A = some ad ∧ w.cell? (ad.add i) = some (.int .i64 xs[i]) :=
  h i _ (by rw [intK_row, List.getElem?_map, List.getElem?_eq_getElem hi]; rfl)
theorem infoInt : (Try.prog.info? 3).map (fun i => (i.zero, i.size, i.bytes)) = some (some (.int .i64 0), 1, 8) := by kernel_rfl
theorem ints_part (xs : List Int) (k : Nat) : IntK.part [.int .i64 0] xs k = (xs.take k).map (Value.int .i64) ++ List.replicate (xs.length - k) (.int .i64 0) := by
  unfold Kd.part
  rw [intK_row]
  congr 1
  generalize xs.length - k = n
  induction n with
  | zero => rfl
  | succ n ih => rw [List.replicate_succ, List.replicate_succ, List.flatten_cons, ih]; rfl
theorem ints_set {xs : List Int} {k : Nat} (h : k < xs.length) : (IntK.part [.int .i64 0] xs k).set k (.int .i64 xs[k]) = IntK.part [.int .i64 0] xs (k + 1) := by
  have h1 := IntK.part_set (z := [.int .i64 0]) rfl h
  simpa [IntK, setL] using h1
set_option maxHeartbeats 400000 in
theorem toIntS_any (A : Option Addr) (c : Nat) (xs : List Int) (w : World) (ha : Cells w A (IntK.row xs)) (hn : xs.length ≤ 1048576) :
    Calls Try.prog 46 #[.slice A xs.length c] w (ToL IntK 3 w xs) := by
  obtain ⟨i0, hi, hz0, hz1, hz2⟩ := info_parts infoInt
  go_enter Try.func46, Try.ntmps46
  go_wp2_with (at_make; refine wpList_make_full _ rfl (.tmp 6) (.tmp 6) 22 rfl w.heap.size 3 i0 _ 1 Try.underlying22 hi hz0 hz1 .i64 .i64 _ _ xs.length rfl rfl rfl rfl (by rw [hz2]; omega) (by unfold maxLen; omega) (Nat.le_refl _) ?_; intro w1 hown hgrow; rw [show (Value.int .i64 0).cells = #[Value.int .i64 0] from rfl, show xs.length * 1 = xs.length * (#[Value.int .i64 0] : Array Value).size from rfl, made_row _ _ (by simp), ← IntK.part_zero] at hown)
  have hB1 : Below w.heap.size w w1 := (Below.refl _ _).grown hgrow (Nat.le_refl _) (by simp)
  have HO1 := Lib.hid hown
  clear hgrow hown
  go_loopw [4] (fun i wr => ∃ k : Nat, k ≤ xs.length ∧ i = .int .i64 k ∧ wr.ownsRow w.heap.size 3 1 (.slice (some ⟨w.heap.size, 0, none⟩) xs.length xs.length) xs.length (IntK.part [.int .i64 0] xs k) ∧ Below w.heap.size w wr) (fun i _ => xs.length - (intOf i).toNat)
  case atStart => exact ⟨0, Nat.zero_le _, rfl, HO1.out, hB1⟩
  case round =>
    clear hB1
    obtain ⟨k, hk, rfl, hown, hB⟩ := hrel
    by_cases hlt : k < xs.length
    · obtain ⟨a, rfl, hca⟩ := int_at (ha.below hB) hlt
      have i1 : (k : Int) < (xs.length : Int) := by omega
      have hcell : ∃ u, wr.cell? ⟨w.heap.size, k, none⟩ = some u := by
        have := hown.cellAt k (by omega)
        exact ⟨_, this.trans (List.getElem?_eq_getElem (by rw [hown.1]; omega))⟩
      obtain ⟨u, hcu⟩ := hcell
      have hfz := hown.frozenAt k
      have hst := (hown.stored k (.int .i64 xs[k])).1
      rw [ints_set hlt] at hst
      have hB2 := hB.setCell (p := ⟨w.heap.size, k, none⟩) (Nat.le_refl _) (.int .i64 xs[k])
      have HS := Lib.hid hst
      have HB := Lib.hid hB2
      clear hst hB2 hown hB
      go_wp2
      go_roundw
      case rel => exact ⟨k + 1, hlt, by go_num, HS.out, HB.out⟩
      case measure => simp [intOf]; omega
    · obtain rfl : k = xs.length := by omega
      rw [IntK.part_all] at hown
      have HS := Lib.hid hown
      clear hown
      go_wp2
      go_ret
      exact ⟨_, _, rfl, Ow.mk HS.out hn (fun _ _ => trivial), hB⟩
set_option maxHeartbeats 400000 in
theorem eqIntS_any (A B : Option Addr) (c d : Nat) (xs ys : List Int) (w : World) (ha : Cells w A (IntK.row xs)) (hb : Cells w B (IntK.row ys)) (hn : xs.length ≤ 1048576) (hm : ys.length ≤ 1048576) :
    Calls Try.prog 50 #[.slice A xs.length c, .slice B ys.length d] w fun e w' => e = .returned (.bool (decide (xs = ys))) ∧ Below w.heap.size w w' := by
  by_cases hl : xs.length = ys.length
  · have hne : ((xs.length : Int) != (ys.length : Int)) = false := by simp [hl]
    have HL := Lib.hid hl
    clear hl
    go_enter Try.func50, Try.ntmps50
    go_wp2
    go_loopw [5] (fun i wr => ∃ k : Nat, k ≤ xs.length ∧ i = .int .i64 k ∧ Hid (xs.take k = ys.take k) ∧ Below w.heap.size w wr) (fun i _ => xs.length - (intOf i).toNat)
    case atStart => exact ⟨0, Nat.zero_le _, rfl, rfl, Below.refl _ _⟩
    case round =>
      obtain ⟨k, hk, rfl, hq, hB⟩ := hrel
      by_cases hlt : k < xs.length
      · have hlt2 : k < ys.length := by have := HL.out; omega
        obtain ⟨a, rfl, hca⟩ := int_at (ha.below hB) hlt
        obtain ⟨b, rfl, hcb⟩ := int_at (hb.below hB) hlt2
        have i1 : (k : Int) < (xs.length : Int) := by omega
        have i2 : (k : Int) < (ys.length : Int) := by omega
        by_cases he : xs[k] = ys[k]
        · have ht : (xs[k] != ys[k]) = false := by simp [he]
          have HE := Lib.hid he
          clear he
          go_wp2
          go_quiet (fail)
          go_wp2
          go_roundw
          case rel => exact ⟨k + 1, hlt, by go_num, by rw [List.take_succ_eq_append_getElem hlt, List.take_succ_eq_append_getElem hlt2, hq.out, HE.out]; rfl, below_drewN hB _⟩
          case measure => simp [intOf]; omega
        · have ht : (xs[k] != ys[k]) = true := by simp [he]
          have hd : decide (xs = ys) = false := decide_eq_false (fun e => he (by simp [e]))
          have HD := Lib.hid hd
          clear hd he
          go_wp2
          go_quiet (fail)
          go_wp2
          go_ret
          exact ⟨ret_bool HD.out.symm, below_drewN hB _⟩
      · have hd : decide (xs = ys) = true := decide_eq_true (by
          have h1 := hq.out
          rwa [List.take_of_length_le (by omega), List.take_of_length_le (by have := HL.out; omega)] at h1)
        have HD := Lib.hid hd
        clear hd
        go_wp2
        go_ret
        exact ⟨ret_bool HD.out.symm, hB⟩
  · have hne : ((xs.length : Int) != (ys.length : Int)) = true := by simp; omega
    have hd : decide (xs = ys) = false := decide_eq_false (fun e => hl (by rw [e]))
    have HD := Lib.hid hd
    clear hd hl
    go_enter Try.func50, Try.ntmps50
    go_wp2
    go_ret
    exact ⟨ret_bool HD.out.symm, Below.refl _ _⟩
theorem szIntS_any (A : Option Addr) (c n : Nat) (left : Int) (w : World) (hn : n ≤ maxLen) (h0 : 0 ≤ left) (h1 : left ≤ 1048576) :
    Calls Try.prog 42 #[.slice A n c, .int .i64 left] w fun e w' => e = .returned (.int .i64 (szN n left)) ∧ w = w' := by
  unfold maxLen at hn
  by_cases hl : left - (n : Int) < 0
  · have HR := Lib.hid (show szN n left = -1 by unfold szN; rw [if_pos (by omega)])
    go_enter Try.func42, Try.ntmps42
    go_wp2
    go_ret
    exact ⟨ret_int HR.out.symm, rfl⟩
  · have HR := Lib.hid (show szN n left = left - n by unfold szN; rw [if_neg (by omega)])
    go_enter Try.func42, Try.ntmps42
    go_wp2
    go_ret
    exact ⟨ret_int HR.out.symm, rfl⟩
/-- The marks of n numbers, from k on. -/
def marksI (k : Nat) : Nat → List Int
  | 0 => []
  | n + 1 => marksI k n ++ [((k + n : Nat) : Int)]
theorem marksI_len (k n : Nat) : (marksI k n).length = n := by
  induction n with
  | zero => rfl
  | succ n ih => simp [marksI, ih]
theorem marksI_get (k n i : Nat) (h : i < n) : (marksI k n)[i]'(by rw [marksI_len]; exact h) = ((k + i : Nat) : Int) := by
  induction n with
  | zero => omega
  | succ n ih =>
    simp only [marksI]
    rcases Nat.lt_or_ge i n with h1 | h1
    · rw [List.getElem_append_left (by rw [marksI_len]; exact h1)]; exact ih h1
    · obtain rfl : i = n := by omega
      rw [List.getElem_append_right (by rw [marksI_len]; omega)]
      simp
/-- The first j places bear marks, from k on. -/
def mixI (k j : Nat) (xs : List Int) : List Int := marksI k j ++ xs.drop j
theorem mixI_zero (k : Nat) (xs : List Int) : mixI k 0 xs = xs := by simp [mixI, marksI]
theorem mixI_len {k j : Nat} {xs : List Int} (h : j ≤ xs.length) : (mixI k j xs).length = xs.length := by unfold mixI; rw [List.length_append, marksI_len, List.length_drop]; omega
theorem mixI_set {k j : Nat} {xs : List Int} (h : j < xs.length) : (IntK.row (mixI k j xs)).set j (.int .i64 ((k : Int) + j)) = IntK.row (mixI k (j + 1) xs) := by
  rw [intK_row, intK_row, show (Value.int .i64 ((k : Int) + j)) = Value.int .i64 (((k + j : Nat) : Int)) by rw [Int.natCast_add], ← List.map_set]
  congr 1
  unfold mixI
  have hl := marksI_len k j
  rw [List.set_append_right _ _ (by omega), hl, Nat.sub_self, marksI, List.drop_eq_getElem_cons h, List.set_cons_zero]
  simp
theorem mixI_all {k n : Nat} {xs : List Int} (h : xs.length = n) : mixI k n xs = marksI k n := by
  unfold mixI; rw [List.drop_of_length_le (by omega), List.append_nil]
set_option maxHeartbeats 400000 in
theorem markIntS_any (lo hi : Nat) (A : Option Addr) (c k : Nat) (kk : Int) (hkk : kk = (k : Int)) (xs : List Int) (w : World) (h : Ow IntK 3 lo hi w A c xs) (hk : k ≤ 20000000) :
    Calls Try.prog 52 #[.slice A xs.length c, .int .i64 kk] w fun e w' => e = .returned (.int .i64 (kk + xs.length)) ∧ Ow IntK 3 lo hi w' A c (marksI k xs.length) ∧ Only lo hi w w' ∧ w.grownBy w' (Value.slice A xs.length c).ownBlock := by
  subst hkk
  obtain ⟨hown, hu, hn, hf⟩ := h
  obtain ⟨n, HN⟩ : ∃ n, Hid (xs.length = n) := ⟨_, rfl⟩
  have hown0 := hown
  rw [HN.out] at hown hn ⊢
  go_enter Try.func52, Try.ntmps52
  go_wp2
  go_loopw [1, 5] (fun u i wr => ∃ j : Nat, j ≤ n ∧ i = .int .i64 j ∧ u = .int .i64 ((k : Int) + j) ∧ wr.ownsRow lo 3 1 (.slice A n c) n (IntK.row (mixI k j xs)) ∧ w.grownBy wr (Value.slice A n c).ownBlock) (fun _ i _ => n - (intOf i).toNat)
  case atStart => exact ⟨0, Nat.zero_le _, rfl, by go_num, by rw [mixI_zero]; exact hown, World.grownBy.refl _ _⟩
  case round =>
    clear hown
    obtain ⟨j, hj, rfl, rfl, hown, hg⟩ := hrel
    by_cases hlt : j < n
    · obtain ⟨g, cap, hv, hbg, hgl⟩ := hown.form (by omega)
      obtain ⟨rfl, _, rfl⟩ : A = some ⟨g, 0, none⟩ ∧ n = n ∧ c = cap := by simpa using hv
      clear hv
      have i1 : (j : Int) < (n : Int) := by omega
      obtain ⟨u, hcu⟩ := own_cell hown (j := j) (by omega)
      have hfz := hown.frozenAt j
      have hst := hown.stored j (.int .i64 ((k : Int) + j))
      rw [mixI_set (by have := HN.out; omega)] at hst
      have HS := Lib.hid hst.1
      have HG1 := Lib.hid (grownBy_trans hg hst.2)
      clear hst hown hg hown0
      go_wp2
      go_roundw
      case rel => exact ⟨j + 1, hlt, by go_num, by go_num, HS.out, HG1.out⟩
      case measure => simp [intOf]; omega
    · obtain rfl : j = n := by omega
      rw [mixI_all HN.out] at hown
      have HO := Lib.hid hown
      have HG := Lib.hid hg
      clear hown hg
      go_wp2
      go_ret
      refine ⟨rfl, ⟨by rw [marksI_len]; exact HO.out, hu, by rw [marksI_len]; exact hn, fun _ _ => trivial⟩, Only.of_grown HG.out fun g hgg => ?_, HG.out⟩
      rw [← HN.out] at hgg
      have hl := hown0.lt g (by exact hgg)
      refine ⟨hl.1, ?_⟩
      cases A with
      | none => simp [Value.ownBlock] at hgg
      | some a =>
        have := hu a rfl
        simp [Value.ownBlock] at hgg
        omega
set_option maxHeartbeats 400000 in
theorem heldIntS_yes (A : Option Addr) (n c k B : Nat) (kk : Int) (hkk : kk = (k : Int)) (w : World) (h : Rd IntK B w A c (marksI k n)) (hk : k ≤ 20000000) :
    Calls Try.prog 54 #[.slice A n c, .int .i64 kk] w fun e w' => e = .returned (.int .i64 (kk + n)) ∧ w = w' := by
  subst hkk
  have ha := h.cells
  have hn := h.2.2.1
  rw [marksI_len] at hn
  clear h
  go_enter Try.func54, Try.ntmps54
  go_wp2
  go_loop [1, 5] (fun u i => ∃ j : Nat, j ≤ n ∧ i = .int .i64 j ∧ u = .int .i64 ((k : Int) + j)) (fun _ i => n - (intOf i).toNat)
  case atStart => exact ⟨0, Nat.zero_le _, rfl, by go_num⟩
  case round =>
    obtain ⟨j, hj, rfl, rfl⟩ := hrel
    by_cases hlt : j < n
    · obtain ⟨a, rfl, hca⟩ := int_at ha (i := j) (by rw [marksI_len]; exact hlt)
      rw [marksI_get k n j hlt, Int.natCast_add] at hca
      have i1 : (j : Int) < (n : Int) := by omega
      go_wp2
      go_round
      case rel => exact ⟨j + 1, hlt, by go_num, by go_num⟩
      case measure => simp [intOf]; omega
    · obtain rfl : j = n := by omega
      go_wp2
      go_ret
      exact ⟨rfl, rfl⟩
end Go.Proofs.Ytbpikbcnpmplfaa
