/- The laws' comparisons of lists of numbers and of floors. Conditions: the ranges named. -/
import Derived.Test.YtbpikbcnpmplfaaFlr
import Derived.Test.YtbpikbcnpmplfaaHas
import Derived.Test.YtbpikbcnpmplfaaSetc2
namespace Go.Proofs.Ytbpikbcnpmplfaa
open Go.RowKit
set_option linter.unusedVariables false
set_option linter.unusedSimpArgs false
theorem vBig_any (A : Option Addr) (n c : Nat) (w : World) : Calls Try.prog 16 #[.slice A n c] w fun e w' => e = .returned (.bool (decide (65536 < n))) ∧ Below w.heap.size w w' := by
  go_enter Try.func16, Try.ntmps16
  go_wp2
  go_ret
  exact ⟨ret_bool (by simp; try omega), Below.refl _ _⟩
theorem drew_exF {w : World} {m n : Nat} : ∃ k, (w.drewN m).drewN n = w.drewN k := ⟨m + n, World.drewN_drewN _ _ _⟩
set_option maxHeartbeats 1000000 in
theorem vInts_same {B B' : Nat} {A A' : Option Addr} {c c' : Nat} {xs : List Int} {w : World} (h : Rd IntK B w A c xs) (h' : Rd IntK B' w A' c' xs) :
    Calls Try.prog 20 #[.slice A xs.length c, .slice A' xs.length c'] w fun e w' => e = .returned (.bool true) ∧ Below w.heap.size w w' := by
  have ha := h.cells
  have hb := h'.cells
  have hn := h.2.2.1
  have hne : ((xs.length : Int) != (xs.length : Int)) = false := by simp
  clear h h'
  go_enter Try.func20, Try.ntmps20
  go_wp2
  go_loopw [5] (fun i wr => ∃ k : Nat, k ≤ xs.length ∧ i = .int .i64 k ∧ ∃ m, wr = w.drewN m) (fun i _ => xs.length - (intOf i).toNat)
  case atStart => exact ⟨0, Nat.zero_le _, rfl, 0, rfl⟩
  case round =>
    obtain ⟨k, hk, rfl, m, rfl⟩ := hrel
    by_cases hlt : k < xs.length
    · obtain ⟨a, rfl, hca⟩ := int_at ha hlt
      obtain ⟨b, rfl, hcb⟩ := int_at hb hlt
      have i1 : (k : Int) < (xs.length : Int) := by omega
      have ht : (xs[k] != xs[k]) = false := by simp
      go_wp2
      go_quiet (fail)
      go_wp2
      go_roundw
      case rel => exact ⟨k + 1, hlt, by go_num, by first | exact ⟨_, rfl⟩ | exact drew_exF⟩
      case measure => simp [intOf]; omega
    · obtain rfl : k = xs.length := by omega
      go_wp2
      go_ret
      exact ⟨rfl, below_drewN (Below.refl _ _) m⟩
theorem vHas_any (A : Option Addr) (c : Nat) (xs : List Int) (x : Int) (w : World) (ha : Cells w A (IntK.row xs)) (hm : xs.length ≤ 1048576) :
    Calls Try.prog 34 #[.slice A xs.length c, .int .i64 x] w fun e w' => e = .returned (.bool (hasB x xs)) ∧ w = w' := by
  go_enter Try.func34, Try.ntmps34
  go_wp2
  go_loop [5] (fun i => ∃ k : Nat, k ≤ xs.length ∧ i = .int .i64 k ∧ Hid (hasB x xs = hasB x (xs.drop k))) (fun i => xs.length - (intOf i).toNat)
  case atStart => exact ⟨0, Nat.zero_le _, rfl, rfl⟩
  case round =>
    obtain ⟨k, hk, rfl, hq⟩ := hrel
    by_cases hlt : k < xs.length
    · obtain ⟨a, rfl, hca⟩ := int_at ha hlt
      have i1 : (k : Int) < (xs.length : Int) := by omega
      by_cases hm : xs[k] = x
      · have ht : (xs[k] == x) = true := by simp [hm]
        have HA := Lib.hid (show hasB x xs = true by rw [hq.out, List.drop_eq_getElem_cons hlt, hasB_cons, hm]; simp)
        clear hm hq
        go_wp2
        go_ret
        exact ⟨ret_bool HA.out.symm, rfl⟩
      · have ht : (xs[k] == x) = false := by simp [hm]
        have HA := Lib.hid (show hasB x xs = hasB x (xs.drop (k + 1)) by rw [hq.out, List.drop_eq_getElem_cons hlt, hasB_cons, show (x == xs[k]) = false from by simp; exact fun e => hm e.symm]; rfl)
        clear hm hq
        go_wp2
        go_round
        case rel => exact ⟨k + 1, hlt, by go_num, HA.out⟩
        case measure => simp [intOf]; omega
    · obtain rfl : k = xs.length := by omega
      have HA := Lib.hid (show hasB x xs = false by rw [hq.out, List.drop_length]; rfl)
      go_wp2
      go_ret
      exact ⟨ret_bool HA.out.symm, rfl⟩
set_option maxHeartbeats 4000000 in
theorem vFloor_same {B B' : Nat} {A D A' D' : Option Addr} {c d c' d' : Nat} {f : Flr} {w : World} (h : RdF B w A c D d f) (h' : RdF B' w A' c' D' d' f) :
    Calls Try.prog 18 #[.agg #[.int .i64 f.t, .int .i64 f.s, .int .i64 f.sp, .slice A f.wt.length c, .slice D f.sh.length d], .agg #[.int .i64 f.t, .int .i64 f.s, .int .i64 f.sp, .slice A' f.wt.length c', .slice D' f.sh.length d']] w fun e w' => e = .returned (.bool true) ∧ Below w.heap.size w w' := by
  have hb := below2 w (.cells #[.int .i64 f.t, .int .i64 f.s, .int .i64 f.sp, .slice A f.wt.length c, .slice D f.sh.length d] 29) (.cells #[.int .i64 f.t, .int .i64 f.s, .int .i64 f.sp, .slice A' f.wt.length c', .slice D' f.sh.length d'] 29)
  have N0 := Lib.hid ((BoxF.new5 w (.int .i64 f.t) (.int .i64 f.s) (.int .i64 f.sp) (.slice A f.wt.length c) (.slice D f.sh.length d) 29 w.heap.size rfl).below (below1 (w.alloc (.cells #[.int .i64 f.t, .int .i64 f.s, .int .i64 f.sp, .slice A f.wt.length c, .slice D f.sh.length d] 29)) (.cells #[.int .i64 f.t, .int .i64 f.s, .int .i64 f.sp, .slice A' f.wt.length c', .slice D' f.sh.length d'] 29)) (by simp))
  have N1 := Lib.hid (BoxF.new5 (w.alloc (.cells #[.int .i64 f.t, .int .i64 f.s, .int .i64 f.sp, .slice A f.wt.length c, .slice D f.sh.length d] 29)) (.int .i64 f.t) (.int .i64 f.s) (.int .i64 f.sp) (.slice A' f.wt.length c') (.slice D' f.sh.length d') 29 (w.heap.size + 1) (by simp))
  have HX : Hid (∀ (X Y : Nat) (C C' : Option Addr) (e e' : Nat) (W : World), Rd IntK X W C e f.wt → Rd IntK Y W C' e' f.wt → Calls Try.prog 20 #[.slice C f.wt.length e, .slice C' f.wt.length e'] W fun e w' => e = .returned (.bool true) ∧ Below W.heap.size W w') := Lib.hid fun X Y C C' d d' W h1 h2 => vInts_same h1 h2
  have H1 := Lib.hid (Rd.below (show Rd IntK w.heap.size w A c f.wt from ⟨h.1.1, CellsB.of_cells h.1.cells, h.1.2.2⟩) hb (Nat.le_refl _))
  have H2 := Lib.hid (Rd.below (show Rd IntK w.heap.size w A' c' f.wt from ⟨h'.1.1, CellsB.of_cells h'.1.cells, h'.1.2.2⟩) hb (Nat.le_refl _))
  have H3 := Lib.hid (Rd.below (show Rd ShareK w.heap.size w D d f.sh from ⟨h.2.1, CellsB.of_cells h.2.cells, h.2.2.2⟩) hb (Nat.le_refl _))
  have H4 := Lib.hid (Rd.below (show Rd ShareK w.heap.size w D' d' f.sh from ⟨h'.2.1, CellsB.of_cells h'.2.cells, h'.2.2.2⟩) hb (Nat.le_refl _))
  have HB := Lib.hid hb
  have hz : w.heap.size + 2 ≤ ((w.alloc (.cells #[.int .i64 f.t, .int .i64 f.s, .int .i64 f.sp, .slice A f.wt.length c, .slice D f.sh.length d] 29)).alloc (.cells #[.int .i64 f.t, .int .i64 f.s, .int .i64 f.sp, .slice A' f.wt.length c', .slice D' f.sh.length d'] 29)).heap.size := by simp
  have k1 : (f.t != f.t) = false := by simp
  have k2 : (f.s != f.s) = false := by simp
  have k3 : (f.sp != f.sp) = false := by simp
  have k4 : ((f.sh.length : Int) != (f.sh.length : Int)) = false := by simp
  clear h h' hb
  go_enter Try.func18, Try.ntmps18
  go_upto_region 1 with fail
  generalize ((w.alloc (.cells #[.int .i64 f.t, .int .i64 f.s, .int .i64 f.sp, .slice A f.wt.length c, .slice D f.sh.length d] 29)).alloc (.cells #[.int .i64 f.t, .int .i64 f.s, .int .i64 f.sp, .slice A' f.wt.length c', .slice D' f.sh.length d'] 29)) = W at *
  have e0 := N0.out.1 0 _ rfl
  have e1 := N0.out.1 1 _ rfl
  have e2 := N0.out.1 2 _ rfl
  have e3 := N0.out.1 3 _ rfl
  have e4 := N0.out.1 4 _ rfl
  have g0 := N1.out.1 0 _ rfl
  have g1 := N1.out.1 1 _ rfl
  have g2 := N1.out.1 2 _ rfl
  have g3 := N1.out.1 3 _ rfl
  have g4 := N1.out.1 4 _ rfl
  go_wp2_with fail
  refine (HX.out _ _ _ _ _ _ _ H1.out H2.out).mono ?_
  rintro e w1 ⟨rfl, hb⟩
  replace N0 := Lib.hid (N0.out.below hb (by omega))
  replace N1 := Lib.hid (N1.out.below hb (by omega))
  replace H3 := Lib.hid (H3.out.below hb (by omega))
  replace H4 := Lib.hid (H4.out.below hb (by omega))
  replace HB := Lib.hid (HB.out.trans (hb.mono (by omega)))
  clear hb e0 e1 e2 e3 e4 g0 g1 g2 g3 g4 hz H1 H2 HX
  have e4 := N0.out.1 4 _ rfl
  have g4 := N1.out.1 4 _ rfl
  go_wp2
  go_loopw [5] (fun i wr => ∃ k : Nat, k ≤ f.sh.length ∧ i = .int .i64 k ∧ ∃ m, wr = w1.drewN m) (fun i _ => f.sh.length - (intOf i).toNat)
  case atStart => exact ⟨0, Nat.zero_le _, rfl, 0, rfl⟩
  case round =>
    obtain ⟨k, hk, rfl, m, rfl⟩ := hrel
    have hn := H3.out.2.2.1
    by_cases hlt : k < f.sh.length
    · obtain ⟨a, rfl, hc0, hc1, hc2⟩ := share_at H3.out.cells hlt
      obtain ⟨b, rfl, hd0, hd1, hd2⟩ := share_at H4.out.cells hlt
      have i1 : (k : Int) < (f.sh.length : Int) := by omega
      obtain ⟨x, hx⟩ : ∃ x, f.sh[k] = x := ⟨_, rfl⟩
      rw [hx] at hc0 hc1 hc2 hd0 hd1 hd2
      clear hx
      go_wp2
      go_quiet (fail)
      go_wp2
      go_roundw
      case rel => exact ⟨k + 1, hlt, by go_num, by first | exact ⟨_, rfl⟩ | exact drew_exF⟩
      case measure => simp [intOf]; omega
    · obtain rfl : k = f.sh.length := by omega
      go_wp2
      go_ret
      exact ⟨rfl, below_drewN HB.out m⟩
end Go.Proofs.Ytbpikbcnpmplfaa
