/- cmp.Compare at int, and the comparison of two members by their turns. Conditions: the ranges named. -/
import Derived.Test.YtbpikbcnpmplfaaSo1
import Derived.Test.YtbpikbcnpmplfaaFlA
import Derived.Test.YtbpikbcnpmplfaaLv5
import Derived.Test.YtbpikbcnpmplfaaFlB
namespace Go.Proofs.Ytbpikbcnpmplfaa
open Go.RowKit
set_option linter.unusedVariables false
set_option linter.unusedSimpArgs false
attribute [local go_sem ↓] Go.wp_at_zero Go.wp_at_succ
/-- What cmp.Compare gives. -/
def cmpI (a b : Int) : Int := if a < b then -1 else if b < a then 1 else 0
theorem cmpI_neg {a b : Int} : decide (cmpI a b < 0) = decide (a < b) := by
  unfold cmpI
  by_cases h : a < b
  · rw [if_pos h, decide_eq_true h]; rfl
  · rw [if_neg h, decide_eq_false h]
    split <;> rfl
theorem isNaN_any (x : Int) (w : World) : Calls Try.prog 98 #[.int .i64 x] w fun e w' => e = .returned (.bool false) ∧ w = w' := by
  go_enter Try.func98, Try.ntmps98
  go_wp2
  go_ret
  exact ⟨by simp, rfl⟩
theorem cmpInt_any (a b : Int) (w : World) : Calls Try.prog 90 #[.int .i64 a, .int .i64 b] w fun e w' => e = .returned (.int .i64 (cmpI a b)) ∧ w = w' := by
  have HC := Lib.hid (show cmpI a b = if a < b then -1 else if b < a then 1 else 0 from rfl)
  go_enter Try.func90, Try.ntmps90
  by_cases h1 : a < b
  · rw [if_pos h1] at HC
    go_wp2_with (go_at_call 98; refine (isNaN_any _ _).mono ?_; rintro e w1 ⟨rfl, rfl⟩)
    go_ret
    exact ⟨ret_int HC.out.symm, rfl⟩
  · rw [if_neg h1] at HC
    by_cases h2 : b < a
    · rw [if_pos h2] at HC
      go_wp2_with (go_at_call 98; refine (isNaN_any _ _).mono ?_; rintro e w1 ⟨rfl, rfl⟩)
      go_ret
      exact ⟨ret_int HC.out.symm, rfl⟩
    · rw [if_neg h2] at HC
      go_wp2_with (go_at_call 98; refine (isNaN_any _ _).mono ?_; rintro e w1 ⟨rfl, rfl⟩)
      go_ret
      exact ⟨ret_int HC.out.symm, rfl⟩
/-- The box of a floor. -/
def FBox (w : World) (b : Nat) (A D : Option Addr) (c d : Nat) (f : Flr) : Prop := BoxF w b [.int .i64 f.t, .int .i64 f.s, .int .i64 f.sp, .slice A f.wt.length c, .slice D f.sh.length d]
set_option maxHeartbeats 2000000 in
set_option maxRecDepth 100000 in
theorem cmpShare_any (A D : Option Addr) (c d q : Nat) (f : Flr) (a b : Int) (w : World) (hd : Cells w D (ShareK.row f.sh)) (hn : f.sh.length ≤ 1048576) (hq : FBox w q A D c d f) (hql : q < w.heap.size) :
    Calls Try.prog 89 #[.int .i64 a, .int .i64 b, .pointer (some ⟨q, 0, none⟩)] w fun e w' => e = .returned (.int .i64 (cmpI (shOf a f.sh).t (shOf b f.sh).t)) ∧ Below w.heap.size w w' := by
  have HD := Lib.hid hd
  have HQ := Lib.hid hq
  have hfl := fld_t
  have e0 : ∀ w', Below w.heap.size w w' → w'.cell? ⟨q, 0, none⟩ = some (.int .i64 f.t) := fun w' h => (HQ.out.below h hql).1 0 _ rfl
  have e1 : ∀ w', Below w.heap.size w w' → w'.cell? ⟨q, 1, none⟩ = some (.int .i64 f.s) := fun w' h => (HQ.out.below h hql).1 1 _ rfl
  have e2 : ∀ w', Below w.heap.size w w' → w'.cell? ⟨q, 2, none⟩ = some (.int .i64 f.sp) := fun w' h => (HQ.out.below h hql).1 2 _ rfl
  have e3 : ∀ w', Below w.heap.size w w' → w'.cell? ⟨q, 3, none⟩ = some (.slice A f.wt.length c) := fun w' h => (HQ.out.below h hql).1 3 _ rfl
  have e4 : ∀ w', Below w.heap.size w w' → w'.cell? ⟨q, 4, none⟩ = some (.slice D f.sh.length d) := fun w' h => (HQ.out.below h hql).1 4 _ rfl
  clear hq hd
  go_enter Try.func89, Try.ntmps89
  go_wp2
  refine wp_region_noPanic ?_
  refine wp_region_held_drew (S := (fun w' => Below w.heap.size w w')) (by kernel_rfl) ?_ (fun hHeld => ?_)
  · ((try dsimp only); exact (Below.refl _ _).drew)
  refine take_yes (i := 0) (d := 6) (v := .agg #[.int .i64 f.t, .int .i64 f.s, .int .i64 f.sp, .slice A f.wt.length c, .slice D f.sh.length d]) rfl rfl (by kernel_rfl) (by kernel_rfl) (by kernel_rfl) (fun _ _ _ h => h) (by kernel_rfl) ?_ hHeld ?_
  · (intro w hSw; (try dsimp only at hSw); (have c0 := e0 w hSw; have c1 := e1 w hSw; have c2 := e2 w hSw; have c3 := e3 w hSw; have c4 := e4 w hSw; go_simp); try (with_reducible rfl))
  try simp only [Act.put, List.setIfInBounds_toArray, List.set_cons_zero, List.set_cons_succ]
  refine take_yes (i := 1) (d := 7) (v := ?_) rfl rfl (by kernel_rfl) (by kernel_rfl) (by kernel_rfl) (fun _ _ _ h => h) (by kernel_rfl) ?_ hHeld ?_
  rotate_left
  · (intro w hSw; (try dsimp only at hSw); go_simp; try (with_reducible rfl))
  try simp only [Act.put, List.setIfInBounds_toArray, List.set_cons_zero, List.set_cons_succ]
  refine take_yes (i := 4) (d := 10) (v := .agg #[.int .i64 f.t, .int .i64 f.s, .int .i64 f.sp, .slice A f.wt.length c, .slice D f.sh.length d]) rfl rfl (by kernel_rfl) (by kernel_rfl) (by kernel_rfl) (fun _ _ _ h => h) (by kernel_rfl) ?_ hHeld ?_
  · (intro w hSw; (try dsimp only at hSw); (have c0 := e0 w hSw; have c1 := e1 w hSw; have c2 := e2 w hSw; have c3 := e3 w hSw; have c4 := e4 w hSw; go_simp); try (with_reducible rfl))
  try simp only [Act.put, List.setIfInBounds_toArray, List.set_cons_zero, List.set_cons_succ]
  refine take_yes (i := 5) (d := 11) (v := ?_) rfl rfl (by kernel_rfl) (by kernel_rfl) (by kernel_rfl) (fun _ _ _ h => h) (by kernel_rfl) ?_ hHeld ?_
  rotate_left
  · (intro w hSw; (try dsimp only at hSw); go_simp; try (with_reducible rfl))
  try simp only [Act.put, List.setIfInBounds_toArray, List.set_cons_zero, List.set_cons_succ]
  refine wpAnyH_ready (rs := [2]) (by kernel_rfl) (by simp) ?_
  refine AllReadyH.cons rfl (fun K hK => ?_) AllReadyH.nil
  go_simp
  refine (shareOf_any A D c d f a _ (HD.out.below hHeld) hn).mono ?_
  rintro e w1 ⟨rfl, hb⟩
  have HBk := Lib.hid (after hHeld hb)
  clear hb
  (first | refine hK.out _ _ ?_ (fun hHeld1 => ?_) | (go_wp2_with fail; refine hK.out _ _ ?_ (fun hHeld1 => ?_)))
  · ((try dsimp only); exact HBk.out)
  clear hK K hHeld
  have hHeld := hHeld1
  clear hHeld1
  try simp only [Act.put, List.setIfInBounds_toArray, List.set_cons_zero, List.set_cons_succ]
  clear HBk
  refine take_yes (i := 3) (d := 9) (v := ?_) rfl rfl (by kernel_rfl) (by kernel_rfl) (by kernel_rfl) (fun _ _ _ h => h) (by kernel_rfl) ?_ hHeld ?_
  rotate_left
  · (intro w hSw; (try dsimp only at hSw); go_simp; try (with_reducible rfl))
  try simp only [Act.put, List.setIfInBounds_toArray, List.set_cons_zero, List.set_cons_succ]
  refine wpAnyH_ready (rs := [6]) (by kernel_rfl) (by simp) ?_
  refine AllReadyH.cons rfl (fun K hK => ?_) (AllReadyH.nil)
  go_simp
  refine (shareOf_any A D c d f b _ (HD.out.below hHeld) hn).mono ?_
  rintro e w1 ⟨rfl, hb⟩
  have HBk := Lib.hid (after hHeld hb)
  clear hb
  (first | refine hK.out _ _ ?_ (fun hHeld1 => ?_) | (go_wp2_with fail; refine hK.out _ _ ?_ (fun hHeld1 => ?_)))
  · ((try dsimp only); exact HBk.out)
  clear hK K hHeld
  have hHeld := hHeld1
  clear hHeld1
  try simp only [Act.put, List.setIfInBounds_toArray, List.set_cons_zero, List.set_cons_succ]
  clear HBk
  refine take_yes (i := 7) (d := 13) (v := ?_) rfl rfl (by kernel_rfl) (by kernel_rfl) (by kernel_rfl) (fun _ _ _ h => h) (by kernel_rfl) ?_ hHeld ?_
  rotate_left
  · (intro w hSw; (try dsimp only at hSw); go_simp; try (with_reducible rfl))
  try simp only [Act.put, List.setIfInBounds_toArray, List.set_cons_zero, List.set_cons_succ]
  refine wpAnyH_ready (rs := [8]) (by kernel_rfl) (by simp) ?_
  refine AllReadyH.cons rfl (fun K hK => ?_) (AllReadyH.nil)
  go_simp
  refine (cmpInt_any _ _ _).mono ?_
  rintro e w1 ⟨rfl, hw1⟩
  subst hw1
  (first | refine hK.out _ _ ?_ (fun hHeld1 => ?_) | (go_wp2_with fail; refine hK.out _ _ ?_ (fun hHeld1 => ?_)))
  · ((try dsimp only); exact hHeld)
  clear hK K hHeld
  have hHeld := hHeld1
  clear hHeld1
  try simp only [Act.put, List.setIfInBounds_toArray, List.set_cons_zero, List.set_cons_succ]
  refine take_yes (i := 9) (d := 5) (v := ?_) rfl rfl (by kernel_rfl) (by kernel_rfl) (by kernel_rfl) (fun _ _ _ h => h) (by kernel_rfl) ?_ hHeld ?_
  rotate_left
  · (intro w hSw; (try dsimp only at hSw); go_simp; try (with_reducible rfl))
  try simp only [Act.put, List.setIfInBounds_toArray, List.set_cons_zero, List.set_cons_succ]
  refine wpAnyH_done (by kernel_rfl) ?_ _
  refine NoPanic.normal ?_
  have HF := Lib.hid hHeld
  clear hHeld
  go_wp2
  go_ret
  exact ⟨rfl, HF.out⟩
end Go.Proofs.Ytbpikbcnpmplfaa
