/- Whether a floor is valid, in the program and in the reference. Conditions: the ranges named. -/
import Derived.Test.YtbpikbcnpmplfaaFlA
import Derived.Test.YtbpikbcnpmplfaaHas
namespace Go.Proofs.Ytbpikbcnpmplfaa
open Go.RowKit
set_option linter.unusedVariables false

theorem fld_t (a b c : Int) (w : World) : (Instr.field 43 (.agg #[.int .i64 a, .int .i64 b, .int .i64 c]) 1).run Try.prog w = .ok (.int .i64 b) w := by kernel_rfl
theorem fld_s (a b c : Int) (w : World) : (Instr.field 43 (.agg #[.int .i64 a, .int .i64 b, .int .i64 c]) 2).run Try.prog w = .ok (.int .i64 c) w := by kernel_rfl
theorem cell_alloc {w : World} {p : Addr} {v : Value} (h : w.cell? p = some v) (o : Obj) : (w.alloc o).cell? p = some v := (World.cell?_alloc_lt w o p (World.block_lt_of_cell? _ _ h)).trans h
theorem bmono {w W : World} {o : Obj} (h : Below (w.alloc o).heap.size (w.alloc o) W) : Below w.heap.size w W := ((Below.refl _ _).alloc (Nat.le_refl _) _).trans (h.mono (by simp))
/-- Share i is valid, and its member is greater than the one before. -/
def okSh (f : Flr) (i : Nat) : Bool := memB (f.sh.getD i ⟨0, 0, 0⟩).m && inB (f.sh.getD i ⟨0, 0, 0⟩).t 0 f.t && inB (f.sh.getD i ⟨0, 0, 0⟩).s 0 f.s && (i == 0 || decide ((f.sh.getD (i - 1) ⟨0, 0, 0⟩).m < (f.sh.getD i ⟨0, 0, 0⟩).m))
theorem getD_lt {α : Type} {xs : List α} {i : Nat} (h : i < xs.length) (z : α) : xs.getD i z = xs[i] := by rw [List.getD_eq_getElem?_getD, List.getElem?_eq_getElem h]; rfl
theorem okSh_eq {f : Flr} {i : Nat} (h : i < f.sh.length) : okSh f i = (memB f.sh[i].m && inB f.sh[i].t 0 f.t && inB f.sh[i].s 0 f.s && (i == 0 || decide ((f.sh[i - 1]'(by omega)).m < f.sh[i].m))) := by
  unfold okSh
  rw [getD_lt h, getD_lt (show i - 1 < f.sh.length by omega)]
/-- Member i of those that wait may wait. -/
def okWt (f : Flr) (i : Nat) : Bool := memB (f.wt.getD i 0) && !(f.wt.getD i 0 == f.sp) && !hasB (f.wt.getD i 0) (f.wt.take i) && entB f (f.wt.getD i 0)
theorem okWt_eq {f : Flr} {i : Nat} (h : i < f.wt.length) : okWt f i = (memB f.wt[i] && !(f.wt[i] == f.sp) && !hasB f.wt[i] (f.wt.take i) && entB f f.wt[i]) := by
  unfold okWt
  rw [getD_lt h]
def shsB (f : Flr) : Bool := allN (okSh f) f.sh.length
def wtsB (f : Flr) : Bool := allN (okWt f) f.wt.length
/-- A floor is valid. -/
def vldF (f : Flr) : Bool := inB f.t 1 3 && inB f.s 1 3600 && (f.sp == 0 || memB f.sp) && decide (f.wt.length ≤ 10) && shsB f && wtsB f && (f.sp == 0 || decide ((shOf f.sp f.sh).t < f.t))

set_option maxHeartbeats 2000000 in
set_option maxRecDepth 100000 in
theorem l8Shares_any (A D : Option Addr) (c d : Nat) (f : Flr) (w : World) (hd : Cells w D (ShareK.row f.sh)) (hn : f.sh.length ≤ 1048576) :
    Calls Try.prog 80 #[.agg #[.int .i64 f.t, .int .i64 f.s, .int .i64 f.sp, .slice A f.wt.length c, .slice D f.sh.length d]] w fun e w' => e = .returned (.bool (shsB f)) ∧ Below w.heap.size w w' := by
  go_enter Try.func80, Try.ntmps80
  go_wp2
  go_loopw [3] (fun i wr => ∃ k : Nat, k ≤ f.sh.length ∧ i = .int .i64 k ∧ Hid (allN (okSh f) k = true) ∧ Below (w.alloc (.cells #[.int .i64 f.t, .int .i64 f.s, .int .i64 f.sp, .slice A f.wt.length c, .slice D f.sh.length d] 29)).heap.size (w.alloc (.cells #[.int .i64 f.t, .int .i64 f.s, .int .i64 f.sp, .slice A f.wt.length c, .slice D f.sh.length d] 29)) wr) (fun i _ => f.sh.length - (intOf i).toNat)
  case atStart => exact ⟨0, Nat.zero_le _, rfl, rfl, Below.refl _ _⟩
  case round =>
    obtain ⟨k, hk, rfl, hq, hB⟩ := hrel
    have e0 := fun o => hB.cell (p := ⟨w.heap.size, o, none⟩) (by simp)
    have hz : w.heap.size < wr.heap.size := by have := hB.size; simp at this; omega
    have HB := Lib.hid hB
    by_cases hlt : k < f.sh.length
    · obtain ⟨a, rfl, hc0, hc1, hc2⟩ := share_at (hd.below (bmono HB.out)) hlt
      have i1 : (k : Int) < (f.sh.length : Int) := by omega
      have HK := Lib.hid (okSh_eq hlt)
      obtain ⟨x, hx⟩ : ∃ x, Hid (f.sh[k] = x) := ⟨_, Lib.hid rfl⟩
      rw [hx.out] at hc0 hc1 hc2 HK
      clear hB
      rcases Bool.eq_false_or_eq_true (memB x.m) with hm | hm
      · rcases Bool.eq_false_or_eq_true (inB x.t 0 f.t) with ht | ht
        · rcases Bool.eq_false_or_eq_true (inB x.s 0 f.s) with hs | hs
          · by_cases hk0 : k = 0
            · have q6 : (k == 0) = true := by simp [hk0]
              have HA := Lib.hid (allN_step hq.out (show okSh f k = true by rw [HK.out, hm, ht, hs, q6]; rfl))
              have q5 : decide (0 < k) = false := decide_eq_false (by omega)
              clear hq HK hk0 q6
              go_wp2
              go_quiet ((first | (go_at_call 76; first | exact quiet_left (l7Member_any _ _) | exact quiet_add_left (l7Member_any _ _)) | (go_at_call 56; first | exact quiet_left (l1In_any _ _ _ _) | exact quiet_add_left (l1In_any _ _ _ _))))
              go_wp2
              go_roundw
              case rel => exact ⟨k + 1, by omega, by go_num, HA.out, by first | (have hbm := HB.out; go_grown; done) | (refine below_drewN ?_ _; have hbm := HB.out; go_grown)⟩
              case measure => simp [intOf]; omega
            · have hk1 : 0 < k := by omega
              obtain ⟨a', ha', hp0, hp1, hp2⟩ := share_at (hd.below (bmono HB.out)) (show k - 1 < f.sh.length by omega)
              obtain rfl : a' = a := by simpa using ha'.symm
              have q1 : IntKind.i64.wrap ((k : Int) - 1) = (k : Int) - 1 := by rw [IntKind.wrap_i64]; omega
              have q2 : ((k : Int) - 1).toNat = k - 1 := by omega
              have q3 : (0 : Int) ≤ (k : Int) - 1 := by omega
              have q4 : (k : Int) - 1 < (f.sh.length : Int) := by omega
              have q5 : decide (0 < k) = true := decide_eq_true (by omega)
              have q7 : (1 : Int) ≤ (k : Int) := by omega
              have q8 : (k : Int) ≤ (f.sh.length : Int) := by omega
              have q6 : (k == 0) = false := by simp; omega
              obtain ⟨y, hy⟩ : ∃ y, Hid (f.sh[k - 1] = y) := ⟨_, Lib.hid rfl⟩
              rw [hy.out] at hp0 HK
              have hp3 := cell_alloc hp0 (.cells #[.int .i64 x.m, .int .i64 x.t, .int .i64 x.s] 43)
              clear hp0 hp1 hp2 ha' hk0
              by_cases hlt2 : y.m < x.m
              · have hg : decide (x.m ≤ y.m) = false := decide_eq_false (by omega)
                have HA := Lib.hid (allN_step hq.out (show okSh f k = true by rw [HK.out, hm, ht, hs, q6, decide_eq_true hlt2]; rfl))
                clear hq HK q6 hlt2
                go_wp2
                go_quiet ((first | (go_at_call 76; first | exact quiet_left (l7Member_any _ _) | exact quiet_add_left (l7Member_any _ _)) | (go_at_call 56; first | exact quiet_left (l1In_any _ _ _ _) | exact quiet_add_left (l1In_any _ _ _ _))))
                clear hy q1
                go_wp2
                go_roundw
                case rel => exact ⟨k + 1, by omega, by go_num, HA.out, by first | (have hbm := HB.out; go_grown; done) | (refine below_drewN ?_ _; have hbm := HB.out; go_grown)⟩
                case measure => simp [intOf]; omega
              · have hg : decide (x.m ≤ y.m) = true := decide_eq_true (by omega)
                have HF := Lib.hid (show shsB f = false from allN_no hlt (show okSh f k = false by rw [HK.out, hm, ht, hs, q6, decide_eq_false hlt2]; simp))
                clear hq HK q6 hlt2
                go_wp2
                go_quiet ((first | (go_at_call 76; first | exact quiet_left (l7Member_any _ _) | exact quiet_add_left (l7Member_any _ _)) | (go_at_call 56; first | exact quiet_left (l1In_any _ _ _ _) | exact quiet_add_left (l1In_any _ _ _ _))))
                clear hy q1
                go_wp2
                go_ret
                exact ⟨ret_bool HF.out.symm, by first | (have hbm := bmono HB.out; go_grown; done) | (refine below_drewN ?_ _; have hbm := bmono HB.out; go_grown)⟩
          · have HF := Lib.hid (show shsB f = false from allN_no hlt (show okSh f k = false by rw [HK.out, hm, ht, hs]; simp))
            clear hq HK
            go_wp2
            go_quiet ((first | (go_at_call 76; first | exact quiet_left (l7Member_any _ _) | exact quiet_add_left (l7Member_any _ _)) | (go_at_call 56; first | exact quiet_left (l1In_any _ _ _ _) | exact quiet_add_left (l1In_any _ _ _ _))))
            go_wp2
            go_ret
            exact ⟨ret_bool HF.out.symm, by first | (have hbm := bmono HB.out; go_grown; done) | (refine below_drewN ?_ _; have hbm := bmono HB.out; go_grown)⟩
        · have HF := Lib.hid (show shsB f = false from allN_no hlt (show okSh f k = false by rw [HK.out, hm, ht]; simp))
          clear hq HK
          go_wp2
          go_quiet ((first | (go_at_call 76; first | exact quiet_left (l7Member_any _ _) | exact quiet_add_left (l7Member_any _ _)) | (go_at_call 56; first | exact quiet_left (l1In_any _ _ _ _) | exact quiet_add_left (l1In_any _ _ _ _))))
          go_wp2
          go_ret
          exact ⟨ret_bool HF.out.symm, by first | (have hbm := bmono HB.out; go_grown; done) | (refine below_drewN ?_ _; have hbm := bmono HB.out; go_grown)⟩
      · have HF := Lib.hid (show shsB f = false from allN_no hlt (show okSh f k = false by rw [HK.out, hm]; simp))
        clear hq HK
        go_wp2
        go_quiet ((first | (go_at_call 76; first | exact quiet_left (l7Member_any _ _) | exact quiet_add_left (l7Member_any _ _)) | (go_at_call 56; first | exact quiet_left (l1In_any _ _ _ _) | exact quiet_add_left (l1In_any _ _ _ _))))
        go_wp2
        go_ret
        exact ⟨ret_bool HF.out.symm, by first | (have hbm := bmono HB.out; go_grown; done) | (refine below_drewN ?_ _; have hbm := bmono HB.out; go_grown)⟩
    · obtain rfl : k = f.sh.length := by omega
      have HA : Hid (shsB f = true) := hq
      clear hB
      go_wp2
      go_ret
      exact ⟨ret_bool HA.out.symm, by first | (have hbm := bmono HB.out; go_grown; done) | (refine below_drewN ?_ _; have hbm := bmono HB.out; go_grown)⟩
theorem cells_take {w : World} {A : Option Addr} {xs : List Int} {n : Nat} (h : Cells w A (IntK.row xs)) : Cells w A (IntK.row (xs.take n)) := fun i u hu => by
  rw [intK_row, List.map_take, List.getElem?_take] at hu
  split at hu
  · exact h i u (by rw [intK_row]; exact hu)
  · cases hu
theorem l7_no (x : Int) (w : World) (h : memB x = false) : Calls Try.prog 76 #[.int .i64 x] w fun e w' => e = .returned (.bool false) ∧ w = w' := by rw [← h]; exact l7Member_any x w
theorem vldF_wt {f : Flr} (h : wtsB f = false) : vldF f = false := by unfold vldF; rw [h]; simp
theorem vldF_sh {f : Flr} (h : shsB f = false) : vldF f = false := by unfold vldF; rw [h]; simp
end Go.Proofs.Ytbpikbcnpmplfaa
