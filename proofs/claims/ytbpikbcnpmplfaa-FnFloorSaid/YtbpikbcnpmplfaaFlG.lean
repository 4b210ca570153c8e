/- How many seconds a member has left; new floors. Conditions: the ranges named. -/
import Derived.Test.YtbpikbcnpmplfaaFlX
namespace Go.Proofs.Ytbpikbcnpmplfaa
open Go.RowKit
set_option linter.unusedVariables false

theorem vldF_parts {f : Flr} (h : vldF f = true) : inB f.t 1 3 = true ∧ inB f.s 1 3600 = true ∧ (f.sp == 0 || memB f.sp) = true ∧ f.wt.length ≤ 10 ∧ shsB f = true ∧ wtsB f = true ∧ (f.sp == 0 || decide ((shOf f.sp f.sh).t < f.t)) = true := by
  unfold vldF at h
  simp only [Bool.and_eq_true] at h
  exact ⟨h.1.1.1.1.1.1, h.1.1.1.1.1.2, h.1.1.1.1.2, of_decide_eq_true h.1.1.1.2, h.1.1.2, h.1.2, h.2⟩
theorem shOf_mem (m : Int) (sh : List Shr) : shOf m sh = ⟨m, 0, 0⟩ ∨ (shOf m sh ∈ sh ∧ (shOf m sh).m = m) := by
  induction sh with
  | nil => exact .inl rfl
  | cons x sh ih =>
    by_cases h : x.m = m
    · rw [shOf, if_pos h]; exact .inr ⟨by simp, h⟩
    · rw [shOf, if_neg h]
      rcases ih with h1 | ⟨h1, h2⟩
      · exact .inl h1
      · exact .inr ⟨List.mem_cons_of_mem _ h1, h2⟩
theorem shsB_at {f : Flr} (h : shsB f = true) {x : Shr} (hx : x ∈ f.sh) : memB x.m = true ∧ 0 ≤ x.t ∧ x.t ≤ f.t ∧ 0 ≤ x.s ∧ x.s ≤ f.s := by
  obtain ⟨i, hi, rfl⟩ := List.getElem_of_mem hx
  have h1 := allN_yes.1 h i hi
  rw [okSh_eq hi] at h1
  simp only [Bool.and_eq_true] at h1
  have h2 := inB_iff.1 h1.1.1.2
  have h3 := inB_iff.1 h1.1.2
  exact ⟨h1.1.1.1, h2.1, h2.2, h3.1, h3.2⟩
theorem shOf_bd {f : Flr} (h : vldF f = true) (m : Int) : 0 ≤ (shOf m f.sh).t ∧ (shOf m f.sh).t ≤ f.t ∧ 0 ≤ (shOf m f.sh).s ∧ (shOf m f.sh).s ≤ f.s ∧ 1 ≤ f.t ∧ f.t ≤ 3 ∧ 1 ≤ f.s ∧ f.s ≤ 3600 := by
  obtain ⟨h1, h2, _, _, h5, _⟩ := vldF_parts h
  have h3 := inB_iff.1 h1
  have h4 := inB_iff.1 h2
  rcases shOf_mem m f.sh with h6 | ⟨h6, _⟩
  · rw [h6]; simp; omega
  · have := shsB_at h5 h6; omega
def slS (f : Flr) (m : Int) : Bool := vldF f && memB m
/-- The seconds left. -/
def slI (f : Flr) (m : Int) : Int := if slS f m then f.s - (shOf m f.sh).s else 0
set_option maxHeartbeats 1000000 in
theorem SecondsLeft_any (A D : Option Addr) (c d : Nat) (f : Flr) (m : Int) (w : World) (ha : Cells w A (IntK.row f.wt)) (hm0 : f.wt.length ≤ 1048576) (hcc : f.wt.length ≤ c) (hd : Cells w D (ShareK.row f.sh)) (hn : f.sh.length ≤ 1048576) :
    Calls Try.prog 28 #[.agg #[.int .i64 f.t, .int .i64 f.s, .int .i64 f.sp, .slice A f.wt.length c, .slice D f.sh.length d], .int .i64 m] w fun e w' => e = .returned (.tuple #[.int .i64 (slI f m), .bool (slS f m)]) ∧ Below w.heap.size w w' := by
  have HA := Lib.hid ha
  have HD := Lib.hid hd
  clear ha hd
  rcases Bool.eq_false_or_eq_true (vldF f) with hv | hv
  · rcases Bool.eq_false_or_eq_true (memB m) with hm | hm
    · obtain ⟨b1, b2, b3, b4, b5, b6, b7, b8⟩ := shOf_bd hv m
      obtain ⟨S, hS⟩ : ∃ S, Hid (shOf m f.sh = S) := ⟨_, Lib.hid rfl⟩
      rw [hS.out] at b1 b2 b3 b4
      have HS := Lib.hid (show slS f m = true by unfold slS; rw [hv, hm]; rfl)
      have HI := Lib.hid (show slI f m = f.s - S.s by unfold slI; rw [HS.out, hS.out]; rfl)
      have q0 : IntKind.i64.wrap (f.s - S.s) = f.s - S.s := by rw [IntKind.wrap_i64]; omega
      go_enter Try.func28, Try.ntmps28
      go_wp2_with fail
      refine (IsValidFloor_any A D c d f _ (HA.out.alloc_ _) hm0 hcc (HD.out.alloc_ _) hn).mono ?_
      rintro e wr ⟨rfl, hb⟩
      rw [hv]
      have HB := Lib.hid hb
      have e0 := fun o => hb.cell (p := ⟨w.heap.size, o, none⟩) (by simp)
      have hz : w.heap.size < wr.heap.size := by have := hb.size; simp at this; omega
      have hfl := fld_s
      clear hb
      go_wp2_with (go_at_call 63; refine (isMember_any _ _).mono ?_; rintro e w' ⟨rfl, rfl⟩)
      go_region_held3 (fun w' => Below wr.heap.size wr w' ∧ (∀ b o, b < wr.heap.size → w'.cell? ⟨b, o, none⟩ = wr.cell? ⟨b, o, none⟩))
        ((first | (refine mkS ?_; assumption) | (refine drewS ?_; assumption) | (refine mkS ?_; go_grown)))
        (first | (go_at_call 61; refine (shareOf_any A D c d f m _ ((HD.out.below (bmono HB.out)).below (S1 (by assumption))) hn).mono ?_; rintro e w1 ⟨rfl, hb⟩; rw [hS.out]; obtain ⟨hB1, hzz⟩ := callS (by assumption) (Nat.le_refl _) hb; have HB1 := Lib.hid hB1; clear hb))
      go_wp2
      go_ret2
      exact ⟨by rw [HS.out, HI.out]; rfl, by have := (bmono HB.out).trans (HB1.out.mono (by omega)); go_grown⟩
    · have HS := Lib.hid (show slS f m = false by unfold slS; rw [hv, hm]; rfl)
      have HI := Lib.hid (show slI f m = 0 by unfold slI; rw [HS.out]; rfl)
      go_enter Try.func28, Try.ntmps28
      go_wp2_with fail
      refine (IsValidFloor_any A D c d f _ (HA.out.alloc_ _) hm0 hcc (HD.out.alloc_ _) hn).mono ?_
      rintro e wr ⟨rfl, hb⟩
      rw [hv]
      have HB := Lib.hid hb
      clear hb
      go_wp2_with (go_at_call 63; refine (isMember_any _ _).mono ?_; rintro e w' ⟨rfl, rfl⟩)
      go_ret2
      exact ⟨by rw [HS.out, HI.out]; rfl, by have := bmono HB.out; go_grown⟩
  · have HS := Lib.hid (show slS f m = false by unfold slS; rw [hv]; rfl)
    have HI := Lib.hid (show slI f m = 0 by unfold slI; rw [HS.out]; rfl)
    go_enter Try.func28, Try.ntmps28
    go_wp2_with fail
    refine (IsValidFloor_any A D c d f _ (HA.out.alloc_ _) hm0 hcc (HD.out.alloc_ _) hn).mono ?_
    rintro e wr ⟨rfl, hb⟩
    rw [hv]
    have HB := Lib.hid hb
    clear hb
    go_wp2
    go_ret2
    exact ⟨by rw [HS.out, HI.out]; rfl, by have := bmono HB.out; go_grown⟩
set_option maxHeartbeats 1000000 in
theorem sSecondsLeft_any (A D : Option Addr) (c d : Nat) (f : Flr) (m : Int) (w : World) (ha : Cells w A (IntK.row f.wt)) (hm0 : f.wt.length ≤ 1048576) (hcc : f.wt.length ≤ c) (hd : Cells w D (ShareK.row f.sh)) (hn : f.sh.length ≤ 1048576) :
    Calls Try.prog 29 #[.agg #[.int .i64 f.t, .int .i64 f.s, .int .i64 f.sp, .slice A f.wt.length c, .slice D f.sh.length d], .int .i64 m] w fun e w' => e = .returned (.tuple #[.int .i64 (slI f m), .bool (slS f m)]) ∧ Below w.heap.size w w' := by
  have HA := Lib.hid ha
  have HD := Lib.hid hd
  clear ha hd
  rcases Bool.eq_false_or_eq_true (vldF f) with hv | hv
  · rcases Bool.eq_false_or_eq_true (memB m) with hm | hm
    · obtain ⟨b1, b2, b3, b4, b5, b6, b7, b8⟩ := shOf_bd hv m
      obtain ⟨S, hS⟩ : ∃ S, Hid (shOf m f.sh = S) := ⟨_, Lib.hid rfl⟩
      rw [hS.out] at b1 b2 b3 b4
      have HS := Lib.hid (show slS f m = true by unfold slS; rw [hv, hm]; rfl)
      have HI := Lib.hid (show slI f m = f.s - S.s by unfold slI; rw [HS.out, hS.out]; rfl)
      have q0 : IntKind.i64.wrap (f.s - S.s) = f.s - S.s := by rw [IntKind.wrap_i64]; omega
      go_enter Try.func29, Try.ntmps29
      go_wp2_with fail
      refine (l8Good_any A D c d f _ (HA.out.alloc_ _) hm0 hcc (HD.out.alloc_ _) hn).mono ?_
      rintro e wr ⟨rfl, hb⟩
      rw [hv]
      have HB := Lib.hid hb
      have e0 := fun o => hb.cell (p := ⟨w.heap.size, o, none⟩) (by simp)
      have hz : w.heap.size < wr.heap.size := by have := hb.size; simp at this; omega
      have hfl := fld_s
      clear hb
      go_wp2_with (go_at_call 76; refine (l7Member_any _ _).mono ?_; rintro e w' ⟨rfl, rfl⟩)
      go_region_held3 (fun w' => Below wr.heap.size wr w' ∧ (∀ b o, b < wr.heap.size → w'.cell? ⟨b, o, none⟩ = wr.cell? ⟨b, o, none⟩))
        ((first | (refine mkS ?_; assumption) | (refine drewS ?_; assumption) | (refine mkS ?_; go_grown)))
        (first | (go_at_call 57; refine (l8Share_any A D c d f m _ ((HD.out.below (bmono HB.out)).below (S1 (by assumption))) hn).mono ?_; rintro e w1 ⟨rfl, hb⟩; rw [hS.out]; obtain ⟨hB1, hzz⟩ := callS (by assumption) (Nat.le_refl _) hb; have HB1 := Lib.hid hB1; clear hb))
      go_wp2
      go_ret2
      exact ⟨by rw [HS.out, HI.out]; rfl, by have := (bmono HB.out).trans (HB1.out.mono (by omega)); go_grown⟩
    · have HS := Lib.hid (show slS f m = false by unfold slS; rw [hv, hm]; rfl)
      have HI := Lib.hid (show slI f m = 0 by unfold slI; rw [HS.out]; rfl)
      go_enter Try.func29, Try.ntmps29
      go_wp2_with fail
      refine (l8Good_any A D c d f _ (HA.out.alloc_ _) hm0 hcc (HD.out.alloc_ _) hn).mono ?_
      rintro e wr ⟨rfl, hb⟩
      rw [hv]
      have HB := Lib.hid hb
      clear hb
      go_wp2_with (go_at_call 76; refine (l7Member_any _ _).mono ?_; rintro e w' ⟨rfl, rfl⟩)
      go_ret2
      exact ⟨by rw [HS.out, HI.out]; rfl, by have := bmono HB.out; go_grown⟩
  · have HS := Lib.hid (show slS f m = false by unfold slS; rw [hv]; rfl)
    have HI := Lib.hid (show slI f m = 0 by unfold slI; rw [HS.out]; rfl)
    go_enter Try.func29, Try.ntmps29
    go_wp2_with fail
    refine (l8Good_any A D c d f _ (HA.out.alloc_ _) hm0 hcc (HD.out.alloc_ _) hn).mono ?_
    rintro e wr ⟨rfl, hb⟩
    rw [hv]
    have HB := Lib.hid hb
    clear hb
    go_wp2
    go_ret2
    exact ⟨by rw [HS.out, HI.out]; rfl, by have := bmono HB.out; go_grown⟩
section
variable {B B' : Nat} {w : World} {A D : Option Addr} {c d : Nat} {f : Flr}
theorem SecondsLeft_abs (h : Rd IntK B w A c f.wt) (h' : Rd ShareK B' w D d f.sh) (m : Int) : Calls Try.prog 28 #[.agg #[.int .i64 f.t, .int .i64 f.s, .int .i64 f.sp, .slice A f.wt.length c, .slice D f.sh.length d], .int .i64 m] w fun e w' => e = .returned (.tuple #[.int .i64 (slI f m), .bool (slS f m)]) ∧ Below w.heap.size w w' :=
  SecondsLeft_any A D c d f m w h.cells h.2.2.1 h.1 h'.cells h'.2.2.1
theorem sSecondsLeft_abs (h : Rd IntK B w A c f.wt) (h' : Rd ShareK B' w D d f.sh) (m : Int) : Calls Try.prog 29 #[.agg #[.int .i64 f.t, .int .i64 f.s, .int .i64 f.sp, .slice A f.wt.length c, .slice D f.sh.length d], .int .i64 m] w fun e w' => e = .returned (.tuple #[.int .i64 (slI f m), .bool (slS f m)]) ∧ Below w.heap.size w w' :=
  sSecondsLeft_any A D c d f m w h.cells h.2.2.1 h.1 h'.cells h'.2.2.1
end
end Go.Proofs.Ytbpikbcnpmplfaa
