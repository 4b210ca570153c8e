/- The draws of chapter 7's laws; the laws' comparisons of questions and of texts. Conditions: the ranges named. -/
import Derived.Test.YtifahgdalgjgfaaDp
import Derived.Test.YtifahgdalgjgfaaLst
namespace Go.Proofs.Ytifahgdalgjgfaa
open Go.RowKit
set_option linter.unusedVariables false
set_option linter.unusedSimpArgs false
attribute [local go_sem ↓] Go.wp_at_zero Go.wp_at_succ
/-- Rules and questions that a draw returns: its own, and not many. -/
def DrQ (w : World) (P : Option Addr) (p : Nat) (xs : List Rul) (O : Option Addr) (oc : Nat) (qs : List Qst) (w' : World) : Prop := OwD RuleK 52 w.heap.size w' P p xs ∧ OwD QuestionK 32 w.heap.size w' O oc qs ∧ xs.length ≤ 20 ∧ qs.length ≤ 20 ∧ Below w.heap.size w w'
theorem vBig_any (A : Option Addr) (n c : Nat) (w : World) : Calls Try.prog 7 #[.slice A n c] w fun e w' => e = .returned (.bool (decide (65536 < n))) ∧ Below w.heap.size w w' := by
  go_enter Try.func7, Try.ntmps7
  go_wp2
  go_ret
  exact ⟨ret_bool (by simp; try omega), Below.refl _ _⟩
theorem drew_exF {w : World} {m n : Nat} : ∃ k, (w.drewN m).drewN n = w.drewN k := ⟨m + n, World.drewN_drewN _ _ _⟩
set_option maxHeartbeats 1000000 in
theorem vQuestions_same {B B' : Nat} {A A' : Option Addr} {c c' : Nat} {xs : List Qst} {w : World} (h : Rd QuestionK B w A c xs) (h' : Rd QuestionK B' w A' c' xs) :
    Calls Try.prog 11 #[.slice A xs.length c, .slice A' xs.length c'] w fun e w' => e = .returned (.bool true) ∧ Below w.heap.size w w' := by
  have ha := h.cells
  have hb := h'.cells
  have hn := h.2.2.1
  have hne : ((xs.length : Int) != (xs.length : Int)) = false := by simp
  clear h h'
  go_enter Try.func11, Try.ntmps11
  go_wp2
  go_loopw [5] (fun i wr => ∃ k : Nat, k ≤ xs.length ∧ i = .int .i64 k ∧ ∃ m, wr = w.drewN m) (fun i _ => xs.length - (intOf i).toNat)
  case atStart => exact ⟨0, Nat.zero_le _, rfl, 0, rfl⟩
  case round =>
    obtain ⟨k, hk, rfl, m, rfl⟩ := hrel
    by_cases hlt : k < xs.length
    · obtain ⟨a, rfl, hc0, hc1, hc2⟩ := question_at ha hlt
      obtain ⟨b, rfl, hd0, hd1, hd2⟩ := question_at hb hlt
      have i1 : (k : Int) < (xs.length : Int) := by omega
      obtain ⟨x, hx⟩ : ∃ x, xs[k] = x := ⟨_, rfl⟩
      rw [hx] at hc0 hc1 hc2 hd0 hd1 hd2
      clear hx
      go_wp2
      go_quiet (fail)
      go_wp2
      go_roundw
      case rel => exact ⟨k + 1, hlt, by go_num, by first | exact ⟨_, rfl⟩ | exact drew_exF⟩
      case measure => simp [intOf]; omega
    · obtain rfl : k = xs.length := by omega
      go_wp2
      go_ret
      exact ⟨rfl, below_drewN (Below.refl _ _) m⟩
set_option maxHeartbeats 1000000 in
theorem vTexts_same {B B' : Nat} {A A' : Option Addr} {c c' : Nat} {ss : List ByteArray} {w : World} (h : Rd StrK B w A c ss) (h' : Rd StrK B' w A' c' ss) :
    Calls Try.prog 22 #[.slice A ss.length c, .slice A' ss.length c'] w fun e w' => e = .returned (.bool true) ∧ Below w.heap.size w w' := by
  have ha := h.cells
  have hb := h'.cells
  have hn := h.2.2.1
  have hne : ((ss.length : Int) != (ss.length : Int)) = false := by simp
  clear h h'
  go_enter Try.func22, Try.ntmps22
  go_wp2
  go_loopw [5] (fun i wr => ∃ k : Nat, k ≤ ss.length ∧ i = .int .i64 k ∧ ∃ m, wr = w.drewN m) (fun i _ => ss.length - (intOf i).toNat)
  case atStart => exact ⟨0, Nat.zero_le _, rfl, 0, rfl⟩
  case round =>
    obtain ⟨k, hk, rfl, m, rfl⟩ := hrel
    by_cases hlt : k < ss.length
    · obtain ⟨a, rfl, hca⟩ := str_at ha hlt
      obtain ⟨b, rfl, hcb⟩ := str_at hb hlt
      have i1 : (k : Int) < (ss.length : Int) := by omega
      obtain ⟨s, hs⟩ : ∃ s, ss[k] = s := ⟨_, rfl⟩
      rw [hs] at hca hcb
      have hss := same_yes (rfl : s = s)
      clear hs
      go_wp2
      go_quiet (fail)
      go_wp2
      go_roundw
      case rel => exact ⟨k + 1, hlt, by go_num, by first | exact ⟨_, rfl⟩ | exact drew_exF⟩
      case measure => simp [intOf]; omega
    · obtain rfl : k = ss.length := by omega
      go_wp2
      go_ret
      exact ⟨rfl, below_drewN (Below.refl _ _) m⟩
set_option maxRecDepth 100000 in
set_option maxHeartbeats 2000000 in
theorem DrawArePending_any (A : Option Addr) (n c : Nat) (w : World) (h : BytesC w A n) (hn : n ≤ 65536) :
    Calls Try.prog 75 #[.slice A n c] w fun e w' => ∃ (P : Option Addr) (p : Nat) (xs : List Rul) (O : Option Addr) (oc : Nat) (qs : List Qst), e = .returned (.tuple #[.slice P xs.length p, .slice O qs.length oc]) ∧ DrQ w P p xs O oc qs w' := by
  have S := Lib.hid (Tst.mk (Cur.new_ (c := c) h hn 88) (below1 w _) h (Nat.le_refl _))
  have hb0 : w.heap.size < (w.alloc (.cells #[.slice A n c, .int .i64 0, .int .u64 0] 88)).heap.size := by simp
  clear h
  go_enter Try.func75, Try.ntmps75
  go_upto_region 2 with fail
  generalize (w.alloc (.cells #[.slice A n c, .int .i64 0, .int .u64 0] 88)) = v1 at *
  go_wp2_with fail
  refine (ladder_any w.heap.size A n c _ _ S.out.cur (by omega)).mono ?_
  rintro e v2 ⟨P, p, xs, rfl, hxl, o1, hc, ho⟩
  replace S := Lib.hid (S.out.draw hc ho)
  have RR := Lib.hid o1
  clear hc ho o1
  have hlo := S.out.sz
  have hlob := S.out.bw
  go_wp2_with fail
  refine (pending_any P p v1.heap.size xs w.heap.size A n c _ _ S.out.cur (by omega) RR.out (by omega) (by omega)).mono ?_
  rintro e v3 ⟨O, oc, qs, rfl, hql, o1, hc, ho⟩
  replace S := Lib.hid (S.out.draw hc ho)
  replace RR := Lib.hid (RR.out.draw ho (by omega))
  have O1 := Lib.hid o1
  clear hc ho o1
  go_wp2_with (go_ret2; exact ⟨P, p, xs, O, oc, qs, rfl, RR.out.low (by omega), O1.out.low (by omega), hxl, hql, S.out.on⟩)
set_option maxRecDepth 100000 in
set_option maxHeartbeats 2000000 in
theorem DrawSecondQuestion_any (A : Option Addr) (n c : Nat) (w : World) (h : BytesC w A n) (hn : n ≤ 65536) :
    Calls Try.prog 8 #[.slice A n c] w fun e w' => ∃ (P : Option Addr) (p : Nat) (xs : List Rul) (O : Option Addr) (oc : Nat) (qs : List Qst) (x : Int), e = .returned (.tuple #[.slice P xs.length p, .slice O qs.length oc, .int .i64 x]) ∧ DrQ w P p xs O oc qs w' := by
  have S := Lib.hid (Tst.mk (Cur.new_ (c := c) h hn 88) (below1 w _) h (Nat.le_refl _))
  have hb0 : w.heap.size < (w.alloc (.cells #[.slice A n c, .int .i64 0, .int .u64 0] 88)).heap.size := by simp
  clear h
  go_enter Try.func8, Try.ntmps8
  go_upto_region 2 with fail
  generalize (w.alloc (.cells #[.slice A n c, .int .i64 0, .int .u64 0] 88)) = v1 at *
  go_wp2_with fail
  refine (ladder_any w.heap.size A n c _ _ S.out.cur (by omega)).mono ?_
  rintro e v2 ⟨P, p, xs, rfl, hxl, o1, hc, ho⟩
  replace S := Lib.hid (S.out.draw hc ho)
  have RR := Lib.hid o1
  clear hc ho o1
  have hlo := S.out.sz
  have hlob := S.out.bw
  go_wp2_with fail
  refine (pending_any P p v1.heap.size xs w.heap.size A n c _ _ S.out.cur (by omega) RR.out (by omega) (by omega)).mono ?_
  rintro e v3 ⟨O, oc, qs, rfl, hql, o1, hc, ho⟩
  replace S := Lib.hid (S.out.draw hc ho)
  replace RR := Lib.hid (RR.out.draw ho (by omega))
  have O1 := Lib.hid o1
  clear hc ho o1
  go_wp2_with fail
  refine (member_any w.heap.size A n c _ _ S.out.cur (by omega)).mono ?_
  rintro e v4 ⟨⟨x, rfl, hx⟩, hc, ho⟩
  replace S := Lib.hid (S.out.draw hc ho)
  replace RR := Lib.hid (RR.out.draw ho (by omega))
  replace O1 := Lib.hid (O1.out.draw ho (by omega))
  clear hc ho 
  go_wp2_with (go_ret3; exact ⟨P, p, xs, O, oc, qs, x, rfl, RR.out.low (by omega), O1.out.low (by omega), hxl, hql, S.out.on⟩)
set_option maxRecDepth 100000 in
set_option maxHeartbeats 2000000 in
theorem DrawDisposeQuestion_any (A : Option Addr) (n c : Nat) (w : World) (h : BytesC w A n) (hn : n ≤ 65536) :
    Calls Try.prog 14 #[.slice A n c] w fun e w' => ∃ (P : Option Addr) (p : Nat) (xs : List Rul) (O : Option Addr) (oc : Nat) (qs : List Qst), e = .returned (.tuple #[.slice P xs.length p, .slice O qs.length oc]) ∧ DrQ w P p xs O oc qs w' := by
  have HY := Lib.hid h
  clear h
  go_enter Try.func14, Try.ntmps14
  go_wp2_with fail
  refine (DrawArePending_any A n c w HY.out hn).mono ?_
  rintro e v ⟨P, p, xs, O, oc, qs, rfl, hd⟩
  have HD := Lib.hid hd
  clear hd
  go_wp2_with (go_ret2; exact ⟨P, p, xs, O, oc, qs, rfl, HD.out⟩)
set_option maxRecDepth 100000 in
set_option maxHeartbeats 2000000 in
theorem DrawDropUnseconded_any (A : Option Addr) (n c : Nat) (w : World) (h : BytesC w A n) (hn : n ≤ 65536) :
    Calls Try.prog 17 #[.slice A n c] w fun e w' => ∃ (P : Option Addr) (p : Nat) (xs : List Rul) (O : Option Addr) (oc : Nat) (qs : List Qst), e = .returned (.tuple #[.slice P xs.length p, .slice O qs.length oc]) ∧ DrQ w P p xs O oc qs w' := by
  have HY := Lib.hid h
  clear h
  go_enter Try.func17, Try.ntmps17
  go_wp2_with fail
  refine (DrawArePending_any A n c w HY.out hn).mono ?_
  rintro e v ⟨P, p, xs, O, oc, qs, rfl, hd⟩
  have HD := Lib.hid hd
  clear hd
  go_wp2_with (go_ret2; exact ⟨P, p, xs, O, oc, qs, rfl, HD.out⟩)
set_option maxRecDepth 100000 in
set_option maxHeartbeats 2000000 in
theorem DrawQuestionNames_any (A : Option Addr) (n c : Nat) (w : World) (h : BytesC w A n) (hn : n ≤ 65536) :
    Calls Try.prog 19 #[.slice A n c] w fun e w' => ∃ (P : Option Addr) (p : Nat) (xs : List Rul) (O : Option Addr) (oc : Nat) (qs : List Qst), e = .returned (.tuple #[.slice P xs.length p, .slice O qs.length oc]) ∧ DrQ w P p xs O oc qs w' := by
  have HY := Lib.hid h
  clear h
  go_enter Try.func19, Try.ntmps19
  go_wp2_with fail
  refine (DrawArePending_any A n c w HY.out hn).mono ?_
  rintro e v ⟨P, p, xs, O, oc, qs, rfl, hd⟩
  have HD := Lib.hid hd
  clear hd
  go_wp2_with (go_ret2; exact ⟨P, p, xs, O, oc, qs, rfl, HD.out⟩)
end Go.Proofs.Ytifahgdalgjgfaa
