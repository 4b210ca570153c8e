/- The draws of FnStack; the laws' comparisons of numbers. Conditions: the ranges named. -/
import Derived.Test.YtifahgdalgjgfaaDq
import Derived.Test.YtifahgdalgjgfaaHas
namespace Go.Proofs.Ytifahgdalgjgfaa
open Go.RowKit
set_option linter.unusedVariables false
set_option linter.unusedSimpArgs false
attribute [local go_sem ↓] Go.wp_at_zero Go.wp_at_succ
set_option maxHeartbeats 1000000 in
theorem vInts_same {B B' : Nat} {A A' : Option Addr} {c c' : Nat} {xs : List Int} {w : World} (h : Rd IntK B w A c xs) (h' : Rd IntK B' w A' c' xs) :
    Calls Try.prog 29 #[.slice A xs.length c, .slice A' xs.length c'] w fun e w' => e = .returned (.bool true) ∧ Below w.heap.size w w' := by
  have ha := h.cells
  have hb := h'.cells
  have hn := h.2.2.1
  have hne : ((xs.length : Int) != (xs.length : Int)) = false := by simp
  clear h h'
  go_enter Try.func29, Try.ntmps29
  go_wp2
  go_loopw [5] (fun i wr => ∃ k : Nat, k ≤ xs.length ∧ i = .int .i64 k ∧ ∃ m, wr = w.drewN m) (fun i _ => xs.length - (intOf i).toNat)
  case atStart => exact ⟨0, Nat.zero_le _, rfl, 0, rfl⟩
  case round =>
    obtain ⟨k, hk, rfl, m, rfl⟩ := hrel
    by_cases hlt : k < xs.length
    · obtain ⟨a, rfl, hca⟩ := int_at ha hlt
      obtain ⟨b, rfl, hcb⟩ := int_at hb hlt
      have i1 : (k : Int) < (xs.length : Int) := by omega
      have ht : (xs[k] != xs[k]) = false := by simp
      go_wp2
      go_quiet (fail)
      go_wp2
      go_roundw
      case rel => exact ⟨k + 1, hlt, by go_num, by first | exact ⟨_, rfl⟩ | exact drew_exF⟩
      case measure => simp [intOf]; omega
    · obtain rfl : k = xs.length := by omega
      go_wp2
      go_ret
      exact ⟨rfl, below_drewN (Below.refl _ _) m⟩
theorem vHas_any (A : Option Addr) (c : Nat) (xs : List Int) (x : Int) (w : World) (ha : Cells w A (IntK.row xs)) (hm : xs.length ≤ 1048576) :
    Calls Try.prog 30 #[.slice A xs.length c, .int .i64 x] w fun e w' => e = .returned (.bool (hasB x xs)) ∧ w = w' := by
  go_enter Try.func30, Try.ntmps30
  go_wp2
  go_loop [5] (fun i => ∃ k : Nat, k ≤ xs.length ∧ i = .int .i64 k ∧ Hid (hasB x xs = hasB x (xs.drop k))) (fun i => xs.length - (intOf i).toNat)
  case atStart => exact ⟨0, Nat.zero_le _, rfl, rfl⟩
  case round =>
    obtain ⟨k, hk, rfl, hq⟩ := hrel
    by_cases hlt : k < xs.length
    · obtain ⟨a, rfl, hca⟩ := int_at ha hlt
      have i1 : (k : Int) < (xs.length : Int) := by omega
      by_cases hm : xs[k] = x
      · have ht : (xs[k] == x) = true := by simp [hm]
        have HA := Lib.hid (show hasB x xs = true by rw [hq.out, List.drop_eq_getElem_cons hlt, hasB_cons, hm]; simp)
        clear hm hq
        go_wp2
        go_ret
        exact ⟨ret_bool HA.out.symm, rfl⟩
      · have ht : (xs[k] == x) = false := by simp [hm]
        have HA := Lib.hid (show hasB x xs = hasB x (xs.drop (k + 1)) by rw [hq.out, List.drop_eq_getElem_cons hlt, hasB_cons, show (x == xs[k]) = false from by simp; exact fun e => hm e.symm]; rfl)
        clear hm hq
        go_wp2
        go_round
        case rel => exact ⟨k + 1, hlt, by go_num, HA.out⟩
        case measure => simp [intOf]; omega
    · obtain rfl : k = xs.length := by omega
      have HA := Lib.hid (show hasB x xs = false by rw [hq.out, List.drop_length]; rfl)
      go_wp2
      go_ret
      exact ⟨ret_bool HA.out.symm, rfl⟩
set_option maxRecDepth 100000 in
set_option maxHeartbeats 2000000 in
theorem DrawWithdrawQuestion_any (A : Option Addr) (n c : Nat) (w : World) (h : BytesC w A n) (hn : n ≤ 65536) :
    Calls Try.prog 34 #[.slice A n c] w fun e w' => ∃ (P : Option Addr) (p : Nat) (xs : List Rul) (O : Option Addr) (oc : Nat) (qs : List Qst) (x : Int), e = .returned (.tuple #[.slice P xs.length p, .slice O qs.length oc, .int .i64 x]) ∧ DrQ w P p xs O oc qs w' := by
  have HY := Lib.hid h
  clear h
  go_enter Try.func34, Try.ntmps34
  go_wp2_with fail
  refine (DrawSecondQuestion_any A n c w HY.out hn).mono ?_
  rintro e v ⟨P, p, xs, O, oc, qs, x, rfl, hd⟩
  have HD := Lib.hid hd
  clear hd
  go_wp2_with (go_ret3; exact ⟨P, p, xs, O, oc, qs, x, rfl, HD.out⟩)
set_option maxRecDepth 100000 in
set_option maxHeartbeats 2000000 in
theorem DrawMoversOf_any (A : Option Addr) (n c : Nat) (w : World) (h : BytesC w A n) (hn : n ≤ 65536) :
    Calls Try.prog 36 #[.slice A n c] w fun e w' => ∃ (P : Option Addr) (p : Nat) (xs : List Rul) (O : Option Addr) (oc : Nat) (qs : List Qst), e = .returned (.tuple #[.slice P xs.length p, .slice O qs.length oc]) ∧ DrQ w P p xs O oc qs w' := by
  have HY := Lib.hid h
  clear h
  go_enter Try.func36, Try.ntmps36
  go_wp2_with fail
  refine (DrawArePending_any A n c w HY.out hn).mono ?_
  rintro e v ⟨P, p, xs, O, oc, qs, rfl, hd⟩
  have HD := Lib.hid hd
  clear hd
  go_wp2_with (go_ret2; exact ⟨P, p, xs, O, oc, qs, rfl, HD.out⟩)
set_option maxRecDepth 100000 in
set_option maxHeartbeats 2000000 in
theorem DrawMoveQuestion_any (A : Option Addr) (n c : Nat) (w : World) (h : BytesC w A n) (hn : n ≤ 65536) :
    Calls Try.prog 23 #[.slice A n c] w fun e w' => ∃ (P : Option Addr) (p : Nat) (xs : List Rul) (O : Option Addr) (oc : Nat) (qs : List Qst) (i x : Int), e = .returned (.tuple #[.slice P xs.length p, .slice O qs.length oc, .int .i64 i, .int .i64 x]) ∧ DrQ w P p xs O oc qs w' := by
  have S := Lib.hid (Tst.mk (Cur.new_ (c := c) h hn 88) (below1 w _) h (Nat.le_refl _))
  have hb0 : w.heap.size < (w.alloc (.cells #[.slice A n c, .int .i64 0, .int .u64 0] 88)).heap.size := by simp
  clear h
  go_enter Try.func23, Try.ntmps23
  go_upto_region 2 with fail
  generalize (w.alloc (.cells #[.slice A n c, .int .i64 0, .int .u64 0] 88)) = v1 at *
  go_wp2_with fail
  refine (ladder_any w.heap.size A n c _ _ S.out.cur (by omega)).mono ?_
  rintro e v2 ⟨P, p, xs, rfl, hxl, o1, hc, ho⟩
  replace S := Lib.hid (S.out.draw hc ho)
  have RR := Lib.hid o1
  clear hc ho o1
  have hlo := S.out.sz
  have hlob := S.out.bw
  go_wp2_with fail
  refine (pending_any P p v1.heap.size xs w.heap.size A n c _ _ S.out.cur (by omega) RR.out (by omega) (by omega)).mono ?_
  rintro e v3 ⟨O, oc, qs, rfl, hql, o1, hc, ho⟩
  replace S := Lib.hid (S.out.draw hc ho)
  replace RR := Lib.hid (RR.out.draw ho (by omega))
  have O1 := Lib.hid o1
  clear hc ho o1
  go_wp2_with fail
  refine (ruleOf_any_ P p v1.heap.size xs w.heap.size A n c _ _ S.out.cur (by omega) RR.out (by omega) (by omega)).mono ?_
  rintro e v4 ⟨⟨id, rfl⟩, hc, ho⟩
  replace S := Lib.hid (S.out.draw hc ho)
  replace RR := Lib.hid (RR.out.draw ho (by omega))
  replace O1 := Lib.hid (O1.out.draw ho (by omega))
  clear hc ho 
  go_wp2_with fail
  refine (good_any (PA.of RR.out.rd O1.out.rd)).mono ?_
  rintro e v5 ⟨rfl, hb⟩
  replace S := Lib.hid (S.out.call hb)
  replace RR := Lib.hid (RR.out.call hb)
  replace O1 := Lib.hid (O1.out.call hb)
  clear hb
  rcases Bool.eq_false_or_eq_true (pendB xs qs) with hp | hp
  · rw [hp]
    have HP := Lib.hid hp
    clear hp
    have hlo2 : w.heap.size + 1 ≤ v5.heap.size := by have := S.out.bw; omega
    go_wp2_with fail
    refine (l7May_any P p xs O oc qs v5 (PA.of RR.out.rd O1.out.rd) HP.out).mono ?_
    rintro e v6 ⟨M, mc, rfl, om, hb⟩
    replace S := Lib.hid (S.out.call hb)
    replace RR := Lib.hid (RR.out.call hb)
    replace O1 := Lib.hid (O1.out.call hb)
    have OM := Lib.hid (OwD.low (show OwD IntK 3 _ v6 M mc (mayL xs qs) from om) hlo2)
    have hml := may_le (xs := xs) (qs := qs)
    obtain ⟨may, hmay⟩ : ∃ may, Hid (mayL xs qs = may) := ⟨_, Lib.hid rfl⟩
    rw [hmay.out] at OM hml ⊢
    clear hmay hb om hlo2
    by_cases hz : may.length = 0
    · have kz : decide ((may.length : Int) > 0) = false := by simp [hz]
      have iz : ¬ (0 : Int) < (may.length : Int) := by omega
      have HZ := Lib.hid hz
      clear hz
      go_wp2_with fail
      refine (member_any w.heap.size A n c _ _ S.out.cur (by omega)).mono ?_
      rintro e v7 ⟨⟨x, rfl, hx⟩, hc, ho⟩
      replace S := Lib.hid (S.out.draw hc ho)
      replace RR := Lib.hid (RR.out.draw ho (by omega))
      replace O1 := Lib.hid (O1.out.draw ho (by omega))
      replace OM := Lib.hid (OM.out.draw ho (by omega))
      clear hc ho 
      go_wp2_with (refine bodyPost_ret (v := .tuple #[.slice P xs.length p, .slice O qs.length oc, .int .i64 id, .int .i64 x]) (by simp [results, Try.results23, go_sem]) rfl ?_; exact ⟨P, p, xs, O, oc, qs, id, x, rfl, RR.out.low (by omega), O1.out.low (by omega), hxl, hql, S.out.on⟩)
    · have iz : (0 : Int) < (may.length : Int) := by omega
      go_wp2_with fail
      refine (one_any 2 (by omega) (by omega) w.heap.size A n c _ _ S.out.cur (by omega)).mono ?_
      rintro e v8 ⟨⟨z, rfl⟩, hc, ho⟩
      replace S := Lib.hid (S.out.draw hc ho)
      replace RR := Lib.hid (RR.out.draw ho (by omega))
      replace O1 := Lib.hid (O1.out.draw ho (by omega))
      replace OM := Lib.hid (OM.out.draw ho (by omega))
      clear hc ho 
      rcases Bool.eq_false_or_eq_true z with hz2 | hz2
      · subst hz2
        go_wp2_with fail
        refine (pickZ_any (may.length : Int) (by omega) w.heap.size A n c _ _ S.out.cur (by omega)).mono ?_
        rintro e v9 ⟨⟨y, rfl, hy⟩, hc, ho⟩
        replace S := Lib.hid (S.out.draw hc ho)
        replace RR := Lib.hid (RR.out.draw ho (by omega))
        replace O1 := Lib.hid (O1.out.draw ho (by omega))
        replace OM := Lib.hid (OM.out.draw ho (by omega))
        clear hc ho 
        have hyl : y < may.length := by omega
        obtain ⟨a, hPa, hc0⟩ := int_at OM.out.rd.cells hyl
        subst hPa
        have i1 : (y : Int) < (may.length : Int) := by omega
        obtain ⟨u, hu⟩ : ∃ u, may[y] = u := ⟨_, rfl⟩
        rw [hu] at hc0
        clear hu
        go_wp2_with fail
        refine (member_any w.heap.size A n c _ _ S.out.cur (by omega)).mono ?_
        rintro e v10 ⟨⟨x, rfl, hx⟩, hc, ho⟩
        replace S := Lib.hid (S.out.draw hc ho)
        replace RR := Lib.hid (RR.out.draw ho (by omega))
        replace O1 := Lib.hid (O1.out.draw ho (by omega))
        replace OM := Lib.hid (OM.out.draw ho (by omega))
        clear hc ho 
        go_wp2_with (refine bodyPost_ret (v := .tuple #[.slice P xs.length p, .slice O qs.length oc, .int .i64 u, .int .i64 x]) (by simp [results, Try.results23, go_sem]) rfl ?_; exact ⟨P, p, xs, O, oc, qs, u, x, rfl, RR.out.low (by omega), O1.out.low (by omega), hxl, hql, S.out.on⟩)
      · subst hz2
        go_wp2_with fail
        refine (member_any w.heap.size A n c _ _ S.out.cur (by omega)).mono ?_
        rintro e v11 ⟨⟨x, rfl, hx⟩, hc, ho⟩
        replace S := Lib.hid (S.out.draw hc ho)
        replace RR := Lib.hid (RR.out.draw ho (by omega))
        replace O1 := Lib.hid (O1.out.draw ho (by omega))
        replace OM := Lib.hid (OM.out.draw ho (by omega))
        clear hc ho 
        go_wp2_with (refine bodyPost_ret (v := .tuple #[.slice P xs.length p, .slice O qs.length oc, .int .i64 id, .int .i64 x]) (by simp [results, Try.results23, go_sem]) rfl ?_; exact ⟨P, p, xs, O, oc, qs, id, x, rfl, RR.out.low (by omega), O1.out.low (by omega), hxl, hql, S.out.on⟩)
  · rw [hp]
    go_wp2_with fail
    refine (member_any w.heap.size A n c _ _ S.out.cur (by omega)).mono ?_
    rintro e v12 ⟨⟨x, rfl, hx⟩, hc, ho⟩
    replace S := Lib.hid (S.out.draw hc ho)
    replace RR := Lib.hid (RR.out.draw ho (by omega))
    replace O1 := Lib.hid (O1.out.draw ho (by omega))
    clear hc ho 
    go_wp2_with (refine bodyPost_ret (v := .tuple #[.slice P xs.length p, .slice O qs.length oc, .int .i64 id, .int .i64 x]) (by simp [results, Try.results23, go_sem]) rfl ?_; exact ⟨P, p, xs, O, oc, qs, id, x, rfl, RR.out.low (by omega), O1.out.low (by omega), hxl, hql, S.out.on⟩)
end Go.Proofs.Ytifahgdalgjgfaa
