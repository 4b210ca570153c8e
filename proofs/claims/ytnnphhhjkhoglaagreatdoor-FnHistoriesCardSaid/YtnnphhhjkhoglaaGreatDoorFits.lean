/- Two lists of words, compared by the reference and by the library; whether an amendment fits a text, in the program and in the reference. Conditions: the ranges named. -/
import Derived.Test.YtnnphhhjkhoglaaGreatDoorAmd2
namespace Go.Proofs.YtnnphhhjkhoglaaGreatDoor
open Go.RowKit
set_option linter.unusedVariables false

theorem drew_ex {w : World} {m n : Nat} : ∃ k, (w.drewN m).drewN n = w.drewN k := ⟨m + n, World.drewN_drewN _ _ _⟩
set_option maxHeartbeats 400000 in
theorem l9Same_any (A B : Option Addr) (c d : Nat) (ss ts : List ByteArray) (w : World) (ha : Cells w A (strs ss)) (hb : Cells w B (strs ts)) (hn : ss.length ≤ 1048576) (hm : ts.length ≤ 1048576) :
    Calls Tryz.prog 49 #[.slice A ss.length c, .slice B ts.length d] w fun e w' => e = .returned (.bool (decide (ss = ts))) ∧ ∃ m, w' = w.drewN m := by
  by_cases hl : ss.length = ts.length
  · have hne : ((ss.length : Int) != (ts.length : Int)) = false := by simp [hl]
    have HL := Lib.hid hl
    clear hl
    go_enter Tryz.func49, Tryz.ntmps49
    go_wp2
    go_loopw [5] (fun i wr => ∃ k m : Nat, k ≤ ss.length ∧ i = .int .i64 k ∧ Hid (ss.take k = ts.take k) ∧ wr = w.drewN m) (fun i _ => ss.length - (intOf i).toNat)
    case atStart => exact ⟨0, 0, Nat.zero_le _, rfl, rfl, rfl⟩
    case round =>
      obtain ⟨k, m, hk, rfl, hq, rfl⟩ := hrel
      by_cases hlt : k < ss.length
      · have hlt2 : k < ts.length := by have := HL.out; omega
        obtain ⟨a, rfl, hca⟩ := ha k (.string ss[k]) (strs_get hlt)
        obtain ⟨b, rfl, hcb⟩ := hb k (.string ts[k]) (strs_get hlt2)
        have i1 : (k : Int) < (ss.length : Int) := by omega
        have i2 : (k : Int) < (ts.length : Int) := by omega
        by_cases he : ss[k] = ts[k]
        · have ht := same_yes he
          have HE := Lib.hid he
          clear he
          go_wp2
          go_quiet (fail)
          go_wp2
          go_roundw
          case rel => exact ⟨k + 1, _, hlt, by go_num, by rw [List.take_succ_eq_append_getElem hlt, List.take_succ_eq_append_getElem hlt2, hq.out, HE.out]; rfl, rfl⟩
          case measure => simp [intOf]; omega
        · have ht := same_no he
          have hd : decide (ss = ts) = false := decide_eq_false (fun e => he (by simp [e]))
          have HD := Lib.hid hd
          clear hd he
          go_wp2
          go_quiet (fail)
          go_wp2
          go_ret
          first | exact ⟨ret_bool HD.out.symm, _, rfl⟩ | exact ⟨ret_bool HD.out.symm, drew_ex⟩
      · have hd : decide (ss = ts) = true := decide_eq_true (by
          have h1 := hq.out
          rwa [List.take_of_length_le (by omega), List.take_of_length_le (by have := HL.out; omega)] at h1)
        have HD := Lib.hid hd
        clear hd
        go_wp2
        go_ret
        first | exact ⟨ret_bool HD.out.symm, _, rfl⟩ | exact ⟨ret_bool HD.out.symm, drew_ex⟩
  · have hne : ((ss.length : Int) != (ts.length : Int)) = true := by simp; omega
    have hd : decide (ss = ts) = false := decide_eq_false (fun e => hl (by rw [e]))
    have HD := Lib.hid hd
    clear hd hl
    go_enter Tryz.func49, Tryz.ntmps49
    go_wp2
    go_ret
    exact ⟨ret_bool HD.out.symm, 0, rfl⟩

set_option maxHeartbeats 400000 in
theorem slEqual_any (A B : Option Addr) (c d : Nat) (ss ts : List ByteArray) (w : World) (ha : Cells w A (strs ss)) (hb : Cells w B (strs ts)) (hn : ss.length ≤ 1048576) (hm : ts.length ≤ 1048576) :
    Calls Tryz.prog 64 #[.slice A ss.length c, .slice B ts.length d] w fun e w' => e = .returned (.bool (decide (ss = ts))) ∧ ∃ m, w' = w.drewN m := by
  by_cases hl : ss.length = ts.length
  · have hne : ((ss.length : Int) != (ts.length : Int)) = false := by simp [hl]
    have HL := Lib.hid hl
    clear hl
    go_enter Tryz.func64, Tryz.ntmps64
    go_wp2
    go_loopw [13] (fun i wr => ∃ k m : Nat, k ≤ ss.length ∧ i = .int .i64 k ∧ Hid (ss.take k = ts.take k) ∧ wr = w.drewN m) (fun i _ => ss.length - (intOf i).toNat)
    case atStart => exact ⟨0, 0, Nat.zero_le _, rfl, rfl, rfl⟩
    case round =>
      obtain ⟨k, m, hk, rfl, hq, rfl⟩ := hrel
      by_cases hlt : k < ss.length
      · have hlt2 : k < ts.length := by have := HL.out; omega
        obtain ⟨a, rfl, hca⟩ := ha k (.string ss[k]) (strs_get hlt)
        obtain ⟨b, rfl, hcb⟩ := hb k (.string ts[k]) (strs_get hlt2)
        have i1 : (k : Int) < (ss.length : Int) := by omega
        have i2 : (k : Int) < (ts.length : Int) := by omega
        by_cases he : ss[k] = ts[k]
        · have ht := same_yes he
          have HE := Lib.hid he
          clear he
          go_wp2
          go_quiet (fail)
          go_wp2
          go_roundw
          case rel => exact ⟨k + 1, _, hlt, by go_num, by rw [List.take_succ_eq_append_getElem hlt, List.take_succ_eq_append_getElem hlt2, hq.out, HE.out]; rfl, rfl⟩
          case measure => simp [intOf]; omega
        · have ht := same_no he
          have hd : decide (ss = ts) = false := decide_eq_false (fun e => he (by simp [e]))
          have HD := Lib.hid hd
          clear hd he
          go_wp2
          go_quiet (fail)
          go_wp2
          go_ret
          first | exact ⟨ret_bool HD.out.symm, _, rfl⟩ | exact ⟨ret_bool HD.out.symm, drew_ex⟩
      · have hd : decide (ss = ts) = true := decide_eq_true (by
          have h1 := hq.out
          rwa [List.take_of_length_le (by omega), List.take_of_length_le (by have := HL.out; omega)] at h1)
        have HD := Lib.hid hd
        clear hd
        go_wp2
        go_ret
        first | exact ⟨ret_bool HD.out.symm, _, rfl⟩ | exact ⟨ret_bool HD.out.symm, drew_ex⟩
  · have hne : ((ss.length : Int) != (ts.length : Int)) = true := by simp; omega
    have hd : decide (ss = ts) = false := decide_eq_false (fun e => hl (by rw [e]))
    have HD := Lib.hid hd
    clear hd hl
    go_enter Tryz.func64, Tryz.ntmps64
    go_wp2
    go_ret
    exact ⟨ret_bool HD.out.symm, 0, rfl⟩


theorem l9Same_n (A B : Option Addr) (n m c d : Nat) (ss ts : List ByteArray) (w : World) (hn : n = ss.length) (hm : m = ts.length) (ha : Cells w A (strs ss)) (hb : Cells w B (strs ts)) (h1 : ss.length ≤ 1048576) (h2 : ts.length ≤ 1048576) :
    Calls Tryz.prog 49 #[.slice A n c, .slice B m d] w fun e w' => e = .returned (.bool (decide (ss = ts))) ∧ ∃ m, w' = w.drewN m := by
  subst hn hm; exact l9Same_any A B c d ss ts w ha hb h1 h2
theorem slEqual_n (A B : Option Addr) (n m c d : Nat) (ss ts : List ByteArray) (w : World) (hn : n = ss.length) (hm : m = ts.length) (ha : Cells w A (strs ss)) (hb : Cells w B (strs ts)) (h1 : ss.length ≤ 1048576) (h2 : ts.length ≤ 1048576) :
    Calls Tryz.prog 64 #[.slice A n c, .slice B m d] w fun e w' => e = .returned (.bool (decide (ss = ts))) ∧ ∃ m, w' = w.drewN m := by
  subst hn hm; exact slEqual_any A B c d ss ts w ha hb h1 h2
theorem Cells.drewN {w : World} {A : Option Addr} {xs : List Value} (h : Cells w A xs) (n : Nat) : Cells (w.drewN n) A xs := h
/-- A cut of a slice that is read. -/
theorem Cells.cut {w : World} {A : Option Addr} {xs : List Value} {lo n : Nat} {A' : Option Addr} (h : Cells w A xs) (hA : 0 < n → A' = A.map (·.add lo)) : Cells w A' ((xs.drop lo).take n) := fun i u hi => by
  have hin : i < n := by
    rcases Nat.lt_or_ge i n with h1 | h1
    · exact h1
    · rw [List.getElem?_take, if_neg (by omega)] at hi; cases hi
  rw [List.getElem?_take, if_pos hin, List.getElem?_drop] at hi
  obtain ⟨ad, rfl, hc⟩ := h _ u hi
  exact ⟨ad.add lo, hA (by omega), by rw [add_add']; exact hc⟩
theorem strs_cut (ss : List ByteArray) (lo n : Nat) : ((strs ss).drop lo).take n = strs ((ss.drop lo).take n) := by simp [strs, List.map_take, List.map_drop]
/-- The words that an amendment takes away. -/
def cutW (ss : List ByteArray) (p n : Int) : List ByteArray := (ss.drop p.toNat).take n.toNat
/-- An amendment fits a text. -/
def fitsB (ss : List ByteArray) (a : Amd) : Bool := decide (a.p + a.n ≤ ss.length) && decide ((ss.length : Int) - a.n + a.ws.length ≤ 20) && !decide (cutW ss a.p a.n = a.ws)
theorem vldA_range {a : Amd} (h : vldA a = true) : 0 ≤ a.p ∧ a.p ≤ 20 ∧ 0 ≤ a.n ∧ a.n ≤ 5 ∧ a.ws.length ≤ 5 ∧ (a.k = 1 ∧ a.n = 0 ∧ 0 < a.ws.length ∨ a.k = 2 ∧ 1 ≤ a.n ∧ a.ws.length = 0 ∨ a.k = 3 ∧ 1 ≤ a.n ∧ 0 < a.ws.length) ∧ a.ws.all wordB = true := by
  unfold vldA at h
  rw [Bool.and_eq_true, inB_iff] at h
  obtain ⟨⟨h1, h2⟩, h⟩ := h
  unfold wordsB at h
  split at h
  · rw [Bool.and_eq_true, Bool.and_eq_true, inB_iff] at h
    obtain ⟨h3, h4, h5⟩ := h
    simp at h3
    exact ⟨h1, h2, by omega, by omega, by omega, by omega, h5⟩
  · split at h
    · rw [Bool.and_eq_true, inB_iff] at h
      obtain ⟨h3, h4⟩ := h
      have h5 : a.ws = [] := by simpa using h4
      exact ⟨h1, h2, by omega, by omega, by simp [h5], by simp [h5]; omega, by simp [h5]⟩
    · split at h
      · rw [Bool.and_eq_true, Bool.and_eq_true, inB_iff, inB_iff] at h
        obtain ⟨h3, h4, h5⟩ := h
        exact ⟨h1, h2, by omega, by omega, by omega, by omega, h5⟩
      · cases h
set_option maxHeartbeats 400000 in
theorem l9Fits_any (A B : Option Addr) (c d : Nat) (ss : List ByteArray) (a : Amd) (w : World) (h : Cells w A (strs ss)) (hc : ss.length ≤ c) (hf : Fit ss) (h' : Cells w B (strs a.ws)) (hf' : Fit a.ws) (hv : vldA a = true) :
    Calls Tryz.prog 23 #[.slice A ss.length c, .agg #[.int .i64 a.k, .int .i64 a.p, .int .i64 a.n, .slice B a.ws.length d]] w fun e w' => e = .returned (.bool (fitsB ss a)) ∧ Below w.heap.size w w' := by
  obtain ⟨hp0, hp1, hn0, hn1, hw1, _, _⟩ := vldA_range hv
  have hl := hf.1
  clear hv
  obtain ⟨k, p, n, ws⟩ := a
  simp only at *
  obtain ⟨p, rfl⟩ := Int.eq_ofNat_of_zero_le hp0
  obtain ⟨n, rfl⟩ := Int.eq_ofNat_of_zero_le hn0
  by_cases hA : (p : Int) + n ≤ ss.length ∧ (ss.length : Int) - n + ws.length ≤ 20
  · obtain ⟨h1, h2⟩ := hA
    have q0 : IntKind.i64.wrap ((p : Int) + n) = (p : Int) + n := by rw [IntKind.wrap_i64]; omega
    have q1 : ((p : Int) + n).toNat = p + n := by omega
    have q2 : (p : Int) ≤ (p : Int) + n := by omega
    have q3 : (p : Int) + n ≤ (c : Int) := by omega
    have hcut : Cells w (if c = p then A else A.map (·.add p)) (strs (cutW ss p n)) := by
      have := h.cut (lo := p) (n := n) (A' := if c = p then A else A.map (·.add p)) (fun h0 => by rw [if_neg (by omega)])
      rwa [strs_cut] at this
    have hlen : n = (cutW ss p n).length := by unfold cutW; rw [Int.toNat_natCast, Int.toNat_natCast, List.length_take, List.length_drop]; omega
    have hR := Lib.hid (show fitsB ss ⟨k, p, n, ws⟩ = !decide (cutW ss p n = ws) by
      unfold fitsB; simp only []; rw [decide_eq_true h1, decide_eq_true h2]; rfl)
    have hc1 : (cutW ss p n).length ≤ 1048576 := by rw [← hlen]; omega
    have HL := Lib.hid hlen
    have HC := Lib.hid hcut
    clear hlen hcut
    go_enter Tryz.func23, Tryz.ntmps23
    go_wp2_with fail
    go_quiet ((go_at_call 49; refine Calls.quiet_of (l9Same_n _ _ _ _ _ _ (cutW ss p n) ws _ ?_ rfl ?_ ?_ hc1 hf'.1); exact HL.out; exact (HC.out.alloc_ _).drewN _; exact (h'.alloc_ _).drewN _))
    go_wp2
    all_goals (go_ret; exact ⟨ret_bool hR.out.symm, below_drewN (by go_grown) _⟩)
  · have hR := Lib.hid (show fitsB ss ⟨k, p, n, ws⟩ = false by
      unfold fitsB; simp only []
      rcases Int.lt_or_le (ss.length : Int) ((p : Int) + n) with h1 | h1
      · rw [decide_eq_false (by omega), Bool.false_and, Bool.false_and]
      · rw [decide_eq_false (p := (ss.length : Int) - n + ws.length ≤ 20) (by omega), Bool.and_false, Bool.false_and])
    rcases Int.lt_or_le (ss.length : Int) ((p : Int) + n) with h1 | h1
    · clear hA
      go_enter Tryz.func23, Tryz.ntmps23
      go_wp2
      go_ret
      exact ⟨ret_bool hR.out.symm, by go_grown⟩
    · have h2 : ¬ (ss.length : Int) - n + ws.length ≤ 20 := by omega
      clear hA
      go_enter Tryz.func23, Tryz.ntmps23
      go_wp2
      go_ret
      exact ⟨ret_bool hR.out.symm, by go_grown⟩
set_option maxHeartbeats 400000 in
theorem fitsText_any (A B : Option Addr) (c d : Nat) (ss : List ByteArray) (a : Amd) (w : World) (h : Cells w A (strs ss)) (hc : ss.length ≤ c) (hf : Fit ss) (h' : Cells w B (strs a.ws)) (hf' : Fit a.ws) (hv : vldA a = true) :
    Calls Tryz.prog 46 #[.slice A ss.length c, .agg #[.int .i64 a.k, .int .i64 a.p, .int .i64 a.n, .slice B a.ws.length d]] w fun e w' => e = .returned (.bool (fitsB ss a)) ∧ Below w.heap.size w w' := by
  obtain ⟨hp0, hp1, hn0, hn1, hw1, _, _⟩ := vldA_range hv
  have hl := hf.1
  clear hv
  obtain ⟨k, p, n, ws⟩ := a
  simp only at *
  obtain ⟨p, rfl⟩ := Int.eq_ofNat_of_zero_le hp0
  obtain ⟨n, rfl⟩ := Int.eq_ofNat_of_zero_le hn0
  by_cases hA : (p : Int) + n ≤ ss.length ∧ (ss.length : Int) - n + ws.length ≤ 20
  · obtain ⟨h1, h2⟩ := hA
    have q0 : IntKind.i64.wrap ((p : Int) + n) = (p : Int) + n := by rw [IntKind.wrap_i64]; omega
    have q1 : ((p : Int) + n).toNat = p + n := by omega
    have q2 : (p : Int) ≤ (p : Int) + n := by omega
    have q3 : (p : Int) + n ≤ (c : Int) := by omega
    have hcut : Cells w (if c = p then A else A.map (·.add p)) (strs (cutW ss p n)) := by
      have := h.cut (lo := p) (n := n) (A' := if c = p then A else A.map (·.add p)) (fun h0 => by rw [if_neg (by omega)])
      rwa [strs_cut] at this
    have hlen : n = (cutW ss p n).length := by unfold cutW; rw [Int.toNat_natCast, Int.toNat_natCast, List.length_take, List.length_drop]; omega
    have hR := Lib.hid (show fitsB ss ⟨k, p, n, ws⟩ = !decide (cutW ss p n = ws) by
      unfold fitsB; simp only []; rw [decide_eq_true h1, decide_eq_true h2]; rfl)
    have hc1 : (cutW ss p n).length ≤ 1048576 := by rw [← hlen]; omega
    have HL := Lib.hid hlen
    have HC := Lib.hid hcut
    clear hlen hcut
    by_cases hk : k = 3
    · subst hk
      have hne : ((3 : Int) != 3) = false := rfl
      go_enter Tryz.func46, Tryz.ntmps46
      go_wp2_with fail
      go_quiet ((go_at_call 64; refine Calls.quiet_of (slEqual_n _ _ _ _ _ _ (cutW ss p n) ws _ ?_ rfl ?_ ?_ hc1 hf'.1); exact HL.out; exact (HC.out.alloc_ _).drewN _; exact (h'.alloc_ _).drewN _))
      go_wp2
      all_goals (go_ret; exact ⟨ret_bool hR.out.symm, below_drewN (by go_grown) _⟩)
    · have hne : (k != 3) = true := by simp; exact hk
      have hd : (!decide (cutW ss p n = ws)) = true := by
        have h3 := HL.out
        have : cutW ss p n ≠ ws := fun e => by rw [e] at h3; omega
        simp [this]
      have HD := Lib.hid (hR.out.trans hd)
      clear hd hR hk
      go_enter Tryz.func46, Tryz.ntmps46
      go_wp2_with fail
      go_quiet (fail)
      go_wp2
      all_goals (go_ret; exact ⟨ret_bool HD.out.symm, below_drewN (by go_grown) _⟩)
  · have hR := Lib.hid (show fitsB ss ⟨k, p, n, ws⟩ = false by
      unfold fitsB; simp only []
      rcases Int.lt_or_le (ss.length : Int) ((p : Int) + n) with h1 | h1
      · rw [decide_eq_false (by omega), Bool.false_and, Bool.false_and]
      · rw [decide_eq_false (p := (ss.length : Int) - n + ws.length ≤ 20) (by omega), Bool.and_false, Bool.false_and])
    rcases Int.lt_or_le (ss.length : Int) ((p : Int) + n) with h1 | h1
    · clear hA
      go_enter Tryz.func46, Tryz.ntmps46
      go_wp2
      go_ret
      exact ⟨ret_bool hR.out.symm, by go_grown⟩
    · have h2 : ¬ (ss.length : Int) - n + ws.length ≤ 20 := by omega
      clear hA
      go_enter Tryz.func46, Tryz.ntmps46
      go_wp2
      go_ret
      exact ⟨ret_bool hR.out.symm, by go_grown⟩
end Go.Proofs.YtnnphhhjkhoglaaGreatDoor
