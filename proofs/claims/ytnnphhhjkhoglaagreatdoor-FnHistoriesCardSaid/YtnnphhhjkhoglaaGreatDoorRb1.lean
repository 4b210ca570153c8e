/- Lists of amendments: are they valid, in the program and in the reference. Conditions: the ranges named. -/
import Derived.Test.YtnnphhhjkhoglaaGreatDoorDa5
import Derived.Test.YtnnphhhjkhoglaaGreatDoorInv3
import Derived.Test.YtnnphhhjkhoglaaGreatDoorApp2
import Derived.Test.YtnnphhhjkhoglaaGreatDoorOb3
namespace Go.Proofs.YtnnphhhjkhoglaaGreatDoor
open Go.RowKit
set_option linter.unusedVariables false
set_option linter.unusedSimpArgs false
theorem notVld_any (A : Option Addr) (c : Nat) (a : Amd) (w : World) (ha : Cells w A (strs a.ws)) (hf : Fit a.ws) :
    Calls Tryz.prog 45 #[.agg #[.int .i64 a.k, .int .i64 a.p, .int .i64 a.n, .slice A a.ws.length c]] w fun e w' => e = .returned (.bool (!vldA a)) ∧ Below w.heap.size w w' := by
  go_enter Tryz.func45, Tryz.ntmps45
  go_wp2_with (go_at_call 28; refine (IsValidAmendment_any A c a _ (ha.alloc_ _) hf).mono ?_; rintro e w1 ⟨rfl, hb⟩; have HB := Lib.hid ((below1 w (.cells #[.int .i64 a.k, .int .i64 a.p, .int .i64 a.n, .slice A a.ws.length c] 35)).trans (hb.mono (by simp))); clear hb)
  go_ret
  exact ⟨rfl, HB.out⟩
set_option maxHeartbeats 1000000 in
theorem indexVld_any (A : Option Addr) (c : Nat) (ps : List Amd) (w : World) (hd : DLQ w A c ps) (hf : FitQ ps) :
    Calls Tryz.prog 63 #[.slice A ps.length c, .func (.func 45) #[] #[]] w fun e w' => e = .returned (.int .i64 (findI (fun a => !vldA a) 0 ps)) ∧ Below w.heap.size w w' := by
  have hn := hf.1
  go_enter Tryz.func63, Tryz.ntmps63
  go_wp2
  go_loopw [8] (fun i wr => ∃ k : Nat, k ≤ ps.length ∧ i = .int .i64 k ∧ Hid (findI (fun a => !vldA a) 0 ps = findI (fun a => !vldA a) k (ps.drop k)) ∧ Below w.heap.size w wr) (fun i _ => ps.length - (intOf i).toNat)
  case atStart => exact ⟨0, Nat.zero_le _, rfl, rfl, Below.refl _ _⟩
  case round =>
    obtain ⟨k, hk, rfl, hq, hB⟩ := hrel
    by_cases hlt : k < ps.length
    · obtain ⟨a, A1, d1, rfl, ⟨hc0, hc1, hc2, hc3⟩, hle, hcw⟩ := (hd.below hB).at_ hlt
      have i1 : (k : Int) < (ps.length : Int) := by omega
      have HB := Lib.hid hB
      have HC := Lib.hid hcw
      have HFK := Lib.hid (hf.2.1 _ (List.getElem_mem hlt))
      rcases Bool.eq_false_or_eq_true (!vldA ps[k]) with hm | hm
      · have HA := Lib.hid (hq.out.trans (findI_hit (k := k) (i := k) (p := fun a => !vldA a) hlt hm))
        clear hB hq hcw
        go_wp2_with (go_at_call 45; refine (notVld_any A1 d1 ps[k] _ HC.out HFK.out).mono ?_; rintro e w1 ⟨rfl, hb⟩; rw [hm]; have HB1 := Lib.hid (after HB.out hb); clear hb)
        go_ret
        exact ⟨ret_int HA.out.symm, HB1.out⟩
      · have HA := Lib.hid (hq.out.trans (findI_miss (k := k) (i := k) (p := fun a => !vldA a) hlt hm))
        clear hB hq hcw
        go_wp2_with (go_at_call 45; refine (notVld_any A1 d1 ps[k] _ HC.out HFK.out).mono ?_; rintro e w1 ⟨rfl, hb⟩; rw [hm]; have HB1 := Lib.hid (after HB.out hb); clear hb)
        go_roundw
        case rel => exact ⟨k + 1, hlt, by go_num, HA.out, HB1.out⟩
        case measure => simp [intOf]; omega
    · obtain rfl : k = ps.length := by omega
      have HA := Lib.hid (hq.out.trans findI_end)
      go_wp2
      go_ret
      exact ⟨ret_int HA.out.symm, hB⟩
/-- At most eight amendments, all valid. -/
def listB (ps : List Amd) : Bool := decide ((ps.length : Int) ≤ 8) && ps.all vldA
theorem containsVld_any (A : Option Addr) (c : Nat) (ps : List Amd) (w : World) (hd : DLQ w A c ps) (hf : FitQ ps) :
    Calls Tryz.prog 44 #[.slice A ps.length c, .func (.func 45) #[] #[]] w fun e w' => e = .returned (.bool (!ps.all vldA)) ∧ Below w.heap.size w w' := by
  have hR := Lib.hid (show decide (0 ≤ findI (fun a => !vldA a) 0 ps) = !ps.all vldA by rw [findI_any, List.not_all_eq_any_not])
  go_enter Tryz.func44, Tryz.ntmps44
  go_wp2_with (go_at_call 63; refine (indexVld_any _ _ _ _ hd hf).mono ?_; rintro e w1 ⟨rfl, hb⟩; have HB := Lib.hid hb; clear hb)
  go_ret
  exact ⟨ret_bool hR.out, HB.out⟩
def rebB (ss : List ByteArray) (ps : List Amd) : Bool := wordsB ss 0 20 && listB ps
set_option maxHeartbeats 1000000 in
theorem canRebuild_any (T A : Option Addr) (t c : Nat) (ss : List ByteArray) (ps : List Amd) (w : World) (hT : Cells w T (strs ss)) (hfs : Fit ss) (hd : DLQ w A c ps) (hf : FitQ ps) :
    Calls Tryz.prog 19 #[.slice T ss.length t, .slice A ps.length c] w fun e w' => e = .returned (.bool (rebB ss ps)) ∧ Below w.heap.size w w' := by
  have HT := Lib.hid hT
  have HD := Lib.hid hd
  have HF := Lib.hid hf
  have hn := hf.1
  clear hT hd hf
  rcases Bool.eq_false_or_eq_true (wordsB ss 0 20) with hr | hr
  · by_cases h8 : (ps.length : Int) ≤ 8
    · have HR := Lib.hid (show rebB ss ps = ps.all vldA by unfold rebB listB; rw [hr, decide_eq_true h8]; simp)
      go_enter Tryz.func19, Tryz.ntmps19
      go_wp2_with (first
        | (go_at_call 43; refine (IsText_any T t ss _ HT.out hfs.1 hfs.2).mono ?_; rintro e w1 ⟨rfl, rfl⟩; rw [hr])
        | (go_at_call 44; refine (containsVld_any A c ps _ HD.out HF.out).mono ?_; rintro e w1 ⟨rfl, hb⟩; have HB := Lib.hid hb; clear hb))
      go_ret
      exact ⟨ret_bool (by rw [HR.out]), HB.out⟩
    · have HR := Lib.hid (show rebB ss ps = false by unfold rebB listB; rw [decide_eq_false h8]; simp)
      go_enter Tryz.func19, Tryz.ntmps19
      go_wp2_with (go_at_call 43; refine (IsText_any T t ss _ HT.out hfs.1 hfs.2).mono ?_; rintro e w1 ⟨rfl, rfl⟩; rw [hr])
      go_ret
      exact ⟨ret_bool HR.out.symm, Below.refl _ _⟩
  · have HR := Lib.hid (show rebB ss ps = false by unfold rebB; rw [hr]; simp)
    go_enter Tryz.func19, Tryz.ntmps19
    go_wp2_with (go_at_call 43; refine (IsText_any T t ss _ HT.out hfs.1 hfs.2).mono ?_; rintro e w1 ⟨rfl, rfl⟩; rw [hr])
    go_ret
    exact ⟨ret_bool HR.out.symm, Below.refl _ _⟩
theorem all_miss {ps : List Amd} {k : Nat} (h : k < ps.length) (hk : vldA ps[k] = false) : ps.all vldA = false := by
  rw [Bool.eq_false_iff]
  intro h1
  rw [List.all_eq_true] at h1
  have := h1 _ (List.getElem_mem h)
  rw [hk] at this; cases this
set_option maxHeartbeats 1000000 in
theorem l9List_any (A : Option Addr) (c : Nat) (ps : List Amd) (w : World) (hd : DLQ w A c ps) (hf : FitQ ps) :
    Calls Tryz.prog 22 #[.slice A ps.length c] w fun e w' => e = .returned (.bool (listB ps)) ∧ Below w.heap.size w w' := by
  have hn := hf.1
  have HF := Lib.hid hf
  go_enter Tryz.func22, Tryz.ntmps22
  go_wp2
  go_loopw [3] (fun i wr => ∃ k : Nat, k ≤ ps.length ∧ k ≤ 9 ∧ i = .int .i64 k ∧ Hid ((ps.take k).all vldA = true) ∧ Below w.heap.size w wr) (fun i _ => ps.length - (intOf i).toNat)
  case atStart => exact ⟨0, Nat.zero_le _, by omega, rfl, rfl, Below.refl _ _⟩
  case round =>
    obtain ⟨k, hk, hk9, rfl, hq, hB⟩ := hrel
    have HB := Lib.hid hB
    by_cases hlt : k < ps.length
    · have i1 : (k : Int) < (ps.length : Int) := by omega
      by_cases hl8 : k ≤ 8
      · have i2 : (k : Int) ≤ 8 := by omega
        obtain ⟨a, A1, d1, rfl, ⟨hc0, hc1, hc2, hc3⟩, hle, hcw⟩ := (hd.below hB).at_ hlt
        have HC := Lib.hid hcw
        have HFK := Lib.hid (HF.out.2.1 _ (List.getElem_mem hlt))
        rcases Bool.eq_false_or_eq_true (vldA ps[k]) with hm | hm
        · have HQ := Lib.hid (show (ps.take (k + 1)).all vldA = true by rw [List.take_succ_eq_append_getElem hlt, List.all_append, hq.out]; simp [hm])
          clear hB hcw hq
          go_wp2_with (go_at_call 34; refine (l9Good_any A1 d1 ps[k] _ HC.out HFK.out).mono ?_; rintro e w1 ⟨rfl, hb⟩; rw [hm]; have HB1 := Lib.hid (after HB.out hb); clear hb)
          go_roundw
          case rel => exact ⟨k + 1, hlt, by omega, by go_num, HQ.out, HB1.out⟩
          case measure => simp [intOf]; omega
        · have HR := Lib.hid (show listB ps = false by unfold listB; rw [all_miss hlt hm]; simp)
          clear hB hcw hq
          go_wp2_with (go_at_call 34; refine (l9Good_any A1 d1 ps[k] _ HC.out HFK.out).mono ?_; rintro e w1 ⟨rfl, hb⟩; rw [hm]; have HB1 := Lib.hid (after HB.out hb); clear hb)
          go_ret
          exact ⟨ret_bool HR.out.symm, HB1.out⟩
      · have i2 : ¬ (k : Int) ≤ 8 := by omega
        have i3 : ¬ (ps.length : Int) ≤ 8 := by omega
        have HR := Lib.hid (show listB ps = false by unfold listB; rw [decide_eq_false i3]; simp)
        clear hq
        go_wp2
        go_ret
        exact ⟨ret_bool (by rw [HR.out]), HB.out⟩
    · obtain rfl : k = ps.length := by omega
      have i3 : (ps.length : Int) ≤ 9 := by omega
      have HR := Lib.hid (show listB ps = decide ((ps.length : Int) ≤ 8) by have h1 := hq.out; rw [List.take_length] at h1; unfold listB; rw [h1]; simp)
      clear hq
      go_wp2
      go_ret
      exact ⟨ret_bool HR.out.symm, HB.out⟩
end Go.Proofs.YtnnphhhjkhoglaaGreatDoor
