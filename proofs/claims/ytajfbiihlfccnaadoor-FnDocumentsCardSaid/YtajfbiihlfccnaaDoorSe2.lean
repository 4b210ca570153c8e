/- Valid documents, in the program and in the reference. Conditions: the ranges named. -/
import Derived.Test.YtajfbiihlfccnaaDoorSe1
import Derived.Lib.MinMax
namespace Go.Proofs.YtajfbiihlfccnaaDoor
open Go.RowKit
set_option linter.unusedVariables false
set_option linter.unusedSimpArgs false
/-- How deep the section before place k lies. -/
def pdAt (xs : List Sec) : Nat → Int
  | 0 => 0
  | k + 1 => dAt xs k
def mdAt (xs : List Sec) (k : Nat) : Int := if pdAt xs k + 1 < 4 then pdAt xs k + 1 else 4
def okSec (xs : List Sec) (k : Nat) : Bool := inB (dAt xs k) 1 (mdAt xs k) && wordB (tAt xs k)
def docB (xs : List Sec) : Bool := allN (okSec xs) xs.length && decide (xs.length ≤ 12)
theorem pd_range {xs : List Sec} : ∀ {k : Nat}, allN (okSec xs) k = true → 0 ≤ pdAt xs k ∧ pdAt xs k ≤ 4
  | 0, _ => by simp [pdAt]
  | k + 1, h => by
    have h1 := allN_yes.1 h k (by omega)
    unfold okSec at h1
    rw [Bool.and_eq_true] at h1
    obtain ⟨h2, h3⟩ := inB_iff.1 h1.1
    rw [pdAt]
    unfold mdAt at h3
    split at h3 <;> omega
theorem doc_no {xs : List Sec} {k : Nat} (hk : k < xs.length) (h : okSec xs k = false) : docB xs = false := by
  unfold docB
  rw [allN_no hk h]; rfl
theorem doc_fin {xs : List Sec} (h : allN (okSec xs) xs.length = true) : docB xs = decide (xs.length ≤ 12) := by unfold docB; rw [h]; rfl
theorem doc_yes {xs : List Sec} (h : docB xs = true) : xs.length ≤ 12 ∧ ∀ k, k < xs.length → wordB (tAt xs k) = true := by
  unfold docB at h
  simp only [Bool.and_eq_true, decide_eq_true_eq] at h
  refine ⟨h.2, fun k hk => ?_⟩
  have h1 := allN_yes.1 h.1 k hk
  unfold okSec at h1
  rw [Bool.and_eq_true] at h1
  exact h1.2
theorem fit_at {xs : List Sec} (hf : ∀ x ∈ xs, SectionK.fit x) {k : Nat} (hk : k < xs.length) : (tAt xs k).size ≤ maxLen := by
  rw [← tAt_at hk]
  exact hf _ (List.getElem_mem _)
set_option maxHeartbeats 2000000 in
theorem IsDocument_any (A : Option Addr) (c : Nat) (xs : List Sec) (w : World) (h : Cells w A (SectionK.row xs)) (hn : xs.length ≤ 1048576) (hf : ∀ x ∈ xs, SectionK.fit x) :
    Calls Tryd.prog 37 #[.slice A xs.length c] w fun e w' => e = .returned (.bool (docB xs)) ∧ Below w.heap.size w w' := by
  have H := Lib.hid h
  have HF := Lib.hid hf
  clear h hf
  go_enter Tryd.func37, Tryd.ntmps37
  go_wp2
  go_loopw [3, 8] (fun vd vi wr => ∃ k : Nat, k ≤ xs.length ∧ vd = .int .i64 (pdAt xs k) ∧ vi = .int .i64 k ∧ Hid (allN (okSec xs) k = true) ∧ Hid (Below w.heap.size w wr)) (fun _ vi _ => xs.length - (intOf vi).toNat)
  case atStart => exact ⟨0, Nat.zero_le _, rfl, rfl, Lib.hid rfl, Lib.hid (Below.refl _ _)⟩
  case round =>
    obtain ⟨k, hk, rfl, rfl, HQ, HB⟩ := hrel
    by_cases hlt : k < xs.length
    · have i1 : (k : Int) < (xs.length : Int) := by omega
      have HP := Lib.hid (pd_range HQ.out)
      have HCW := Lib.hid (show Cells wr A (SectionK.row xs) from H.out.below HB.out)
      obtain ⟨a, rfl, hc0, hc1⟩ := sec_cell HCW.out hlt
      have hsz := fit_at HF.out hlt
      have HOK := Lib.hid (show okSec xs k = (inB (dAt xs k) 1 (mdAt xs k) && wordB (tAt xs k)) from rfl)
      have HPD := Lib.hid (show pdAt xs (k + 1) = dAt xs k from rfl)
      have HMD := Lib.hid (show (if pdAt xs k + 1 < 4 then pdAt xs k + 1 else 4) = mdAt xs k from rfl)
      obtain ⟨pd, hpd⟩ : ∃ pd, Hid (pdAt xs k = pd) := ⟨_, Lib.hid rfl⟩
      rw [hpd.out] at HP HMD ⊢
      obtain ⟨md, hmd⟩ : ∃ md, Hid (mdAt xs k = md) := ⟨_, Lib.hid rfl⟩
      rw [hmd.out] at HOK HMD
      obtain ⟨dk, hdk⟩ : ∃ dk, Hid (dAt xs k = dk) := ⟨_, Lib.hid rfl⟩
      rw [hdk.out] at HOK HPD hc0
      obtain ⟨tk, htk⟩ : ∃ tk, Hid (tAt xs k = tk) := ⟨_, Lib.hid rfl⟩
      rw [htk.out] at HOK hc1 hsz
      have q1 : IntKind.i64.wrap (pd + 1) = pd + 1 := by have := HP.out; rw [IntKind.wrap_i64]; omega
      have HWD := Lib.hid (fun w => isWord_any tk w hsz)
      clear hsz
      have e1 : min (pd + 1) 4 = md := by rw [Int.min_def, ← HMD.out]; split <;> split <;> omega
      rcases Bool.eq_false_or_eq_true (inB dk 1 md) with hi | hi
      · rcases Bool.eq_false_or_eq_true (wordB tk) with hw | hw
        · have HA := Lib.hid (allN_step HQ.out (show okSec xs k = true by rw [HOK.out, hi, hw]; rfl))
          clear HQ HOK
          go_wp2_with (first | (go_at_call 70; refine (inside_any _ _ _ _).mono ?_; rintro e w2 ⟨rfl, rfl⟩) | (go_at_call 71; refine (HWD.out _).mono ?_; rintro e w2 ⟨rfl, rfl⟩))
          go_roundw
          case rel => exact ⟨k + 1, hlt, by rw [HPD.out]; first | rfl | done, by go_num, HA, Lib.hid (by have hb9 := HB.out; have hs9 := HB.out.size; go_grown)⟩
          case measure => simp [intOf]; omega
        · have HD := Lib.hid (doc_no hlt (show okSec xs k = false by rw [HOK.out, hi, hw]; rfl))
          clear HQ HOK
          go_wp2_with (first | (go_at_call 70; refine (inside_any _ _ _ _).mono ?_; rintro e w2 ⟨rfl, rfl⟩) | (go_at_call 71; refine (HWD.out _).mono ?_; rintro e w2 ⟨rfl, rfl⟩))
          go_ret
          exact ⟨ret_bool HD.out.symm, by have hb9 := HB.out; have hs9 := HB.out.size; go_grown⟩
      · have HD := Lib.hid (doc_no hlt (show okSec xs k = false by rw [HOK.out, hi]; rfl))
        clear HQ HOK
        go_wp2_with (first | (go_at_call 70; refine (inside_any _ _ _ _).mono ?_; rintro e w2 ⟨rfl, rfl⟩) | (go_at_call 71; refine (HWD.out _).mono ?_; rintro e w2 ⟨rfl, rfl⟩))
        go_ret
        exact ⟨ret_bool HD.out.symm, by have hb9 := HB.out; have hs9 := HB.out.size; go_grown⟩
    · obtain rfl : k = xs.length := by omega
      have HD := Lib.hid (doc_fin HQ.out)
      clear HQ
      go_wp2
      go_ret
      exact ⟨ret_bool (by rw [HD.out]; simp; try omega), by have hb9 := HB.out; have hs9 := HB.out.size; go_grown⟩
set_option maxHeartbeats 2000000 in
theorem l6Good_any (A : Option Addr) (c : Nat) (xs : List Sec) (w : World) (h : Cells w A (SectionK.row xs)) (hn : xs.length ≤ 1048576) (hf : ∀ x ∈ xs, SectionK.fit x) :
    Calls Tryd.prog 54 #[.slice A xs.length c] w fun e w' => e = .returned (.bool (docB xs)) ∧ ∃ m, w' = w.drewN m := by
  have H := Lib.hid h
  have HF := Lib.hid hf
  clear h hf
  go_enter Tryd.func54, Tryd.ntmps54
  go_wp2
  go_loopw [3, 4] (fun vd vi wr => ∃ k : Nat, k ≤ xs.length ∧ vd = .int .i64 (pdAt xs k) ∧ vi = .int .i64 k ∧ Hid (allN (okSec xs) k = true) ∧ Hid (∃ n, wr = w.drewN n)) (fun _ vi _ => xs.length - (intOf vi).toNat)
  case atStart => exact ⟨0, Nat.zero_le _, rfl, rfl, Lib.hid rfl, Lib.hid ⟨0, rfl⟩⟩
  case round =>
    obtain ⟨k, hk, rfl, rfl, HQ, HB⟩ := hrel
    by_cases hlt : k < xs.length
    · have i1 : (k : Int) < (xs.length : Int) := by omega
      have HP := Lib.hid (pd_range HQ.out)
      have HCW := Lib.hid (show Cells wr A (SectionK.row xs) from by (obtain ⟨n, hn⟩ := HB.out); rw [hn]; exact H.out)
      obtain ⟨a, rfl, hc0, hc1⟩ := sec_cell HCW.out hlt
      have hsz := fit_at HF.out hlt
      have HOK := Lib.hid (show okSec xs k = (inB (dAt xs k) 1 (mdAt xs k) && wordB (tAt xs k)) from rfl)
      have HPD := Lib.hid (show pdAt xs (k + 1) = dAt xs k from rfl)
      have HMD := Lib.hid (show (if pdAt xs k + 1 < 4 then pdAt xs k + 1 else 4) = mdAt xs k from rfl)
      obtain ⟨pd, hpd⟩ : ∃ pd, Hid (pdAt xs k = pd) := ⟨_, Lib.hid rfl⟩
      rw [hpd.out] at HP HMD ⊢
      obtain ⟨md, hmd⟩ : ∃ md, Hid (mdAt xs k = md) := ⟨_, Lib.hid rfl⟩
      rw [hmd.out] at HOK HMD
      obtain ⟨dk, hdk⟩ : ∃ dk, Hid (dAt xs k = dk) := ⟨_, Lib.hid rfl⟩
      rw [hdk.out] at HOK HPD hc0
      obtain ⟨tk, htk⟩ : ∃ tk, Hid (tAt xs k = tk) := ⟨_, Lib.hid rfl⟩
      rw [htk.out] at HOK hc1 hsz
      have q1 : IntKind.i64.wrap (pd + 1) = pd + 1 := by have := HP.out; rw [IntKind.wrap_i64]; omega
      have HWD := Lib.hid (fun w => l2Word_any tk w hsz)
      clear hsz
      have HL := Lib.hid (fun w => show Calls Tryd.prog 82 #[.int .i64 (pd + 1), .int .i64 4] w fun e w' => e = .returned (.int .i64 md) ∧ w = w' from by have h9 := l1Least_any (pd + 1) 4 w; rw [HMD.out] at h9; exact h9)
      rcases Bool.eq_false_or_eq_true (inB dk 1 md) with hi | hi
      · rcases Bool.eq_false_or_eq_true (wordB tk) with hw | hw
        · have HA := Lib.hid (allN_step HQ.out (show okSec xs k = true by rw [HOK.out, hi, hw]; rfl))
          clear HQ HOK
          go_wp2
          go_quiet ((first | (go_at_call 82; first | exact quiet_left (HL.out _) | exact quiet_add_left (HL.out _)) | (go_at_call 72; first | exact quiet_left (l1In_any _ _ _ _) | exact quiet_add_left (l1In_any _ _ _ _)) | (go_at_call 84; first | exact quiet_left (HWD.out _) | exact quiet_add_left (HWD.out _))))
          go_wp2
          go_roundw
          case rel => exact ⟨k + 1, hlt, by rw [HPD.out]; first | rfl | done, by go_num, HA, Lib.hid (by (obtain ⟨n, hn⟩ := HB.out); first | exact ⟨_, hn⟩ | exact drew_more hn _)⟩
          case measure => simp [intOf]; omega
        · have HD := Lib.hid (doc_no hlt (show okSec xs k = false by rw [HOK.out, hi, hw]; rfl))
          clear HQ HOK
          go_wp2
          go_quiet ((first | (go_at_call 82; first | exact quiet_left (HL.out _) | exact quiet_add_left (HL.out _)) | (go_at_call 72; first | exact quiet_left (l1In_any _ _ _ _) | exact quiet_add_left (l1In_any _ _ _ _)) | (go_at_call 84; first | exact quiet_left (HWD.out _) | exact quiet_add_left (HWD.out _))))
          go_wp2
          go_ret
          exact ⟨ret_bool HD.out.symm, by (obtain ⟨n, hn⟩ := HB.out); first | exact ⟨_, hn⟩ | exact drew_more hn _⟩
      · have HD := Lib.hid (doc_no hlt (show okSec xs k = false by rw [HOK.out, hi]; rfl))
        clear HQ HOK
        go_wp2
        go_quiet ((first | (go_at_call 82; first | exact quiet_left (HL.out _) | exact quiet_add_left (HL.out _)) | (go_at_call 72; first | exact quiet_left (l1In_any _ _ _ _) | exact quiet_add_left (l1In_any _ _ _ _)) | (go_at_call 84; first | exact quiet_left (HWD.out _) | exact quiet_add_left (HWD.out _))))
        go_wp2
        go_ret
        exact ⟨ret_bool HD.out.symm, by (obtain ⟨n, hn⟩ := HB.out); first | exact ⟨_, hn⟩ | exact drew_more hn _⟩
    · obtain rfl : k = xs.length := by omega
      have HD := Lib.hid (doc_fin HQ.out)
      clear HQ
      go_wp2
      go_ret
      exact ⟨ret_bool (by rw [HD.out]; simp; try omega), by (obtain ⟨n, hn⟩ := HB.out); first | exact ⟨_, hn⟩ | exact drew_more hn _⟩
end Go.Proofs.YtajfbiihlfccnaaDoor
