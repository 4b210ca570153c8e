/- FindSection and DocumentText, in the program and in the reference. Conditions: the ranges named. -/
import Derived.Test.YtajfbiihlfccnaaDoorDs3
namespace Go.Proofs.YtajfbiihlfccnaaDoor
open Go.RowKit
set_option linter.unusedVariables false
set_option linter.unusedSimpArgs false
/-- The first of the first n sections that bears a number. -/
def fsU (xs : List Sec) (s : ByteArray) : Nat → Option Nat
  | 0 => none
  | k + 1 => match fsU xs s k with
    | some j => some j
    | none => if numS xs k = s then some k else none
theorem fsU_yes {xs : List Sec} {s : ByteArray} {k : Nat} (h : fsU xs s k = none) (he : numS xs k = s) : ∀ {n}, k < n → fsU xs s n = some k := by
  intro n
  induction n with
  | zero => intro h; omega
  | succ n ih =>
    intro hn
    rcases Nat.lt_or_ge k n with h1 | h1
    · rw [fsU, ih h1]
    · obtain rfl : n = k := by omega
      rw [fsU, h]
      exact if_pos he
theorem fsU_no {xs : List Sec} {s : ByteArray} {k : Nat} (h : fsU xs s k = none) (he : numS xs k ≠ s) : fsU xs s (k + 1) = none := by
  rw [fsU, h]
  exact if_neg he
def fsI (xs : List Sec) (s : ByteArray) : Int := if docB xs = true then ((fsU xs s xs.length).getD 0 : Nat) else 0
def fsB (xs : List Sec) (s : ByteArray) : Bool := docB xs && (fsU xs s xs.length).isSome
theorem fs_bad {xs : List Sec} {s : ByteArray} (h : docB xs = false) : fsI xs s = 0 ∧ fsB xs s = false := by unfold fsI fsB; rw [h]; exact ⟨rfl, rfl⟩
theorem fs_yes {xs : List Sec} {s : ByteArray} {k : Nat} (h : docB xs = true) (hk : fsU xs s xs.length = some k) : fsI xs s = k ∧ fsB xs s = true := by unfold fsI fsB; rw [h, hk]; exact ⟨rfl, rfl⟩
theorem fs_no {xs : List Sec} {s : ByteArray} (h : docB xs = true) (hk : fsU xs s xs.length = none) : fsI xs s = 0 ∧ fsB xs s = false := by unfold fsI fsB; rw [h, hk]; exact ⟨rfl, rfl⟩
def spB : ByteArray := ⟨#[32]⟩
def nlB : ByteArray := ⟨#[10]⟩
/-- The text of the first n sections. -/
def txF (xs : List Sec) : Nat → ByteArray
  | 0 => ByteArray.empty
  | k + 1 => txF xs k ++ (numS xs k ++ spB ++ tAt xs k ++ nlB)
def txS (xs : List Sec) : ByteArray := if docB xs = true then txF xs xs.length else ByteArray.empty
theorem word_size {s : ByteArray} (h : wordB s = true) : s.size ≤ 10 := by
  unfold wordB at h
  rw [Bool.and_eq_true] at h
  have := inB_iff.1 h.2
  omega
theorem txF_size {xs : List Sec} (hw : ∀ k, k < xs.length → wordB (tAt xs k) = true) (h12 : xs.length ≤ 12) : ∀ {k}, k ≤ xs.length → (txF xs k).size ≤ 100 * k
  | 0, _ => by simp [txF]
  | k + 1, h => by
    have h1 := txF_size hw h12 (k := k) (by omega)
    have h2 := numS_size (xs := xs) (show k < 20 by omega)
    have h3 := word_size (hw k (by omega))
    have h4 : spB.size = 1 := rfl
    have h5 : nlB.size = 1 := rfl
    rw [txF, ByteArray.size_append, ByteArray.size_append, ByteArray.size_append, ByteArray.size_append]
    omega
set_option maxHeartbeats 2000000 in
theorem documentText_any (A : Option Addr) (c : Nat) (xs : List Sec) (w : World) (h : Cells w A (SectionK.row xs)) (hd : docB xs = true) :
    Calls Tryd.prog 58 #[.slice A xs.length c] w fun e w' => e = .returned (.string (txF xs xs.length)) ∧ Below w.heap.size w w' := by
  have H := Lib.hid h
  obtain ⟨h12, hw⟩ := doc_yes hd
  have HWD := Lib.hid hw
  have HSZ := Lib.hid (fun k (hk : k ≤ xs.length) => txF_size hw h12 hk)
  clear h hw hd
  go_enter Tryd.func58, Tryd.ntmps58
  go_wp2
  go_loopw [3, 8] (fun vt vi wr => ∃ k : Nat, k ≤ xs.length ∧ vt = .string (txF xs k) ∧ vi = .int .i64 k ∧ Hid (Below w.heap.size w wr)) (fun _ vi _ => xs.length - (intOf vi).toNat)
  case atStart => exact ⟨0, Nat.zero_le _, rfl, rfl, Lib.hid (Below.refl _ _)⟩
  case round =>
    obtain ⟨k, hk, rfl, rfl, HB⟩ := hrel
    by_cases hlt : k < xs.length
    · have i1 : (k : Int) < (xs.length : Int) := by omega
      have HCW := Lib.hid (show Cells wr A (SectionK.row xs) from H.out.below HB.out)
      obtain ⟨a, rfl, hc0, hc1⟩ := sec_cell HCW.out hlt
      have hz1 := HSZ.out k (by omega)
      have hz2 := numS_size (xs := xs) (show k < 20 by omega)
      have hz3 := word_size (HWD.out k hlt)
      have HTX := Lib.hid (show txF xs (k + 1) = txF xs k ++ (numS xs k ++ spB ++ tAt xs k ++ nlB) from rfl)
      obtain ⟨tx, htx⟩ : ∃ tx, Hid (txF xs k = tx) := ⟨_, Lib.hid rfl⟩
      rw [htx.out] at HTX hz1 ⊢
      obtain ⟨dk, hdk⟩ : ∃ dk, Hid (dAt xs k = dk) := ⟨_, Lib.hid rfl⟩
      rw [hdk.out] at hc0
      obtain ⟨tk, htk⟩ : ∃ tk, Hid (tAt xs k = tk) := ⟨_, Lib.hid rfl⟩
      rw [htk.out] at HTX hc1 hz3
      have y1 : ¬ 9223372036854775807 < (numS xs k).size + 1 := by omega
      have y2 : ¬ 9223372036854775807 < (numS xs k).size + 1 + tk.size := by omega
      have y3 : ¬ 9223372036854775807 < (numS xs k).size + 1 + tk.size + 1 := by omega
      have y4 : ¬ 9223372036854775807 < tx.size + ((numS xs k).size + 1 + tk.size + 1) := by omega
      clear hz1 hz2 hz3
      go_wp2
      go_quiet ((go_at_call 64; refine Go.Calls.quiet_of (sectionNumber_any _ _ _ (by omega) k _ ?_ hlt); exact (HCW.out.alloc_ _).drewM _))
      go_wp2
      go_roundw
      case rel => exact ⟨k + 1, hlt, by rw [HTX.out]; rfl, by go_num, Lib.hid (by have hb9 := HB.out; have hs9 := HB.out.size; first | (go_grown; done) | (refine below_drewN ?_ _; go_grown))⟩
      case measure => simp [intOf]; omega
    · obtain rfl : k = xs.length := by omega
      go_wp2
      go_ret
      exact ⟨rfl, by have hb9 := HB.out; have hs9 := HB.out.size; first | (go_grown; done) | (refine below_drewN ?_ _; go_grown)⟩
set_option maxHeartbeats 2000000 in
theorem l6Text_any (A : Option Addr) (c : Nat) (xs : List Sec) (w : World) (h : Cells w A (SectionK.row xs)) (hd : docB xs = true) :
    Calls Tryd.prog 55 #[.slice A xs.length c] w fun e w' => e = .returned (.string (txF xs xs.length)) ∧ ∃ m, w' = w.drewN m := by
  have H := Lib.hid h
  obtain ⟨h12, hw⟩ := doc_yes hd
  have HWD := Lib.hid hw
  have HSZ := Lib.hid (fun k (hk : k ≤ xs.length) => txF_size hw h12 hk)
  clear h hw hd
  go_enter Tryd.func55, Tryd.ntmps55
  go_wp2
  go_loopw [3, 4] (fun vt vi wr => ∃ k : Nat, k ≤ xs.length ∧ vt = .string (txF xs k) ∧ vi = .int .i64 k ∧ Hid (∃ n, wr = w.drewN n)) (fun _ vi _ => xs.length - (intOf vi).toNat)
  case atStart => exact ⟨0, Nat.zero_le _, rfl, rfl, Lib.hid ⟨0, rfl⟩⟩
  case round =>
    obtain ⟨k, hk, rfl, rfl, HB⟩ := hrel
    by_cases hlt : k < xs.length
    · have i1 : (k : Int) < (xs.length : Int) := by omega
      have HCW := Lib.hid (show Cells wr A (SectionK.row xs) from by (obtain ⟨n, hn⟩ := HB.out); rw [hn]; exact H.out)
      obtain ⟨a, rfl, hc0, hc1⟩ := sec_cell HCW.out hlt
      have hz1 := HSZ.out k (by omega)
      have hz2 := numS_size (xs := xs) (show k < 20 by omega)
      have hz3 := word_size (HWD.out k hlt)
      have HTX := Lib.hid (show txF xs (k + 1) = txF xs k ++ (numS xs k ++ spB ++ tAt xs k ++ nlB) from rfl)
      obtain ⟨tx, htx⟩ : ∃ tx, Hid (txF xs k = tx) := ⟨_, Lib.hid rfl⟩
      rw [htx.out] at HTX hz1 ⊢
      obtain ⟨dk, hdk⟩ : ∃ dk, Hid (dAt xs k = dk) := ⟨_, Lib.hid rfl⟩
      rw [hdk.out] at hc0
      obtain ⟨tk, htk⟩ : ∃ tk, Hid (tAt xs k = tk) := ⟨_, Lib.hid rfl⟩
      rw [htk.out] at HTX hc1 hz3
      have y1 : ¬ 9223372036854775807 < tx.size + (numS xs k).size := by omega
      have y2 : ¬ 9223372036854775807 < tx.size + (numS xs k).size + 1 := by omega
      have y3 : ¬ 9223372036854775807 < tx.size + (numS xs k).size + 1 + tk.size := by omega
      have y4 : ¬ 9223372036854775807 < tx.size + (numS xs k).size + 1 + tk.size + 1 := by omega
      clear hz1 hz2 hz3
      go_wp2
      go_quiet ((go_at_call 66; refine Go.Calls.quiet_of (l6Number_any _ _ _ (by omega) k _ ?_ hlt); exact HCW.out.drewM _))
      go_wp2
      go_roundw
      case rel => exact ⟨k + 1, hlt, by rw [HTX.out, ← ByteArray.append_assoc, ← ByteArray.append_assoc, ← ByteArray.append_assoc]; rfl, by go_num, Lib.hid (by (obtain ⟨n, hn⟩ := HB.out); first | exact ⟨_, hn⟩ | exact drew_more hn _)⟩
      case measure => simp [intOf]; omega
    · obtain rfl : k = xs.length := by omega
      go_wp2
      go_ret
      exact ⟨rfl, by (obtain ⟨n, hn⟩ := HB.out); first | exact ⟨_, hn⟩ | exact drew_more hn _⟩
theorem DocumentText_any (A : Option Addr) (c : Nat) (xs : List Sec) (w : World) (h : Cells w A (SectionK.row xs)) (hn : xs.length ≤ 1048576) (hf : ∀ x ∈ xs, SectionK.fit x) :
    Calls Tryd.prog 35 #[.slice A xs.length c] w fun e w' => e = .returned (.tuple #[.string (txS xs), .bool (docB xs)]) ∧ Below w.heap.size w w' := by
  have H := Lib.hid h
  have HF := Lib.hid hf
  clear h hf
  go_enter Tryd.func35, Tryd.ntmps35
  go_wp2_with fail
  refine (IsDocument_any A c xs w H.out hn HF.out).mono ?_
  rintro e w1 ⟨rfl, hb⟩
  have HB1 := Lib.hid hb
  clear hb
  rcases Bool.eq_false_or_eq_true (docB xs) with hd | hd
  · have HD := Lib.hid hd
    have HT := Lib.hid (show txS xs = txF xs xs.length from if_pos hd)
    rw [hd]
    clear hd
    go_wp2_with (go_at_call 58; refine (documentText_any A c xs w1 (H.out.below HB1.out) HD.out).mono ?_; rintro e w2 ⟨rfl, hb⟩; have HB2 := Lib.hid (after HB1.out hb); clear hb)
    go_ret2
    rw [HT.out, HD.out]
    exact ⟨by first | rfl | (simp; done) | (simp [Array.getD]; done), HB2.out⟩
  · have HT := Lib.hid (show txS xs = ByteArray.empty from if_neg (by simp [hd]))
    have HD := Lib.hid hd
    rw [hd]
    clear hd
    go_wp2
    go_ret2
    rw [HT.out, HD.out]
    exact ⟨by first | rfl | (simp; done) | (simp [Array.getD]; done), HB1.out⟩
theorem sDocumentText_any (A : Option Addr) (c : Nat) (xs : List Sec) (w : World) (h : Cells w A (SectionK.row xs)) (hn : xs.length ≤ 1048576) (hf : ∀ x ∈ xs, SectionK.fit x) :
    Calls Tryd.prog 36 #[.slice A xs.length c] w fun e w' => e = .returned (.tuple #[.string (txS xs), .bool (docB xs)]) ∧ Below w.heap.size w w' := by
  have H := Lib.hid h
  have HF := Lib.hid hf
  clear h hf
  go_enter Tryd.func36, Tryd.ntmps36
  go_wp2_with fail
  refine (l6Good_any A c xs w H.out hn HF.out).mono ?_
  rintro e w1 ⟨rfl, hb⟩
  obtain ⟨m1, hm1⟩ := hb
  have HB1 := Lib.hid (show Below w.heap.size w w1 by rw [hm1]; exact below_drewN (Below.refl _ _) _)
  clear hm1
  rcases Bool.eq_false_or_eq_true (docB xs) with hd | hd
  · have HD := Lib.hid hd
    have HT := Lib.hid (show txS xs = txF xs xs.length from if_pos hd)
    rw [hd]
    clear hd
    go_wp2_with (go_at_call 55; refine (l6Text_any A c xs w1 (H.out.below HB1.out) HD.out).mono ?_; rintro e w2 ⟨rfl, hb⟩; (obtain ⟨m2, hm2⟩ := hb); have HB2 := Lib.hid (show Below w.heap.size w w2 by rw [hm2]; exact below_drewN HB1.out _); clear hm2)
    go_ret2
    rw [HT.out, HD.out]
    exact ⟨by first | rfl | (simp; done) | (simp [Array.getD]; done), HB2.out⟩
  · have HT := Lib.hid (show txS xs = ByteArray.empty from if_neg (by simp [hd]))
    have HD := Lib.hid hd
    rw [hd]
    clear hd
    go_wp2
    go_ret2
    rw [HT.out, HD.out]
    exact ⟨by first | rfl | (simp; done) | (simp [Array.getD]; done), HB1.out⟩
set_option maxHeartbeats 2000000 in
theorem FindSection_any (A : Option Addr) (c : Nat) (xs : List Sec) (s : ByteArray) (w : World) (h : Cells w A (SectionK.row xs)) (hn : xs.length ≤ 1048576) (hf : ∀ x ∈ xs, SectionK.fit x) :
    Calls Tryd.prog 30 #[.slice A xs.length c, .string s] w fun e w' => e = .returned (.tuple #[.int .i64 (fsI xs s), .bool (fsB xs s)]) ∧ Below w.heap.size w w' := by
  have H := Lib.hid h
  have HF := Lib.hid hf
  clear h hf
  go_enter Tryd.func30, Tryd.ntmps30
  go_wp2_with fail
  refine (IsDocument_any A c xs w H.out hn HF.out).mono ?_
  rintro e w1 ⟨rfl, hb⟩
  have HB1 := Lib.hid hb
  clear hb
  rcases Bool.eq_false_or_eq_true (docB xs) with hd | hd
  · have HD := Lib.hid hd
    rw [hd]
    obtain ⟨h12, _⟩ := doc_yes hd
    clear hd
    go_wp2
    go_loopw [12] (fun vi wr => ∃ k : Nat, k ≤ xs.length ∧ vi = .int .i64 k ∧ Hid (fsU xs s k = none) ∧ Hid (Below w.heap.size w wr)) (fun vi _ => xs.length - (intOf vi).toNat)
    case atStart => exact ⟨0, Nat.zero_le _, rfl, Lib.hid rfl, HB1⟩
    case round =>
      clear HB1
      obtain ⟨k, hk, rfl, HQ, HB⟩ := hrel
      by_cases hlt : k < xs.length
      · have i1 : (k : Int) < (xs.length : Int) := by omega
        have HCW := Lib.hid (show Cells wr A (SectionK.row xs) from H.out.below HB.out)
        by_cases he : numS xs k = s
        · have HR := Lib.hid (fs_yes HD.out (fsU_yes HQ.out he hlt))
          have b1 : ((numS xs k).toList == s.toList) = true := by rw [he]; simp
          have b2 : (numS xs k).toList = s.toList := by rw [he]
          clear he HQ
          go_wp2_with (go_at_call 64; refine (sectionNumber_any _ _ _ (by omega) k _ HCW.out hlt).mono ?_; rintro e w3 ⟨rfl, hb⟩; (obtain ⟨m3, hm3⟩ := hb); have HB3 := Lib.hid (show Below w.heap.size w w3 by rw [hm3]; exact below_drewN HB.out _); clear hm3)
          go_ret2
          rw [HR.out.1, HR.out.2]
          exact ⟨by first | rfl | (simp; done) | (simp [Array.getD]; done), HB3.out⟩
        · have HR := Lib.hid (fsU_no HQ.out he)
          have b1 : ((numS xs k).toList == s.toList) = false := by simp [bytes_toList, he]
          have b2 : ¬ (numS xs k).toList = s.toList := by simp [bytes_toList, he]
          clear he HQ
          go_wp2_with (go_at_call 64; refine (sectionNumber_any _ _ _ (by omega) k _ HCW.out hlt).mono ?_; rintro e w3 ⟨rfl, hb⟩; (obtain ⟨m3, hm3⟩ := hb); have HB3 := Lib.hid (show Below w.heap.size w w3 by rw [hm3]; exact below_drewN HB.out _); clear hm3)
          go_roundw
          case rel => exact ⟨k + 1, hlt, by go_num, HR, HB3⟩
          case measure => simp [intOf]; omega
      · obtain rfl : k = xs.length := by omega
        have HR := Lib.hid (fs_no HD.out HQ.out)
        clear HQ
        go_wp2
        go_ret2
        rw [HR.out.1, HR.out.2]
        exact ⟨by first | rfl | (simp; done) | (simp [Array.getD]; done), HB.out⟩
  · have HR := Lib.hid (fs_bad (s := s) hd)
    rw [hd]
    clear hd
    go_wp2
    go_ret2
    rw [HR.out.1, HR.out.2]
    exact ⟨by first | rfl | (simp; done) | (simp [Array.getD]; done), HB1.out⟩
set_option maxHeartbeats 2000000 in
theorem sFindSection_any (A : Option Addr) (c : Nat) (xs : List Sec) (s : ByteArray) (w : World) (h : Cells w A (SectionK.row xs)) (hn : xs.length ≤ 1048576) (hf : ∀ x ∈ xs, SectionK.fit x) :
    Calls Tryd.prog 33 #[.slice A xs.length c, .string s] w fun e w' => e = .returned (.tuple #[.int .i64 (fsI xs s), .bool (fsB xs s)]) ∧ Below w.heap.size w w' := by
  have H := Lib.hid h
  have HF := Lib.hid hf
  clear h hf
  go_enter Tryd.func33, Tryd.ntmps33
  go_wp2_with fail
  refine (l6Good_any A c xs w H.out hn HF.out).mono ?_
  rintro e w1 ⟨rfl, hb⟩
  obtain ⟨m1, hm1⟩ := hb
  have HB1 := Lib.hid (show Below w.heap.size w w1 by rw [hm1]; exact below_drewN (Below.refl _ _) _)
  clear hm1
  rcases Bool.eq_false_or_eq_true (docB xs) with hd | hd
  · have HD := Lib.hid hd
    rw [hd]
    obtain ⟨h12, _⟩ := doc_yes hd
    clear hd
    go_wp2
    go_loopw [6] (fun vi wr => ∃ k : Nat, k ≤ xs.length ∧ vi = .int .i64 k ∧ Hid (fsU xs s k = none) ∧ Hid (Below w.heap.size w wr)) (fun vi _ => xs.length - (intOf vi).toNat)
    case atStart => exact ⟨0, Nat.zero_le _, rfl, Lib.hid rfl, HB1⟩
    case round =>
      clear HB1
      obtain ⟨k, hk, rfl, HQ, HB⟩ := hrel
      by_cases hlt : k < xs.length
      · have i1 : (k : Int) < (xs.length : Int) := by omega
        have HCW := Lib.hid (show Cells wr A (SectionK.row xs) from H.out.below HB.out)
        by_cases he : numS xs k = s
        · have HR := Lib.hid (fs_yes HD.out (fsU_yes HQ.out he hlt))
          have b1 : ((numS xs k).toList == s.toList) = true := by rw [he]; simp
          have b2 : (numS xs k).toList = s.toList := by rw [he]
          clear he HQ
          go_wp2_with (go_at_call 66; refine (l6Number_any _ _ _ (by omega) k _ HCW.out hlt).mono ?_; rintro e w3 ⟨rfl, hb⟩; (obtain ⟨m3, hm3⟩ := hb); have HB3 := Lib.hid (show Below w.heap.size w w3 by rw [hm3]; exact below_drewN HB.out _); clear hm3)
          go_ret2
          rw [HR.out.1, HR.out.2]
          exact ⟨by first | rfl | (simp; done) | (simp [Array.getD]; done), HB3.out⟩
        · have HR := Lib.hid (fsU_no HQ.out he)
          have b1 : ((numS xs k).toList == s.toList) = false := by simp [bytes_toList, he]
          have b2 : ¬ (numS xs k).toList = s.toList := by simp [bytes_toList, he]
          clear he HQ
          go_wp2_with (go_at_call 66; refine (l6Number_any _ _ _ (by omega) k _ HCW.out hlt).mono ?_; rintro e w3 ⟨rfl, hb⟩; (obtain ⟨m3, hm3⟩ := hb); have HB3 := Lib.hid (show Below w.heap.size w w3 by rw [hm3]; exact below_drewN HB.out _); clear hm3)
          go_roundw
          case rel => exact ⟨k + 1, hlt, by go_num, HR, HB3⟩
          case measure => simp [intOf]; omega
      · obtain rfl : k = xs.length := by omega
        have HR := Lib.hid (fs_no HD.out HQ.out)
        clear HQ
        go_wp2
        go_ret2
        rw [HR.out.1, HR.out.2]
        exact ⟨by first | rfl | (simp; done) | (simp [Array.getD]; done), HB.out⟩
  · have HR := Lib.hid (fs_bad (s := s) hd)
    rw [hd]
    clear hd
    go_wp2
    go_ret2
    rw [HR.out.1, HR.out.2]
    exact ⟨by first | rfl | (simp; done) | (simp [Array.getD]; done), HB1.out⟩
end Go.Proofs.YtajfbiihlfccnaaDoor
