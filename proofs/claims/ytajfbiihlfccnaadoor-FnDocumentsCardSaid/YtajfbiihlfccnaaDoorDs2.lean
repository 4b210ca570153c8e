/- The number of a section, in the program and in the reference. Conditions: the ranges named. -/
import Derived.Test.YtajfbiihlfccnaaDoorDs1
namespace Go.Proofs.YtajfbiihlfccnaaDoor
open Go.RowKit
set_option linter.unusedVariables false
set_option linter.unusedSimpArgs false
theorem Cells.drewM {w : World} {A : Option Addr} {xs : List Value} (h : Cells w A xs) (n : Nat) : Cells (w.drewN n) A xs := h
/-- How many of the first k sections lie beside section i. -/
def cntF (xs : List Sec) (i : Nat) : Nat → Nat
  | 0 => 0
  | k + 1 => cntF xs i k + (if dAt xs k = dAt xs i ∧ upN xs k = upN xs i then 1 else 0)
theorem cntF_le {xs : List Sec} {i : Nat} : ∀ k, cntF xs i k ≤ k
  | 0 => Nat.le_refl _
  | k + 1 => by
    have := cntF_le (xs := xs) (i := i) k
    rw [cntF]
    split <;> omega
def dotB : ByteArray := ⟨#[46]⟩
/-- The number of section i. -/
def numS (xs : List Sec) (i : Nat) : ByteArray :=
  if h : 0 ≤ upN xs i ∧ (upN xs i).toNat < i then numS xs (upN xs i).toNat ++ dotB ++ dec (cntF xs i (i + 1)) else dec (cntF xs i (i + 1))
termination_by i
decreasing_by exact h.2
theorem numS_top {xs : List Sec} {i : Nat} (h : upN xs i < 0) : numS xs i = dec (cntF xs i (i + 1)) := by rw [numS, dif_neg (by omega)]
theorem numS_sub {xs : List Sec} {i u : Nat} (h : upN xs i = (u : Int)) : numS xs i = numS xs u ++ dotB ++ dec (cntF xs i (i + 1)) := by
  have := upN_lt xs i
  rw [numS, dif_pos ⟨by omega, by omega⟩, h]
  rfl
theorem numS_size {xs : List Sec} : ∀ {i : Nat}, i < 20 → (numS xs i).size ≤ 3 * (i + 1) := by
  intro i
  induction i using Nat.strongRecOn with
  | _ i ih =>
    intro h
    have h1 := cntF_le (xs := xs) (i := i) (i + 1)
    have h2 := dec_sz2 (show cntF xs i (i + 1) ≤ 20 by omega)
    by_cases hu : upN xs i < 0
    · rw [numS_top hu]; omega
    · obtain ⟨u, hu2⟩ : ∃ u : Nat, upN xs i = (u : Int) := ⟨(upN xs i).toNat, by omega⟩
      have h3 := upN_lt xs i
      have h4 := ih u (by omega) (by omega)
      have h5 : dotB.size = 1 := rfl
      rw [numS_sub hu2, ByteArray.size_append, ByteArray.size_append]
      omega
set_option maxHeartbeats 2000000 in
theorem sectionNumber_any (A : Option Addr) (c : Nat) (xs : List Sec) (hm : xs.length ≤ 12) : ∀ (i : Nat) (w : World) (h : Cells w A (SectionK.row xs)) (hi : i < xs.length),
    Calls Tryd.prog 64 #[.slice A xs.length c, .int .i64 i] w fun e w' => e = .returned (.string (numS xs i)) ∧ ∃ m, w' = w.drewN m := by
  intro i
  induction i using Nat.strongRecOn with
  | _ i ih =>
  intro w h hi
  have IH := Lib.hid ih
  clear ih
  obtain ⟨a, rfl, hci, _⟩ := sec_cell h hi
  have H := Lib.hid h
  have HUL := Lib.hid (upN_lt xs i)
  have HT := Lib.hid (numS_top (xs := xs) (i := i))
  have HS := Lib.hid (fun u => numS_sub (xs := xs) (i := i) (u := u))
  have hcnt := cntF_le (xs := xs) (i := i) (i + 1)
  obtain ⟨di, hdi⟩ : ∃ di, Hid (dAt xs i = di) := ⟨_, Lib.hid rfl⟩
  rw [hdi.out] at hci
  have HCI := Lib.hid (show ∀ n, (w.drewN n).cell? (a.add (i * 2)) = some (.int .i64 di) from fun n => hci)
  have i0 : (i : Int) < (xs.length : Int) := by omega
  have q0 : IntKind.i64.wrap ((i : Int) + 1) = ((i + 1 : Nat) : Int) := by rw [IntKind.wrap_i64]; omega
  clear h hci
  go_enter Tryd.func64, Tryd.ntmps64
  go_wp2_with (go_at_call 67; refine (belongsTo_any _ _ _ _ _ H.out hi (by omega)).mono ?_; rintro e w1 ⟨rfl, hw1⟩; have HW1 := Lib.hid hw1; clear hw1)
  obtain ⟨u, hu⟩ : ∃ u, Hid (upN xs i = u) := ⟨_, Lib.hid rfl⟩
  rw [hu.out] at HUL HT HS ⊢
  go_loopw [6, 13] (fun vc vk wr => ∃ k n : Nat, k ≤ i + 1 ∧ vc = .int .i64 (cntF xs i k) ∧ vk = .int .i64 k ∧ wr = w.drewN n) (fun _ vk _ => i + 1 - (intOf vk).toNat)
  case atStart => (obtain ⟨m1, hm1⟩ := HW1.out); exact ⟨0, m1, Nat.zero_le _, rfl, rfl, hm1⟩
  case round =>
    clear HW1
    obtain ⟨k, n, hk, rfl, rfl, hwr⟩ := hrel
    have HW := Lib.hid hwr
    by_cases hlt : k < i + 1
    · have i1 : (k : Int) < ((i + 1 : Nat) : Int) := by omega
      obtain ⟨a', ha', hck, _⟩ := sec_cell H.out (show k < xs.length by omega)
      obtain rfl := Option.some.inj ha'
      have hcK : wr.cell? (a.add (k * 2)) = some (.int .i64 (dAt xs k)) := by rw [hwr]; exact hck
      have hcI : wr.cell? (a.add (i * 2)) = some (.int .i64 di) := by rw [hwr]; exact HCI.out n
      have HCW := Lib.hid (show Cells wr (some a) (SectionK.row xs) by rw [hwr]; exact H.out)
      have k0 : (k : Int) < (xs.length : Int) := by omega
      have hkx : k < xs.length := by omega
      have q1 : IntKind.i64.wrap ((k : Int) + 1) = ((k + 1 : Nat) : Int) := by rw [IntKind.wrap_i64]; omega
      have hcl := cntF_le (xs := xs) (i := i) k
      have q2 : IntKind.i64.wrap ((cntF xs i k : Int) + 1) = ((cntF xs i k + 1 : Nat) : Int) := by rw [IntKind.wrap_i64]; omega
      have HCN := Lib.hid (show cntF xs i (k + 1) = cntF xs i k + (if dAt xs k = dAt xs i ∧ upN xs k = upN xs i then 1 else 0) from rfl)
      rw [hdi.out, hu.out] at HCN
      obtain ⟨dk, hdk⟩ : ∃ dk, Hid (dAt xs k = dk) := ⟨_, Lib.hid rfl⟩
      rw [hdk.out] at hcK HCN
      clear hck hwr ha'
      obtain ⟨ck, hck⟩ : ∃ ck, Hid (cntF xs i k = ck) := ⟨_, Lib.hid rfl⟩
      rw [hck.out] at HCN q2 hcl ⊢
      by_cases hd : dk = di
      · have b1 : (dk == di) = true := by simp [hd]
        have HD := Lib.hid hd
        clear hd
        by_cases hq : upN xs k = u
        · have b2 : (upN xs k == u) = true := by simp [hq]
          have HR := Lib.hid (HCN.out.trans (congrArg (ck + ·) (if_pos ⟨HD.out, hq⟩)))
          clear hq HCN
          go_wp2
          go_quiet ((go_at_call 67; refine Go.Calls.quiet_of (belongsTo_any _ _ _ _ _ ?_ hkx (by omega)); exact HCW.out.drewM _))
          go_wp2
          go_roundw
          case rel => exact ⟨k + 1, _, by omega, by (have h9 := HR.out; first | (rw [h9]; done) | (rw [h9]; rfl) | (rw [h9]; go_num)), by go_num, (congrArg (fun u => World.drewN u _) HW.out).trans (World.drewN_drewN _ _ _)⟩
          case measure => simp [intOf]; omega
        · have b2 : (upN xs k == u) = false := by simp [hq]
          have HR := Lib.hid (HCN.out.trans (congrArg (ck + ·) (if_neg (fun h => hq h.2))))
          clear hq HCN
          go_wp2
          go_quiet ((go_at_call 67; refine Go.Calls.quiet_of (belongsTo_any _ _ _ _ _ ?_ hkx (by omega)); exact HCW.out.drewM _))
          go_wp2
          go_roundw
          case rel => exact ⟨k + 1, _, by omega, by (have h9 := HR.out; first | (rw [h9]; done) | (rw [h9]; rfl) | (rw [h9]; go_num)), by go_num, (congrArg (fun u => World.drewN u _) HW.out).trans (World.drewN_drewN _ _ _)⟩
          case measure => simp [intOf]; omega
      · have b1 : (dk == di) = false := by simp [hd]
        have HR := Lib.hid (HCN.out.trans (congrArg (ck + ·) (if_neg (fun h => hd h.1))))
        clear hd HCN
        go_wp2
        go_quiet (fail)
        go_wp2
        go_roundw
        case rel => exact ⟨k + 1, _, by omega, by (have h9 := HR.out; first | (rw [h9]; done) | (rw [h9]; rfl) | (rw [h9]; go_num)), by go_num, (congrArg (fun u => World.drewN u _) HW.out).trans (World.drewN_drewN _ _ _)⟩
        case measure => simp [intOf]; omega
    · obtain rfl : k = i + 1 := by omega
      have HCW := Lib.hid (show Cells wr (some a) (SectionK.row xs) by rw [hwr]; exact H.out)
      have i1 : ¬ ((i + 1 : Nat) : Int) < ((i + 1 : Nat) : Int) := by omega
      clear hwr hlt
      by_cases hu0 : u < 0
      · have HR := Lib.hid (HT.out hu0)
        go_wp2_with (go_at_call 77; refine (itoa_sm _ (by omega) _).mono ?_; rintro e w3 ⟨rfl, hw3⟩; subst hw3)
        go_ret
        exact ⟨by rw [HR.out]; rfl, by exact ⟨_, HW.out⟩⟩
      · obtain ⟨un, hun⟩ : ∃ un : Nat, u = (un : Int) := ⟨u.toNat, by omega⟩
        subst hun
        have hui : un < i := by have := HUL.out; omega
        have HR := Lib.hid (HS.out un rfl)
        have hz1 := numS_size (xs := xs) (show un < 20 by omega)
        have hz2 := dec_sz2 (show cntF xs i (i + 1) ≤ 20 by omega)
        have hz3 : ¬ 9223372036854775807 < (numS xs un).size + 1 := by omega
        have hz4 : ¬ 9223372036854775807 < (numS xs un).size + 1 + (dec (cntF xs i (i + 1))).size := by omega
        clear hz1 hz2
        go_wp2_with (first | (go_at_call 64; refine (IH.out un hui _ HCW.out (by omega)).mono ?_; rintro e w2 ⟨rfl, hw2⟩; have HW2 := Lib.hid hw2; clear hw2) | (go_at_call 77; refine (itoa_sm _ (by omega) _).mono ?_; rintro e w4 ⟨rfl, hw4⟩; subst hw4))
        go_ret
        exact ⟨by rw [HR.out]; rfl, by (obtain ⟨m2, h2⟩ := HW2.out); exact ⟨_, h2.trans ((congrArg (fun u => World.drewN u m2) HW.out).trans (World.drewN_drewN _ _ _))⟩⟩
set_option maxHeartbeats 2000000 in
theorem l6Number_any (A : Option Addr) (c : Nat) (xs : List Sec) (hm : xs.length ≤ 12) : ∀ (i : Nat) (w : World) (h : Cells w A (SectionK.row xs)) (hi : i < xs.length),
    Calls Tryd.prog 66 #[.slice A xs.length c, .int .i64 i] w fun e w' => e = .returned (.string (numS xs i)) ∧ ∃ m, w' = w.drewN m := by
  intro i
  induction i using Nat.strongRecOn with
  | _ i ih =>
  intro w h hi
  have IH := Lib.hid ih
  clear ih
  obtain ⟨a, rfl, hci, _⟩ := sec_cell h hi
  have H := Lib.hid h
  have HUL := Lib.hid (upN_lt xs i)
  have HT := Lib.hid (numS_top (xs := xs) (i := i))
  have HS := Lib.hid (fun u => numS_sub (xs := xs) (i := i) (u := u))
  have hcnt := cntF_le (xs := xs) (i := i) (i + 1)
  obtain ⟨di, hdi⟩ : ∃ di, Hid (dAt xs i = di) := ⟨_, Lib.hid rfl⟩
  rw [hdi.out] at hci
  have HCI := Lib.hid (show ∀ n, (w.drewN n).cell? (a.add (i * 2)) = some (.int .i64 di) from fun n => hci)
  have i0 : (i : Int) < (xs.length : Int) := by omega
  have q0 : IntKind.i64.wrap ((i : Int) + 1) = ((i + 1 : Nat) : Int) := by rw [IntKind.wrap_i64]; omega
  clear h hci
  go_enter Tryd.func66, Tryd.ntmps66
  go_wp2_with (go_at_call 90; refine (l6Up_any _ _ _ _ _ H.out hi (by omega)).mono ?_; rintro e w1 ⟨rfl, hw1⟩; have HW1 := Lib.hid hw1; clear hw1)
  obtain ⟨u, hu⟩ : ∃ u, Hid (upN xs i = u) := ⟨_, Lib.hid rfl⟩
  rw [hu.out] at HUL HT HS ⊢
  go_loopw [6, 7] (fun vc vk wr => ∃ k n : Nat, k ≤ i + 1 ∧ vc = .int .i64 (cntF xs i k) ∧ vk = .int .i64 k ∧ wr = w.drewN n) (fun _ vk _ => i + 1 - (intOf vk).toNat)
  case atStart => (obtain ⟨m1, hm1⟩ := HW1.out); exact ⟨0, m1, Nat.zero_le _, rfl, rfl, hm1⟩
  case round =>
    clear HW1
    obtain ⟨k, n, hk, rfl, rfl, hwr⟩ := hrel
    have HW := Lib.hid hwr
    by_cases hlt : k < i + 1
    · have i1 : (k : Int) ≤ (i : Int) := by omega
      obtain ⟨a', ha', hck, _⟩ := sec_cell H.out (show k < xs.length by omega)
      obtain rfl := Option.some.inj ha'
      have hcK : wr.cell? (a.add (k * 2)) = some (.int .i64 (dAt xs k)) := by rw [hwr]; exact hck
      have hcI : wr.cell? (a.add (i * 2)) = some (.int .i64 di) := by rw [hwr]; exact HCI.out n
      have HCW := Lib.hid (show Cells wr (some a) (SectionK.row xs) by rw [hwr]; exact H.out)
      have k0 : (k : Int) < (xs.length : Int) := by omega
      have hkx : k < xs.length := by omega
      have q1 : IntKind.i64.wrap ((k : Int) + 1) = ((k + 1 : Nat) : Int) := by rw [IntKind.wrap_i64]; omega
      have hcl := cntF_le (xs := xs) (i := i) k
      have q2 : IntKind.i64.wrap ((cntF xs i k : Int) + 1) = ((cntF xs i k + 1 : Nat) : Int) := by rw [IntKind.wrap_i64]; omega
      have HCN := Lib.hid (show cntF xs i (k + 1) = cntF xs i k + (if dAt xs k = dAt xs i ∧ upN xs k = upN xs i then 1 else 0) from rfl)
      rw [hdi.out, hu.out] at HCN
      obtain ⟨dk, hdk⟩ : ∃ dk, Hid (dAt xs k = dk) := ⟨_, Lib.hid rfl⟩
      rw [hdk.out] at hcK HCN
      clear hck hwr ha'
      obtain ⟨ck, hck⟩ : ∃ ck, Hid (cntF xs i k = ck) := ⟨_, Lib.hid rfl⟩
      rw [hck.out] at HCN q2 hcl ⊢
      by_cases hd : dk = di
      · have b1 : (dk == di) = true := by simp [hd]
        have HD := Lib.hid hd
        clear hd
        by_cases hq : upN xs k = u
        · have b2 : (upN xs k == u) = true := by simp [hq]
          have HR := Lib.hid (HCN.out.trans (congrArg (ck + ·) (if_pos ⟨HD.out, hq⟩)))
          clear hq HCN
          go_wp2
          go_quiet ((go_at_call 90; refine Go.Calls.quiet_of (l6Up_any _ _ _ _ _ ?_ hkx (by omega)); exact HCW.out.drewM _))
          go_wp2
          go_roundw
          case rel => exact ⟨k + 1, _, by omega, by (have h9 := HR.out; first | (rw [h9]; done) | (rw [h9]; rfl) | (rw [h9]; go_num)), by go_num, (congrArg (fun u => World.drewN u _) HW.out).trans (World.drewN_drewN _ _ _)⟩
          case measure => simp [intOf]; omega
        · have b2 : (upN xs k == u) = false := by simp [hq]
          have HR := Lib.hid (HCN.out.trans (congrArg (ck + ·) (if_neg (fun h => hq h.2))))
          clear hq HCN
          go_wp2
          go_quiet ((go_at_call 90; refine Go.Calls.quiet_of (l6Up_any _ _ _ _ _ ?_ hkx (by omega)); exact HCW.out.drewM _))
          go_wp2
          go_roundw
          case rel => exact ⟨k + 1, _, by omega, by (have h9 := HR.out; first | (rw [h9]; done) | (rw [h9]; rfl) | (rw [h9]; go_num)), by go_num, (congrArg (fun u => World.drewN u _) HW.out).trans (World.drewN_drewN _ _ _)⟩
          case measure => simp [intOf]; omega
      · have b1 : (dk == di) = false := by simp [hd]
        have HR := Lib.hid (HCN.out.trans (congrArg (ck + ·) (if_neg (fun h => hd h.1))))
        clear hd HCN
        go_wp2
        go_quiet (fail)
        go_wp2
        go_roundw
        case rel => exact ⟨k + 1, _, by omega, by (have h9 := HR.out; first | (rw [h9]; done) | (rw [h9]; rfl) | (rw [h9]; go_num)), by go_num, (congrArg (fun u => World.drewN u _) HW.out).trans (World.drewN_drewN _ _ _)⟩
        case measure => simp [intOf]; omega
    · obtain rfl : k = i + 1 := by omega
      have HCW := Lib.hid (show Cells wr (some a) (SectionK.row xs) by rw [hwr]; exact H.out)
      have i1 : ¬ ((i + 1 : Nat) : Int) ≤ (i : Int) := by omega
      clear hwr hlt
      by_cases hu0 : u < 0
      · have HR := Lib.hid (HT.out hu0)
        go_wp2_with (go_at_call 73; refine (l1Num_any _ (by omega) _).mono ?_; rintro e w3 ⟨rfl, hw3⟩; have HW3 := Lib.hid hw3; clear hw3)
        go_ret
        exact ⟨by rw [HR.out]; rfl, by (obtain ⟨m3, h3⟩ := HW3.out); exact ⟨_, h3.trans ((congrArg (fun u => World.drewN u m3) HW.out).trans (World.drewN_drewN _ _ _))⟩⟩
      · obtain ⟨un, hun⟩ : ∃ un : Nat, u = (un : Int) := ⟨u.toNat, by omega⟩
        subst hun
        have hui : un < i := by have := HUL.out; omega
        have HR := Lib.hid (HS.out un rfl)
        have hz1 := numS_size (xs := xs) (show un < 20 by omega)
        have hz2 := dec_sz2 (show cntF xs i (i + 1) ≤ 20 by omega)
        have hz3 : ¬ 9223372036854775807 < (numS xs un).size + 1 := by omega
        have hz4 : ¬ 9223372036854775807 < (numS xs un).size + 1 + (dec (cntF xs i (i + 1))).size := by omega
        clear hz1 hz2
        go_wp2_with (first | (go_at_call 66; refine (IH.out un hui _ HCW.out (by omega)).mono ?_; rintro e w2 ⟨rfl, hw2⟩; have HW2 := Lib.hid hw2; clear hw2) | (go_at_call 73; refine (l1Num_any _ (by omega) _).mono ?_; rintro e w4 ⟨rfl, hw4⟩; have HW4 := Lib.hid hw4; clear hw4))
        go_ret
        exact ⟨by rw [HR.out]; rfl, by (obtain ⟨m2, h2⟩ := HW2.out); (obtain ⟨m4, h4⟩ := HW4.out); exact ⟨_, h4.trans ((congrArg (fun u => World.drewN u m4) (h2.trans ((congrArg (fun u => World.drewN u m2) HW.out).trans (World.drewN_drewN _ _ _)))).trans (World.drewN_drewN _ _ _))⟩⟩
end Go.Proofs.YtajfbiihlfccnaaDoor
