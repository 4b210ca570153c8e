/- The walk of the law on ParseDocument: it returns true. Conditions: what Mx names. -/
import Derived.Test.YtajfbiihlfccnaaDoorDoc3
namespace Go.Proofs.YtajfbiihlfccnaaDoor
open Go.RowKit
set_option linter.unusedVariables false
set_option linter.unusedSimpArgs false
set_option maxHeartbeats 1000000 in
theorem heldSectionS_yes (A : Option Addr) (n c k B : Nat) (kk : Int) (hkk : kk = (k : Int)) (w : World) (h : Rd SectionK B w A c (mkL (markSection k) n)) (hk0 : 0 < k) (hk : k ≤ 20000000) :
    Calls Tryd.prog 25 #[.slice A n c, .int .i64 kk] w fun e w' => e = .returned (.int .i64 (kk + 2 * n)) ∧ Below w.heap.size w w' := by
  subst hkk
  have ha := h.cells
  have hn := h.2.2.1
  rw [mkL_len] at hn
  clear h
  go_enter Tryd.func25, Tryd.ntmps25
  go_wp2
  go_loopw [1, 5] (fun u i wr => ∃ j : Nat, j ≤ n ∧ i = .int .i64 j ∧ u = .int .i64 ((k : Int) + 2 * j) ∧ Below w.heap.size w wr) (fun _ i _ => n - (intOf i).toNat)
  case atStart => exact ⟨0, Nat.zero_le _, rfl, by go_num, Below.refl _ _⟩
  case round =>
    obtain ⟨j, hj, rfl, rfl, hB⟩ := hrel
    by_cases hlt : j < n
    · obtain ⟨a, rfl, hc0, hc1⟩ := section_at (ha.below hB) (i := j) (by rw [mkL_len]; exact hlt)
      have e0 : ((mkL (markSection k) n)[j]'(by rw [mkL_len]; exact hlt)).d = (k : Int) + 2 * j := by rw [mkL_get _ _ _ hlt]; unfold markSection; simp; try omega
      rw [e0] at hc0
      have e1 : ((mkL (markSection k) n)[j]'(by rw [mkL_len]; exact hlt)).t = markB (k + 2 * j + 1) := by rw [mkL_get _ _ _ hlt]; rfl
      rw [e1] at hc1
      have i1 : (j : Int) < (n : Int) := by omega
      have hC := fun W => markText_any (k + 2 * j + 1) W (by omega) (by omega)
      have hcast : ((k + 2 * j + 1 : Nat) : Int) = (k : Int) + 2 * j + 1 := by omega
      rw [hcast] at hC
      have HC := Lib.hid hC
      have hz := hB.size
      have hbl := World.block_lt_of_cell? _ _ hc1
      have hsame := same_yes (rfl : markB (k + 2 * j + 1) = markB (k + 2 * j + 1))
      have q1 : IntKind.i64.wrap ((k : Int) + 2 * j + 1) = (k : Int) + 2 * j + 1 := by rw [IntKind.wrap_i64]; omega
      have q2 : IntKind.i64.wrap ((k : Int) + 2 * j + 1 + 1) = (k : Int) + 2 * ((j + 1 : Nat) : Int) := by rw [IntKind.wrap_i64]; omega
      clear hC e0 e1 hcast
      go_wp2
      go_region_held3 (fun w' => Below wr.heap.size wr w' ∧ (∀ b o, b < wr.heap.size → w'.cell? ⟨b, o, none⟩ = wr.cell? ⟨b, o, none⟩) ∧ w'.cell? ⟨(a.add (j * 2)).block, (a.add (j * 2)).off + 1, none⟩ = some (.string (markB (k + 2 * j + 1))))
        ((first | (refine mkS2 hc1 hbl ?_; assumption) | (refine mkS2 hc1 hbl ?_; go_grown)))
        (first
          | (go_at_call 60; refine (HC.out _).mono ?_; rintro e w' ⟨rfl, hb⟩; have hBB := callS2 (by assumption) hb; clear hb))
      go_wp2
      go_roundw
      case rel => exact ⟨j + 1, hlt, by go_num, by go_num, hB.trans (hBB.mono hz)⟩
      case measure => simp [intOf]; omega
    · obtain rfl : j = n := by omega
      go_wp2
      go_ret
      exact ⟨rfl, hB⟩
namespace fnExactParseDocument
set_option maxRecDepth 100000 in
set_option maxHeartbeats 4000000 in
theorem walk (s : ByteArray) (w : World) (h : Mx w) : Calls Tryd.prog 5 #[.string s] w fun e w' => e = .returned (.bool true) ∧ Below w.heap.size w w' := by
  by_cases hs : s.size ≤ 1048576
  · have c1 : ¬ (1048576 : Int) < (s.size : Int) := by omega
    obtain ⟨xs, hxs⟩ : ∃ xs, Hid (dcR (dpS s.data.toList) = xs) := ⟨_, Lib.hid rfl⟩
    obtain ⟨ok, hok⟩ : ∃ b, Hid (dcB (dpS s.data.toList) = b) := ⟨_, Lib.hid rfl⟩
    have HS : Hid (Calls Tryd.prog 21 #[.string s] w (ToLB SectionK 51 w xs ok)) := Lib.hid (by (have h9 := sParseDocument_any s w hs); rw [hxs.out, hok.out] at h9; exact h9)
    have HI : Hid (∀ v, Mx v → Calls Tryd.prog 22 #[.string s] v (ToLB SectionK 51 v xs ok)) := Lib.hid (fun v hv => by (have h9 := ParseDocument_any s v hs hv); rw [dp_same, hxs.out, hok.out] at h9; exact h9)
    have HM := Lib.hid h
    have kb : (ok != ok) = false := by simp
    clear h hs
    go_enter Tryd.func5, Tryd.ntmps5
    go_wp2_with fail
    refine HS.out.mono ?_
    rintro e w1 ⟨A0, c0, rfl, o0, hb⟩
    have B1 := Lib.hid hb
    have R0 := Lib.hid o0.rd
    clear o0 hb
    go_wp2_with fail
    refine (HI.out w1 (HM.out.below B1.out)).mono ?_
    rintro e w2 ⟨A1, c1, rfl, o1, hb⟩
    have B2 := Lib.hid (after B1.out hb)
    replace R0 := Lib.hid (R0.out.below hb (Nat.le_refl _))
    have O1 := Lib.hid o1
    have HZ1 := Lib.hid hb.size
    clear o1 hb
    go_wp2_with fail
    refine (eqSectionS_same _ _ A1 A0 c1 c0 xs w2 O1.out.rd R0.out).mono ?_
    rintro e w3 ⟨rfl, hb⟩
    have B3 := Lib.hid (after B2.out hb)
    replace R0 := Lib.hid (R0.out.below hb HZ1.out)
    replace O1 := Lib.hid (O1.out.below hb (Nat.le_refl _))
    have HZ2 := Lib.hid (Nat.le_trans HZ1.out hb.size)
    have HZ3 := Lib.hid hb.size
    clear hb
    go_wp2_with fail
    refine (markSectionS_any _ _ A1 c1 1 1 rfl xs w3 O1.out (by omega) (by omega)).mono ?_
    rintro e w4 ⟨rfl, om, ho, hg⟩
    have hbw := ho.below HZ2.out
    have B4 := Lib.hid (B3.out.trans (hbw.mono B1.out.size))
    replace R0 := Lib.hid (R0.out.below hbw (Nat.le_refl _))
    have HZ4 := Lib.hid (Nat.le_trans HZ3.out ho.size)
    have OM := Lib.hid om
    have hl := O1.out.2.2.1
    have HL := Lib.hid hl
    clear O1 om ho hg hbw
    have k1 : decide ((1 : Int) + 2 * (xs.length : Int) < 0) = false := decide_eq_false (by omega)
    have k2 : ((1 : Int) + 2 * (xs.length : Int) != 1 + 2 * (xs.length : Int)) = false := by simp
    clear hl
    go_wp2_with fail
    refine (heldSectionS_yes A1 xs.length c1 1 _ 1 rfl w4 OM.out.rd (by omega) (by omega)).mono ?_
    rintro e w5 ⟨rfl, hb⟩
    have B5 := Lib.hid (after B4.out hb)
    replace R0 := Lib.hid (R0.out.below hb (by have := HZ1.out; have := HZ4.out; omega))
    replace OM := Lib.hid (OM.out.below hb HZ4.out)
    have HZ5 := Lib.hid (Nat.le_trans HZ4.out hb.size)
    clear hb
    go_wp2_with fail
    refine (HI.out w5 (HM.out.below B5.out)).mono ?_
    rintro e w6 ⟨A2, c2, rfl, o2, hb⟩
    have B6 := Lib.hid (after B5.out hb)
    replace R0 := Lib.hid (R0.out.below hb (by have := HZ1.out; have := HZ5.out; omega))
    replace OM := Lib.hid (OM.out.below hb HZ5.out)
    have O2 := Lib.hid o2
    have HZ6 := Lib.hid (Nat.le_trans HZ5.out hb.size)
    clear o2 hb
    go_wp2_with fail
    refine (eqSectionS_same _ _ A2 A0 c2 c0 xs w6 O2.out.rd R0.out).mono ?_
    rintro e w7 ⟨rfl, hb⟩
    have B7 := Lib.hid (after B6.out hb)
    replace OM := Lib.hid (OM.out.below hb HZ6.out)
    clear hb R0 O2
    go_wp2_with fail
    refine (heldSectionS_yes A1 xs.length c1 1 _ 1 rfl w7 OM.out.rd (by omega) (by omega)).mono ?_
    rintro e w8 ⟨rfl, hb⟩
    have B8 := Lib.hid (after B7.out hb)
    clear hb
    go_wp2
    go_ret
    exact ⟨rfl, B8.out⟩
  · have c1 : (1048576 : Int) < (s.size : Int) := by omega
    go_enter Tryd.func5, Tryd.ntmps5
    go_wp2
    go_ret
    exact ⟨rfl, Below.refl _ _⟩
end fnExactParseDocument
end Go.Proofs.YtajfbiihlfccnaaDoor
