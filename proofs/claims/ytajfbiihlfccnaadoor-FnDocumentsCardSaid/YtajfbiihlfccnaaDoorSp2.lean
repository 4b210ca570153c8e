/- A longer text that is spoilt by a byte, as the reference draws it. Conditions: the ranges named. -/
import Derived.Test.YtajfbiihlfccnaaDoorCu2
namespace Go.Proofs.YtajfbiihlfccnaaDoor
open Go.RowKit
set_option linter.unusedVariables false
set_option linter.unusedSimpArgs false
/-- A number from 0 to k - 1. -/
theorem pickN_any (k : Nat) (hk1 : 1 ≤ k) (hk : k ≤ 60000) (b : Nat) (A : Option Addr) (n c m : Nat) (w : World) (h : Cur w b A n c m) (hm : m ≤ 900000) :
    Calls Tryd.prog 81 #[.pointer (some ⟨b, 0, none⟩), .int .i64 k] w fun e w' => (∃ x : Nat, e = .returned (.int .i64 x) ∧ x < k) ∧ Cur w' b A n c (m + 2) ∧ Only b (b + 1) w w' := by
  by_cases h1 : k ≤ 1
  · have HC := Lib.hid (h.mono (show m ≤ m + 2 by omega))
    have i1 : (k : Int) ≤ 1 := by omega
    clear h
    go_enter Tryd.func81, Tryd.ntmps81
    go_wp2
    go_ret
    exact ⟨⟨0, by first | rfl | simp, by omega⟩, HC.out, Only.refl'⟩
  · by_cases h2 : k ≤ 200
    · exact (pick_any k (by omega) h2 b A n c m w h (by omega)).mono fun e w' ⟨hx, hc, ho⟩ => ⟨hx, hc.mono (by omega), ho⟩
    · have H := Lib.hid h
      have i1 : ¬ (k : Int) ≤ 1 := by omega
      have i2 : (200 : Int) < (k : Int) := by omega
      have i3 : ¬ (k : Int) = 0 := by omega
      clear h
      go_enter Tryd.func81, Tryd.ntmps81
      go_wp2_with fail
      refine (next_any b A n c m _ H.out (by omega)).mono ?_
      rintro e w1 ⟨⟨x, rfl, hx0, hx1⟩, hc, ho⟩
      have H1 := Lib.hid hc
      have O1 := Lib.hid ho
      clear hc ho
      have q1 : IntKind.i64.wrap (x * 256) = x * 256 := by rw [IntKind.wrap_i64]; omega
      go_wp2_with fail
      refine (next_any b A n c (m + 1) _ H1.out (by omega)).mono ?_
      rintro e w2 ⟨⟨y, rfl, hy0, hy1⟩, hc, ho⟩
      have H2 := Lib.hid hc
      have O2 := Lib.hid (O1.out.trans ho)
      clear hc ho
      have q2 : IntKind.i64.wrap (x * 256 + y) = x * 256 + y := by rw [IntKind.wrap_i64]; omega
      have q3 : Int.tmod (x * 256 + y) (k : Int) = (x * 256 + y) % (k : Int) := Int.tmod_eq_emod_of_nonneg (by omega)
      have hr : (x * 256 + y) % (k : Int) = (((x * 256 + y) % (k : Int)).toNat : Int) := by have := Int.emod_nonneg (x * 256 + y) (show (k : Int) ≠ 0 by omega); omega
      have hl : ((x * 256 + y) % (k : Int)).toNat < k := by have := Int.emod_lt_of_pos (x * 256 + y) (show (0 : Int) < (k : Int) by omega); omega
      have HR := Lib.hid hr
      have HL := Lib.hid hl
      clear hr hl
      go_wp2
      go_ret
      exact ⟨⟨((x * 256 + y) % (k : Int)).toNat, by rw [← HR.out]; first | rfl | (simp; done), HL.out⟩, H2.out, O2.out⟩
set_option maxHeartbeats 2000000 in
theorem spoiltN_any (t u : ByteArray) (h200 : t.size ≤ 50000) (g2 : 2 ≤ u.size) (g200 : u.size ≤ 200) (b : Nat) (A : Option Addr) (n c m : Nat) (w : World) (h : Cur w b A n c m) (hm : m ≤ 800000) :
    Calls Tryd.prog 51 #[.pointer (some ⟨b, 0, none⟩), .string t, .string u] w fun e w' => (∃ x : ByteArray, e = .returned (.string x) ∧ x.size ≤ t.size + 1) ∧ Cur w' b A n c (m + 4) ∧ Only b (b + 1) w w' := by
  by_cases ht : t.size = 0
  · have H := Lib.hid (h.mono (show m ≤ m + 4 by omega))
    have te : t = ⟨#[]⟩ := by
      apply ByteArray.ext
      exact Array.eq_empty_of_size_eq_zero ht
    subst te
    have c1 : (1 : Int) ≤ (u.size : Int) := by omega
    have hsz : (u.extract 0 1).size ≤ (⟨#[]⟩ : ByteArray).size + 1 := by rw [ByteArray.size_extract]; show _ ≤ 0 + 1; omega
    have HZ := Lib.hid hsz
    clear h hsz
    go_enter Tryd.func51, Tryd.ntmps51
    go_wp2
    go_ret
    exact ⟨⟨_, rfl, HZ.out⟩, H.out, Only.refl'⟩
  have H := Lib.hid h
  clear h
  have ne : t.toList.isEmpty = false := by
    rw [ByteArray.toList_eq, List.isEmpty_eq_false_iff]
    intro h0
    have h1 : t.data.toList.length = t.size := Array.length_toList
    rw [h0] at h1
    simp at h1
    omega
  have c1 : (1 : Int) ≤ (u.size : Int) := by omega
  go_enter Tryd.func51, Tryd.ntmps51
  go_wp2_with fail
  refine (pickN_any t.size (by omega) (by omega) b A n c m _ H.out (by omega)).mono ?_
  rintro e w1 ⟨⟨i, rfl, hi⟩, hc, ho⟩
  have H1 := Lib.hid hc
  have O1 := Lib.hid ho
  clear hc ho
  go_wp2_with fail
  refine (pick_any u.size g2 g200 b A n c (m + 2) _ H1.out (by omega)).mono ?_
  rintro e w2 ⟨⟨j, rfl, hj⟩, hc, ho⟩
  have H2 := Lib.hid hc
  have O2 := Lib.hid (O1.out.trans ho)
  clear hc ho
  have d1 : (j : Int) ≤ (u.size : Int) := by omega
  have d2 : (1 : Int) ≤ ((u.size - j : Nat) : Int) := by omega
  have d3 : 1 ≤ u.size - j := by omega
  obtain ⟨v, hv⟩ : ∃ v, Hid ((u.extract j u.size).extract 0 1 = v) := ⟨_, Lib.hid rfl⟩
  have hvs : v.size ≤ 1 := by rw [← hv.out, ByteArray.size_extract]; omega
  go_wp2_with fail
  rw [hv.out]
  clear hv
  refine (pick_any 3 (by omega) (by omega) b A n c (m + 2 + 1) _ H2.out (by omega)).mono ?_
  rintro e w3 ⟨⟨k, rfl, hk⟩, hc, ho⟩
  have H3 := Lib.hid hc
  have O3 := Lib.hid (O2.out.trans ho)
  clear hc ho
  have i1 : (i : Int) ≤ (t.size : Int) := by omega
  have i2 : (i : Int) + 1 ≤ (t.size : Int) := by omega
  have i3 : (i : Int) < (t.size : Int) := by omega
  have q1 : IntKind.i64.wrap ((i : Int) + 1) = ((i + 1 : Nat) : Int) := by rw [IntKind.wrap_i64]; omega
  have q2 : ((i + 1 : Nat) : Int) ≤ (t.size : Int) := by omega
  have q3 : (0 : Int) ≤ ((i + 1 : Nat) : Int) := by omega
  have q4 : ((i + 1 : Nat) : Int).toNat = i + 1 := by omega
  have z1 : (t.extract 0 i).size = i := by rw [ByteArray.size_extract]; omega
  have z2 : (t.extract i t.size).size = t.size - i := by rw [ByteArray.size_extract]; omega
  have z3 : (t.extract (i + 1) t.size).size = t.size - (i + 1) := by rw [ByteArray.size_extract]; omega
  have z4 : ((t.extract 0 i) ++ v).size = i + v.size := by rw [ByteArray.size_append, z1]
  have m1 : ¬ 9223372036854775807 < i + v.size := by omega
  have m2 : ¬ 9223372036854775807 < i + v.size + (t.size - i) := by omega
  have m3 : ¬ 9223372036854775807 < i + v.size + (t.size - (i + 1)) := by omega
  have m4 : ¬ 9223372036854775807 < i + (t.size - (i + 1)) := by omega
  have G0 : (t.extract 0 i ++ v ++ t.extract i t.size).size ≤ t.size + 1 := by rw [ByteArray.size_append, z4, z2]; omega
  have G1 : (t.extract 0 i ++ v ++ t.extract (i + 1) t.size).size ≤ t.size + 1 := by rw [ByteArray.size_append, z4, z3]; omega
  have G2 : (t.extract 0 i ++ t.extract (i + 1) t.size).size ≤ t.size + 1 := by rw [ByteArray.size_append, z1, z3]; omega
  have G0 := Lib.hid G0
  have G1 := Lib.hid G1
  have G2 := Lib.hid G2
  rcases (show k = 0 ∨ k = 1 ∨ k = 2 by omega) with rfl | rfl | rfl
  · go_wp2
    go_quiet (fail)
    go_wp2
    go_ret
    exact ⟨⟨_, rfl, G0.out⟩, H3.out.below (below_drewN (Below.refl _ _) _), O3.out.trans (Only.of_below (below_drewN (Below.refl _ _) _))⟩
  · go_wp2
    go_quiet (fail)
    go_wp2
    go_ret
    exact ⟨⟨_, rfl, G1.out⟩, H3.out.below (below_drewN (Below.refl _ _) _), O3.out.trans (Only.of_below (below_drewN (Below.refl _ _) _))⟩
  · go_wp2
    go_quiet (fail)
    go_wp2
    go_ret
    exact ⟨⟨_, rfl, G2.out⟩, H3.out.below (below_drewN (Below.refl _ _) _), O3.out.trans (Only.of_below (below_drewN (Below.refl _ _) _))⟩
end Go.Proofs.YtajfbiihlfccnaaDoor
