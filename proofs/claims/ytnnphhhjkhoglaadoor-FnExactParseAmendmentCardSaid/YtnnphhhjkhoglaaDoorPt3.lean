/- Numbers read from texts, in the reference. Conditions: the ranges named. -/
import Derived.Test.YtnnphhhjkhoglaaDoorPt2
namespace Go.Proofs.YtnnphhhjkhoglaaDoor
open Go.RowKit
set_option linter.unusedVariables false
set_option linter.unusedSimpArgs false
theorem bar_eq {l : List UInt8} {s : ByteArray} : bar l = s ↔ l = s.data.toList := by
  constructor
  · intro h; subst h; simp [bar]
  · intro h; subst h; unfold bar; rw [Array.toArray_toList]
theorem l1NumZ (v : Int) (w : World) (h : -999999 ≤ v ∧ v ≤ 999999) : Calls Tryd.prog 33 #[.int .i64 v] w fun e w' => e = .returned (.string (bar (Go.Lib.itoa v))) ∧ ∃ m, w' = w.drewN m := by
  by_cases hv : 0 ≤ v
  · obtain ⟨n, rfl⟩ := Int.eq_ofNat_of_zero_le hv
    rw [Go.Lib.itoa_nonneg]
    exact l1Num_all n w (by omega)
  · obtain ⟨n, hn⟩ : ∃ n : Nat, v = -(n : Int) := ⟨v.natAbs, by omega⟩
    subst hn
    have h1 : 1 ≤ n := by omega
    have h2 : n ≤ 999999 := by omega
    rw [Go.Lib.itoa_neg n h1]
    have HD : Hid ((⟨#[45]⟩ : ByteArray) ++ dec n = bar (45 :: Go.Lib.decDigits n)) := Lib.hid (by apply ByteArray.ext; apply Array.ext'; simp [bar, dec])
    have i1 : -(n : Int) < 0 := by omega
    have q1 : IntKind.i64.wrap (- -(n : Int)) = (n : Int) := by rw [IntKind.wrap_i64]; omega
    have q2 : IntKind.i64.wrap (n : Int) = (n : Int) := by rw [IntKind.wrap_i64]; omega
    have hsz := dec_size (i := n)
    have y1 : ¬ 9223372036854775807 < 1 + (dec n).size := by omega
    clear hv h
    go_enter Tryd.func33, Tryd.ntmps33
    go_wp2_with (go_at_call 33; refine (l1Num_all n _ (by omega)).mono ?_; rintro e w' ⟨rfl, m, rfl⟩)
    go_ret
    exact ⟨ret_val (congrArg Value.string HD.out), _, rfl⟩
theorem rd_step {l : List UInt8} {k u : Nat} {b : UInt8} (h : k < l.length) (hb : l[k] = b) : rdV u (l.drop k) = if 48 ≤ b.toNat ∧ b.toNat ≤ 57 then rdV (10 * u + (b.toNat - 48)) (l.drop (k + 1)) else none := by
  rw [List.drop_eq_getElem_cons h, hb, rdV]
theorem lr_none_rd {l : List UInt8} (h : rdV 0 (tlV l) = none) : lrV l = none := by
  unfold lrV
  rw [h]
  simp
theorem lr_none_len {l : List UInt8} (h : ¬ (1 ≤ (tlV l).length ∧ (tlV l).length ≤ 6)) : lrV l = none := by
  unfold lrV
  rw [if_neg h]
theorem lr_val {l : List UInt8} {u : Nat} {v : Int} (h1 : 1 ≤ (tlV l).length) (h6 : (tlV l).length ≤ 6) (h : rdV 0 (tlV l) = some u) (hv : (if (tlV l).length < l.length then -(u : Int) else (u : Int)) = v) : lrV l = if Go.Lib.itoa v = l then some v else none := by
  unfold lrV
  rw [if_pos ⟨h1, h6⟩, h]
  simp only
  rw [hv]
/-- A number that may be missing. -/
def optI : Option Int → Value
  | some v => .tuple #[.int .i64 v, .bool true]
  | none => .tuple #[.int .i64 0, .bool false]
set_option maxHeartbeats 2000000 in
theorem l1Read_any (s : ByteArray) (w : World) (hs : s.size ≤ maxLen) : Calls Tryd.prog 20 #[.string s] w fun e w' => e = .returned (optI (lrV s.data.toList)) ∧ ∃ m, w' = w.drewN m := by
  unfold maxLen at hs
  have hsl : s.data.toList.length = s.size := Array.length_toList
  by_cases ha : 1 < s.size ∧ s.data.toList.head? = some 45
  · obtain ⟨ha1, ha2⟩ := ha
    have e0 : s[0]'(by omega) = 45 := by
      have h3 : s.data.toList.head? = some (s[0]'(by omega)) := by
        rw [List.head?_eq_getElem?, List.getElem?_eq_getElem (by omega)]; rfl
      rw [h3] at ha2
      exact Option.some.inj ha2
    have e1 : (1 : Int) < (s.size : Int) := by omega
    have e2 : ((s[0]'(by omega)).toNat : Int) = 45 := by rw [e0]; rfl
    have HT0 : Hid (tlV s.data.toList = (s.extract 1 s.size).data.toList) := Lib.hid (by
      unfold tlV; rw [if_pos ⟨by omega, ha2⟩, ← List.drop_one, sub_bar]
      unfold bar sub
      simp only [List.toList_toArray]
      rw [List.take_of_length_le (by rw [List.length_drop]; omega)])
    have hz : (s.extract 1 s.size).size = s.size - 1 := by rw [ByteArray.size_extract]; omega
    clear e0 ha2
    go_enter Tryd.func20, Tryd.ntmps20
    go_wp2_with fail
    obtain ⟨t, ht⟩ : ∃ t, s.extract 1 s.size = t := ⟨_, rfl⟩
    rw [ht] at HT0 hz
    try rw [ht]
    try rw [← hz]
    have HT := HT0
    have HZ := Lib.hid hz
    clear ht e2 hz
    have htl : t.data.toList.length = t.size := Array.length_toList
    rcases Bool.eq_false_or_eq_true (inB (t.size : Int) 1 6) with hin | hin
    · have hi2 := inB_iff.1 hin
      have h1 : 1 ≤ t.size := by omega
      have h6 : t.size ≤ 6 := by omega
      clear hi2
      go_wp2_with (go_at_call 32; refine (l1In_any _ _ _ _).mono ?_; rintro e w1 ⟨rfl, rfl⟩; rw [hin])
      go_loopw [5, 6] (fun n i wr => ∃ (k u : Nat), k ≤ t.size ∧ i = .int .i64 k ∧ n = .int .i64 u ∧ u + 1 ≤ 10 ^ k ∧ Hid (rdV 0 t.data.toList = rdV u (t.data.toList.drop k)) ∧ wr = w) (fun _ i _ => t.size - (intOf i).toNat)
      case atStart => exact ⟨0, 0, Nat.zero_le _, rfl, rfl, by decide, rfl, rfl⟩
      case round =>
        obtain ⟨k, u, hk, rfl, rfl, hu, hq, rfl⟩ := hrel
        have hu6 : u ≤ 999999 := by
          have := Nat.pow_le_pow_right (show 0 < 10 by omega) (show k ≤ 6 by omega)
          have e : (10 : Nat) ^ 6 = 1000000 := rfl
          omega
        by_cases hlt : k < t.size
        · have i1 : (k : Int) < (t.size : Int) := by omega
          obtain ⟨b, hb⟩ : ∃ b, Hid (t[k] = b) := ⟨_, Lib.hid rfl⟩
          have hlk : t.data.toList[k]'(by omega) = b := hb.out
          have HS := Lib.hid (hq.out.trans (rd_step (by omega) hlk))
          have hbb := hb.out
          have hb255 := UInt8.toNat_lt b
          clear hlk hq
          by_cases d1 : 48 ≤ b.toNat
          · by_cases d2 : b.toNat ≤ 57
            · have g1 : ¬ ((b.toNat : Int) < 48) := by omega
              have g2 : ¬ (57 < (b.toNat : Int)) := by omega
              have q1 : IntKind.u8.wrap ((b.toNat : Int) - 48) = (b.toNat : Int) - 48 := by rw [IntKind.wrap_u8]; omega
              have q2 : IntKind.i64.wrap ((b.toNat : Int) - 48) = (b.toNat : Int) - 48 := by rw [IntKind.wrap_i64]; omega
              have q3 : IntKind.i64.wrap (10 * (u : Int)) = 10 * (u : Int) := by rw [IntKind.wrap_i64]; omega
              have q4 : IntKind.i64.wrap (10 * (u : Int) + ((b.toNat : Int) - 48)) = 10 * (u : Int) + ((b.toNat : Int) - 48) := by rw [IntKind.wrap_i64]; omega
              rw [if_pos ⟨d1, d2⟩] at HS
              go_wp2
              go_roundw
              case rel => exact ⟨k + 1, 10 * u + (b.toNat - 48), by omega, by go_num, by congr 1; omega, by rw [Nat.pow_succ]; omega, HS, by first | rfl | trivial⟩
              case measure => simp [intOf]; omega
            · have g1 : ¬ ((b.toNat : Int) < 48) := by omega
              have g2 : (57 < (b.toNat : Int)) := by omega
              have HN : Hid (lrV s.data.toList = none) := Lib.hid (lr_none_rd (by rw [HT.out, HS.out, if_neg (by omega)]))
              go_wp2
              go_ret2
              exact ⟨by rw [HN.out]; rfl, 0, rfl⟩
          · have g1 : ((b.toNat : Int) < 48) := by omega
            have HN : Hid (lrV s.data.toList = none) := Lib.hid (lr_none_rd (by rw [HT.out, HS.out, if_neg (by omega)]))
            go_wp2
            go_ret2
            exact ⟨by rw [HN.out]; rfl, 0, rfl⟩
        · obtain rfl : k = t.size := by omega
          have HU : Hid (rdV 0 (tlV s.data.toList) = some u) := Lib.hid (by rw [HT.out, hq.out, ← htl, List.drop_length]; rfl)
          have hlt2 : (t.size : Int) < (s.size : Int) := by have := HZ.out; omega
          have q1 : IntKind.i64.wrap (-(u : Int)) = -(u : Int) := by rw [IntKind.wrap_i64]; omega
          have HV : Hid (lrV s.data.toList = if Go.Lib.itoa (-(u : Int)) = s.data.toList then some (-(u : Int)) else none) := Lib.hid (lr_val (by rw [HT.out]; omega) (by rw [HT.out]; omega) HU.out (by rw [HT.out]; simp only [htl, hsl]; rw [if_pos (by have := HZ.out; omega)]))
          clear hq
          by_cases hv : Go.Lib.itoa (-(u : Int)) = s.data.toList
          · have HQ := Lib.hid (bar_eq.2 hv)
            rw [if_pos hv] at HV
            clear hv
            go_wp2_with (go_at_call 33; refine (l1NumZ (-(u : Int)) _ (by omega)).mono ?_; rintro e w' ⟨rfl, m, rfl⟩; rw [HQ.out])
            go_ret2
            exact ⟨by rw [HV.out]; rfl, _, rfl⟩
          · obtain ⟨x, hx⟩ : ∃ x, Hid (bar (Go.Lib.itoa (-(u : Int))) = x) := ⟨_, Lib.hid rfl⟩
            have hxs : (!x.toList == s.toList) = true := same_no (fun h => hv (bar_eq.1 (hx.out.trans h)))
            rw [if_neg hv] at HV
            clear hv
            go_wp2_with (go_at_call 33; refine (l1NumZ (-(u : Int)) _ (by omega)).mono ?_; rintro e w' ⟨rfl, m, rfl⟩; rw [hx.out])
            go_ret2
            exact ⟨by rw [HV.out]; rfl, _, rfl⟩
    · have hi2 : ¬ (1 ≤ (t.size : Int) ∧ (t.size : Int) ≤ 6) := fun h => by rw [inB_iff.2 h] at hin; cases hin
      have HN : Hid (lrV s.data.toList = none) := Lib.hid (lr_none_len (by rw [HT.out]; omega))
      clear hi2
      go_wp2_with (go_at_call 32; refine (l1In_any _ _ _ _).mono ?_; rintro e w1 ⟨rfl, rfl⟩; rw [hin])
      go_ret2
      exact ⟨by rw [HN.out]; rfl, 0, rfl⟩
  · have HT : Hid (tlV s.data.toList = s.data.toList) := Lib.hid (by unfold tlV; rw [if_neg (by rw [hsl]; exact ha)])
    have hb1 : ¬ (1 : Int) < (s.size : Int) ∨ (1 : Int) < (s.size : Int) ∧ ∃ h : 0 < s.size, ¬ ((s[0].toNat : Int) = 45) := by
      by_cases h : 1 < s.size
      · refine Or.inr ⟨by omega, by omega, fun h2 => ha ⟨h, ?_⟩⟩
        rw [List.head?_eq_getElem?, List.getElem?_eq_getElem (by omega)]
        have h3 : s[0]'(by omega) = (45 : UInt8) := UInt8.toNat_inj.1 (by show _ = 45; omega)
        exact congrArg some h3
      · exact Or.inl (by omega)
    clear ha
    rcases hb1 with e1 | ⟨e1, e3, e2⟩
    all_goals go_enter Tryd.func20, Tryd.ntmps20
    all_goals go_wp2_with fail
    all_goals
     (have htl : s.data.toList.length = s.size := Array.length_toList
      rcases Bool.eq_false_or_eq_true (inB (s.size : Int) 1 6) with hin | hin
      · have hi2 := inB_iff.1 hin
        have h1 : 1 ≤ s.size := by omega
        have h6 : s.size ≤ 6 := by omega
        clear hi2
        go_wp2_with (go_at_call 32; refine (l1In_any _ _ _ _).mono ?_; rintro e w1 ⟨rfl, rfl⟩; rw [hin])
        go_loopw [5, 6] (fun n i wr => ∃ (k u : Nat), k ≤ s.size ∧ i = .int .i64 k ∧ n = .int .i64 u ∧ u + 1 ≤ 10 ^ k ∧ Hid (rdV 0 s.data.toList = rdV u (s.data.toList.drop k)) ∧ wr = w) (fun _ i _ => s.size - (intOf i).toNat)
        case atStart => exact ⟨0, 0, Nat.zero_le _, rfl, rfl, by decide, rfl, rfl⟩
        case round =>
          obtain ⟨k, u, hk, rfl, rfl, hu, hq, rfl⟩ := hrel
          have hu6 : u ≤ 999999 := by
            have := Nat.pow_le_pow_right (show 0 < 10 by omega) (show k ≤ 6 by omega)
            have e : (10 : Nat) ^ 6 = 1000000 := rfl
            omega
          by_cases hlt : k < s.size
          · have i1 : (k : Int) < (s.size : Int) := by omega
            obtain ⟨b, hb⟩ : ∃ b, Hid (s[k] = b) := ⟨_, Lib.hid rfl⟩
            have hlk : s.data.toList[k]'(by omega) = b := hb.out
            have HS := Lib.hid (hq.out.trans (rd_step (by omega) hlk))
            have hbb := hb.out
            have hb255 := UInt8.toNat_lt b
            clear hlk hq
            by_cases d1 : 48 ≤ b.toNat
            · by_cases d2 : b.toNat ≤ 57
              · have g1 : ¬ ((b.toNat : Int) < 48) := by omega
                have g2 : ¬ (57 < (b.toNat : Int)) := by omega
                have q1 : IntKind.u8.wrap ((b.toNat : Int) - 48) = (b.toNat : Int) - 48 := by rw [IntKind.wrap_u8]; omega
                have q2 : IntKind.i64.wrap ((b.toNat : Int) - 48) = (b.toNat : Int) - 48 := by rw [IntKind.wrap_i64]; omega
                have q3 : IntKind.i64.wrap (10 * (u : Int)) = 10 * (u : Int) := by rw [IntKind.wrap_i64]; omega
                have q4 : IntKind.i64.wrap (10 * (u : Int) + ((b.toNat : Int) - 48)) = 10 * (u : Int) + ((b.toNat : Int) - 48) := by rw [IntKind.wrap_i64]; omega
                rw [if_pos ⟨d1, d2⟩] at HS
                go_wp2
                go_roundw
                case rel => exact ⟨k + 1, 10 * u + (b.toNat - 48), by omega, by go_num, by congr 1; omega, by rw [Nat.pow_succ]; omega, HS, by first | rfl | trivial⟩
                case measure => simp [intOf]; omega
              · have g1 : ¬ ((b.toNat : Int) < 48) := by omega
                have g2 : (57 < (b.toNat : Int)) := by omega
                have HN : Hid (lrV s.data.toList = none) := Lib.hid (lr_none_rd (by rw [HT.out, HS.out, if_neg (by omega)]))
                go_wp2
                go_ret2
                exact ⟨by rw [HN.out]; rfl, 0, rfl⟩
            · have g1 : ((b.toNat : Int) < 48) := by omega
              have HN : Hid (lrV s.data.toList = none) := Lib.hid (lr_none_rd (by rw [HT.out, HS.out, if_neg (by omega)]))
              go_wp2
              go_ret2
              exact ⟨by rw [HN.out]; rfl, 0, rfl⟩
          · obtain rfl : k = s.size := by omega
            have HU : Hid (rdV 0 (tlV s.data.toList) = some u) := Lib.hid (by rw [HT.out, hq.out, ← htl, List.drop_length]; rfl)
            have hlt2 : ¬ (s.size : Int) < (s.size : Int) := by omega
            have q1 : IntKind.i64.wrap (-(u : Int)) = -(u : Int) := by rw [IntKind.wrap_i64]; omega
            have HV : Hid (lrV s.data.toList = if Go.Lib.itoa (u : Int) = s.data.toList then some (u : Int) else none) := Lib.hid (lr_val (by rw [HT.out]; omega) (by rw [HT.out]; omega) HU.out (by rw [HT.out]; simp only [htl, hsl]; rw [if_neg (by omega)]))
            clear hq
            by_cases hv : Go.Lib.itoa (u : Int) = s.data.toList
            · have HQ := Lib.hid (bar_eq.2 hv)
              rw [if_pos hv] at HV
              clear hv
              go_wp2_with (go_at_call 33; refine (l1NumZ (u : Int) _ (by omega)).mono ?_; rintro e w' ⟨rfl, m, rfl⟩; rw [HQ.out])
              go_ret2
              exact ⟨by rw [HV.out]; rfl, _, rfl⟩
            · obtain ⟨x, hx⟩ : ∃ x, Hid (bar (Go.Lib.itoa (u : Int)) = x) := ⟨_, Lib.hid rfl⟩
              have hxs : (!x.toList == s.toList) = true := same_no (fun h => hv (bar_eq.1 (hx.out.trans h)))
              rw [if_neg hv] at HV
              clear hv
              go_wp2_with (go_at_call 33; refine (l1NumZ (u : Int) _ (by omega)).mono ?_; rintro e w' ⟨rfl, m, rfl⟩; rw [hx.out])
              go_ret2
              exact ⟨by rw [HV.out]; rfl, _, rfl⟩
      · have hi2 : ¬ (1 ≤ (s.size : Int) ∧ (s.size : Int) ≤ 6) := fun h => by rw [inB_iff.2 h] at hin; cases hin
        have HN : Hid (lrV s.data.toList = none) := Lib.hid (lr_none_len (by rw [HT.out]; omega))
        clear hi2
        go_wp2_with (go_at_call 32; refine (l1In_any _ _ _ _).mono ?_; rintro e w1 ⟨rfl, rfl⟩; rw [hin])
        go_ret2
        exact ⟨by rw [HN.out]; rfl, 0, rfl⟩)
end Go.Proofs.YtnnphhhjkhoglaaDoor
