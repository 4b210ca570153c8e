/- ApplyTogether in the reference. Conditions: the ranges named. -/
import Derived.Test.YtgchbimjgdoifaaTg4
namespace Go.Proofs.Ytgchbimjgdoifaa
open Go.RowKit
set_option linter.unusedVariables false
set_option linter.unusedSimpArgs false
theorem skK_yes {ps : List Prp} {s : Int} {m k : Nat} {p : Prp} (hk : k < ps.length) (hp : ps[k] = p) (h : p.a.p = (m : Int)) : skK ps s m (k + 1) = if skK ps s m k < (m : Int) + p.a.n then (m : Int) + p.a.n else skK ps s m k := by subst hp; rw [skK, getP hk, if_pos h]
theorem skK_no {ps : List Prp} {s : Int} {m k : Nat} {p : Prp} (hk : k < ps.length) (hp : ps[k] = p) (h : ¬ p.a.p = (m : Int)) : skK ps s m (k + 1) = skK ps s m k := by subst hp; rw [skK, getP hk, if_neg h]
set_option maxHeartbeats 4000000 in
set_option maxRecDepth 100000 in
theorem l10Together_any (T A : Option Addr) (t c : Nat) (ss : List ByteArray) (ps : List Prp) (w : World) (hT : Cells w T (strs ss)) (htc : ss.length ≤ t) (h20 : ss.length ≤ 20) (hd : DL w A c ps) (hg : Good8 ps) :
    Calls Try.prog 98 #[.slice T ss.length t, .slice A ps.length c] w fun e w' => ∃ (P : Option Addr) (pc : Nat), e = .returned (.slice P (togO ss ps).length pc) ∧ w'.ownsRow w.heap.size 9 1 (.slice P (togO ss ps).length pc) (togO ss ps).length (strs (togO ss ps)) ∧ Below w.heap.size w w' := by
  have HD := Lib.hid hd
  have HT := Lib.hid hT
  have HG := Lib.hid hg
  have h8 := hg.few
  clear hT hd hg
  go_enter Try.func98, Try.ntmps98
  have HZ := Lib.hid (show World.ownsRow _ w.heap.size 9 1 (.slice (some ⟨w.heap.size, 0, none⟩) 0 0) 0 [] from own_nil_lit w w.heap.size w.heap.size 9 1 rfl (Nat.le_refl _))
  have HZB := Lib.hid (below1 w (.cells #[] 9))
  go_wp2_with fail
  generalize w.alloc (.cells #[] 9) = W0 at *
  go_loopw [5, 6, 7] (fun u sk i wr => ∃ m : Nat, m ≤ ss.length + 1 ∧ i = .int .i64 m ∧ sk = .int .i64 (skP ps m) ∧ ∃ (xs : List ByteArray) (P : Option Addr) (pc : Nat), Hid (xs = togK ss ps m) ∧ u = .slice P xs.length pc ∧ Hid (wr.ownsRow w.heap.size 9 1 (.slice P xs.length pc) xs.length (strs xs)) ∧ Below w.heap.size w wr) (fun _ _ i _ => ss.length + 1 - (intOf i).toNat)
  case atStart => exact ⟨0, Nat.zero_le _, rfl, rfl, [], _, _, Lib.hid rfl, rfl, HZ, HZB.out⟩
  case round =>
    clear HZ HZB
    obtain ⟨w3, hw3⟩ : ∃ x : World, x = wr := ⟨_, rfl⟩
    subst hw3
    obtain ⟨m, hm, rfl, rfl, xs, P, pc, HXS, rfl, HW, hB⟩ := hrel
    have HB3 := Lib.hid hB
    clear hB
    by_cases hlt : m < ss.length + 1
    · have i1 : (m : Int) ≤ (ss.length : Int) := by omega
      have HLK := Lib.hid (togK_len (ss := ss) (fun i hi => (HG.out.pn hi).2.2) h8 m)
      have HSK := Lib.hid (skP_range (fun i hi => (HG.out.pn hi).2.1.2) m)
      obtain ⟨s0, hs0⟩ : ∃ s, Hid (skP ps m = s) := ⟨_, Lib.hid rfl⟩
      rw [hs0.out] at HSK ⊢
      go_wp2_with fail
      go_loopw [5, 6, 8] (fun u sk i w4 => ∃ k : Nat, k ≤ ps.length ∧ i = .int .i64 k ∧ ∃ (s : Int) (ys : List ByteArray) (P : Option Addr) (pc : Nat), sk = .int .i64 s ∧ Hid (s = skK ps s0 m k) ∧ Hid (ys = xs ++ atP ps m k) ∧ u = .slice P ys.length pc ∧ Hid (w4.ownsRow w.heap.size 9 1 (.slice P ys.length pc) ys.length (strs ys)) ∧ Below w.heap.size w w4) (fun _ _ i _ => ps.length - (intOf i).toNat)
      case atStart => exact ⟨0, Nat.zero_le _, rfl, s0, xs, P, pc, rfl, Lib.hid rfl, Lib.hid (by simp [atP]), rfl, HW, HB3.out⟩
      case round =>
        clear HW HB3
        obtain ⟨w4, hw4⟩ : ∃ x : World, x = wr := ⟨_, rfl⟩
        subst hw4
        obtain ⟨k, hk, rfl, s, ys, P, pc, rfl, HSS, HYS, rfl, HW, hB⟩ := hrel
        have HB4 := Lib.hid hB
        clear hB
        by_cases hlk : k < ps.length
        · obtain ⟨a, B, d, hA, ⟨b0, b1, b2, b3, b4, _⟩, hle, hcw⟩ := HD.out.at_ hlk
          have i2 : (k : Int) < (ps.length : Int) := by omega
          obtain ⟨p, hp⟩ : ∃ p, Hid (ps[k] = p) := ⟨_, Lib.hid rfl⟩
          have HPN := HG.out.pn hlk
          rw [getP hlk] at HPN
          rw [hp.out] at b0 b1 b2 b3 b4 hle hcw HPN
          obtain ⟨⟨q1, q2⟩, ⟨q3, q4⟩, q5⟩ := HPN
          have HCW := Lib.hid (hcw.below HB4.out)
          have HAL := Lib.hid (atP_len (fun i hi => (HG.out.pn hi).2.2) m k (by omega))
          have HAY := Lib.hid (fun h => atP_yes (m := m) hlk hp.out h)
          have HAN := Lib.hid (fun h => atP_no (m := m) hlk hp.out h)
          have HKY := Lib.hid (fun h => skK_yes (s := s0) (m := m) hlk hp.out h)
          have HKN := Lib.hid (fun h => skK_no (s := s0) (m := m) hlk hp.out h)
          have c2 := (HB4.out.cell (World.block_lt_of_cell? _ _ b2)).trans b2
          have c3 := (HB4.out.cell (World.block_lt_of_cell? _ _ b3)).trans b3
          have c4 := (HB4.out.cell (World.block_lt_of_cell? _ _ b4)).trans b4
          have HK3 := Lib.hid (fun (W : World) (hW : Below w.heap.size w W) => (hW.cell (World.block_lt_of_cell? _ _ b3)).trans b3)
          subst hA
          clear b0 b1 b2 b3 b4 hle hcw
          by_cases hpm : p.a.p = (m : Int)
          · have hpe : (p.a.p == (m : Int)) = true := by simp [hpm]
            have HYY := Lib.hid (show ys ++ p.a.ws = xs ++ atP ps m (k + 1) by rw [HAY.out hpm, HYS.out, List.append_assoc])
            have hL1 : ys.length ≤ 2000 := by rw [HYS.out, List.length_append, HXS.out]; have := HLK.out; have := HAL.out; omega
            have HLY := Lib.hid (show (ys ++ p.a.ws).length = ys.length + p.a.ws.length from List.length_append)
            obtain ⟨M, e1⟩ : ∃ M : Int, (if s < (m : Int) + p.a.n then (m : Int) + p.a.n else s) = M := ⟨_, rfl⟩
            have HM := Lib.hid (fun W : World => (l1Most_any s ((m : Int) + p.a.n) W).mono (fun e w' ⟨he, hw⟩ => (⟨he.trans (ret_int e1), hw⟩ : e = Ending.returned (.int .i64 M) ∧ w' = W)))
            have HKK := Lib.hid (show M = skK ps s0 m (k + 1) by rw [HKY.out hpm, ← HSS.out, e1])
            clear HAY HAN HKY HKN hpm e1
            go_upto_region 11 with (at_builtin; go_must (refine list_append elStr _ rfl _ _ rfl w.heap.size P B pc ys.length p.a.ws.length d (strs ys) (strs p.a.ws) rfl rfl (strs_len1 _) HW.out HCW.out strs_one (by have := HB4.out.size; omega) (by omega) ?_); intro P2 pc2 w5 o2 b2'; have HW5 := Lib.hid o2; have HB5 := Lib.hid (HB4.out.trans b2'); clear o2 b2' c2 c3 c4)
            have c3 := HK3.out w5 HB5.out
            have HW6 : Hid (w5.ownsRow w.heap.size 9 1 (.slice P2 (ys ++ p.a.ws).length pc2) (ys ++ p.a.ws).length (strs (ys ++ p.a.ws))) := Lib.hid (by rw [HLY.out, strs_append]; exact HW5.out)
            go_wp2_with (go_at_call 120; refine (HM.out _).mono ?_; rintro e w9 ⟨rfl, rfl⟩)
            go_roundw
            case rel => exact ⟨k + 1, hlk, by go_num, M, ys ++ p.a.ws, P2, pc2, rfl, HKK, HYY, by rw [HLY.out], HW6, HB5.out⟩
            case measure => simp [intOf]; omega
          · have hpe : (p.a.p == (m : Int)) = false := by simp [hpm]
            have HYY := Lib.hid (show ys = xs ++ atP ps m (k + 1) by rw [HAN.out hpm, HYS.out])
            have HKK := Lib.hid (show s = skK ps s0 m (k + 1) by rw [HKN.out hpm, HSS.out])
            clear HAY HAN HKY HKN hpm
            go_wp2
            go_roundw
            case rel => exact ⟨k + 1, hlk, by go_num, s, ys, P, pc, rfl, HKK, HYY, rfl, HW, HB4.out⟩
            case measure => simp [intOf]; omega
        · obtain rfl : k = ps.length := by omega
          have HSE := Lib.hid (skip_eq (ps := ps) (fun i hi => (HG.out.pn hi).1.1) m)
          have HSM := Lib.hid (show s = skP ps (m + 1) by rw [HSS.out, skP, hs0.out])
          rcases Bool.eq_false_or_eq_true (stkB ps m ps.length) with hs | hs
          · have hsm : ¬ s ≤ (m : Int) := by rw [HSM.out, HSE.out, hs]; simp
            have HTK := Lib.hid (show ys = togK ss ps (m + 1) by rw [HYS.out, HXS.out]; exact (stkB_step0 _ rfl (by omega) (by rw [hs, Bool.or_true])).symm)
            by_cases hml : m < ss.length
            · have i3 : (m : Int) < (ss.length : Int) := by omega
              go_wp2
              go_roundw
              case rel => exact ⟨m + 1, hlt, by go_num, by rw [HSM.out], ys, P, pc, HTK, rfl, HW, HB4.out⟩
              case measure => simp [intOf]; omega
            · have i3 : ¬ (m : Int) < (ss.length : Int) := by omega
              go_wp2
              go_roundw
              case rel => exact ⟨m + 1, hlt, by go_num, by rw [HSM.out], ys, P, pc, HTK, rfl, HW, HB4.out⟩
              case measure => simp [intOf]; omega
          · have hsm : s ≤ (m : Int) := by rw [HSM.out, HSE.out]; exact hs
            by_cases hml : m < ss.length
            · have i3 : (m : Int) < (ss.length : Int) := by omega
              obtain ⟨_, htk⟩ := stkB_step1 (st0 := false) (ss := ss) (ps := ps) (m := m) (by have : ¬ (m : Int) = (ss.length : Int) := (by omega); simpa using this) (by omega) (by simpa using hs)
              have HTK := Lib.hid (show ys ++ [ss[m]] = togK ss ps (m + 1) by rw [HYS.out, HXS.out]; exact htk.symm)
              have hL1 : ys.length ≤ 2000 := by rw [HYS.out, List.length_append, HXS.out]; have := HLK.out; have := atP_len (fun i hi => (HG.out.pn hi).2.2) m ps.length (Nat.le_refl _); omega
              obtain ⟨ad, rfl, ht0⟩ := str_at (HT.out.below HB4.out) hml
              have HLY := Lib.hid (show (ys ++ [ss[m]]).length = ys.length + 1 by simp)
              obtain ⟨x, hx⟩ : ∃ x, Hid (ss[m] = x) := ⟨_, Lib.hid rfl⟩
              rw [hx.out] at ht0 HTK HLY
              clear htk
              go_wp2_with (at_builtin; go_must (refine list_append elStr _ rfl _ _ rfl w.heap.size P _ pc ys.length 1 1 (strs ys) (strs [x]) rfl rfl rfl (own_keep HW.out ((Below.refl _ _).alloc (Nat.le_refl _) _)) (cells_one _ _ _ _ (by simp)) strs_one (by have := HB4.out.size; simp; omega) (by omega) ?_); intro P2 pc2 w5 o2 b2; have HW5 := Lib.hid o2; have HB5 := Lib.hid (HB4.out.trans (((below1 w4 _).mono HB4.out.size).trans b2)); clear o2 b2 ht0)
              go_roundw
              case rel => exact ⟨m + 1, hlt, by go_num, by rw [HSM.out], ys ++ [x], P2, pc2, HTK, by rw [HLY.out], Lib.hid (by rw [HLY.out, strs_append]; exact HW5.out), HB5.out⟩
              case measure => simp [intOf]; omega
            · have i3 : ¬ (m : Int) < (ss.length : Int) := by omega
              have HTK := Lib.hid (show ys = togK ss ps (m + 1) by rw [HYS.out, HXS.out]; exact (stkB_step0 true (by have : m = ss.length := (by omega); simp [this]) (by omega) rfl).symm)
              go_wp2
              go_roundw
              case rel => exact ⟨m + 1, hlt, by go_num, by rw [HSM.out], ys, P, pc, HTK, rfl, HW, HB4.out⟩
              case measure => simp [intOf]; omega
    · have hme : m = ss.length + 1 := by omega
      have HXO := Lib.hid (show xs = togO ss ps by rw [HXS.out, hme]; rfl)
      have i9 : ¬ (m : Int) ≤ (ss.length : Int) := by omega
      clear hme
      go_wp2
      go_ret
      exact ⟨P, pc, by rw [← HXO.out]; rfl, by rw [← HXO.out]; exact HW.out, HB3.out⟩
set_option maxHeartbeats 2000000 in
theorem sApplyTogether_any (T A : Option Addr) (t c : Nat) (ss : List ByteArray) (ps : List Prp) (w : World) (hT : Cells w T (strs ss)) (htc : ss.length ≤ t) (hfs : Fit ss) (hd : DL w A c ps) (hf : FitP ps) :
    Calls Try.prog 47 #[.slice T ss.length t, .slice A ps.length c] w (ToSB w (togL ss ps) (togB ss ps)) := by
  have HV := Lib.hid (l10Good_any T A t c ss ps w hT htc hfs hd hf)
  have HD := Lib.hid hd
  have HT := Lib.hid hT
  have HF := Lib.hid hf
  have HFS := Lib.hid hfs
  clear hT hd hf hfs
  go_enter Try.func47, Try.ntmps47
  go_wp2_with fail
  refine HV.out.mono ?_
  rintro e w1 ⟨rfl, hb⟩
  have HB := Lib.hid hb
  clear hb HV
  rcases Bool.eq_false_or_eq_true (propB ss ps) with hr | hr
  · rw [hr]
    have HG := Lib.hid (Good8.of hr)
    have h8 := HG.out.few
    have h20 : ss.length ≤ 20 := by
      have := hr
      unfold propB wordsB inB at this
      simp only [Bool.and_eq_true, decide_eq_true_eq] at this
      omega
    go_wp2_with fail
    refine (l10Free_any A c ps w1 (HD.out.below HB.out) (by omega) (fun k hk => ⟨Small.of (HG.out.vld _ (List.getElem_mem hk)), (HF.out.2.1 _ (List.getElem_mem hk)).1⟩)).mono ?_
    rintro e w2 ⟨rfl, hb2⟩
    have HB2 := Lib.hid (HB.out.trans (hb2.mono HB.out.size))
    clear hb2
    rcases Bool.eq_false_or_eq_true (noneB ps ps.length) with hn | hn
    · rw [hn]
      have HTB := Lib.hid (show togB ss ps = wordsB (togO ss ps) 0 20 by unfold togB; rw [hr, hn]; rfl)
      go_wp2_with fail
      refine (l10Together_any T A t c ss ps w2 (HT.out.below HB2.out) htc h20 (HD.out.below HB2.out) HG.out).mono ?_
      rintro e w3 ⟨P, pc, rfl, own, hb3⟩
      have HOF := Lib.hid (togO_fit (ps := ps) HFS.out HF.out HG.out h20)
      have HW := Lib.hid (own_mono own HB2.out.size)
      have HCX := Lib.hid (Cells.of_own own)
      have HB3 := Lib.hid (HB2.out.trans (hb3.mono HB2.out.size))
      clear own hb3
      rcases Bool.eq_false_or_eq_true (wordsB (togO ss ps) 0 20) with hw | hw
      · have HTL := Lib.hid (show togL ss ps = togO ss ps by unfold togL; rw [HTB.out, hw]; rfl)
        go_wp2_with (go_at_call 65; refine (l9Text_any _ _ (togO ss ps) _ HCX.out HOF.out.1 HOF.out.2).mono ?_; rintro e w9 ⟨rfl, rfl⟩; rw [hw])
        go_ret2
        exact ToSB.own_ HW.out HTL.out rfl HOF.out (by rw [HTB.out, hw]) HB3.out
      · have HZ := Lib.hid (own_nil_lit w3 w.heap.size w3.heap.size 9 1 rfl HB3.out.size)
        have HBZ := Lib.hid (HB3.out.trans ((below1 w3 (.cells #[] 9)).mono HB3.out.size))
        go_wp2_with (go_at_call 65; refine (l9Text_any _ _ (togO ss ps) _ HCX.out HOF.out.1 HOF.out.2).mono ?_; rintro e w9 ⟨rfl, rfl⟩; rw [hw])
        go_ret2
        exact ToSB.own_ (ys := []) HZ.out (by unfold togL; simp [HTB.out, hw]) rfl ⟨by simp, fun s h => by simp at h⟩ (by rw [HTB.out, hw]) HBZ.out
    · have HTB := Lib.hid (show togB ss ps = false by unfold togB; rw [hr, hn]; rfl)
      have HZ := Lib.hid (own_nil_lit w2 w.heap.size w2.heap.size 9 1 rfl HB2.out.size)
      have HBZ := Lib.hid (HB2.out.trans ((below1 w2 (.cells #[] 9)).mono HB2.out.size))
      rw [hn]
      go_wp2
      go_ret2
      exact ToSB.own_ (ys := []) HZ.out (by unfold togL; rw [HTB.out]; rfl) rfl ⟨by simp, fun s h => by simp at h⟩ HTB.out HBZ.out
  · have HTB := Lib.hid (show togB ss ps = false by unfold togB; rw [hr]; rfl)
    have HZ := Lib.hid (own_nil_lit w1 w.heap.size w1.heap.size 9 1 rfl HB.out.size)
    have HBZ := Lib.hid (HB.out.trans ((below1 w1 (.cells #[] 9)).mono HB.out.size))
    rw [hr]
    go_wp2
    go_ret2
    exact ToSB.own_ (ys := []) HZ.out (by unfold togL; rw [HTB.out]; rfl) rfl ⟨by simp, fun s h => by simp at h⟩ HTB.out HBZ.out
end Go.Proofs.Ytgchbimjgdoifaa
