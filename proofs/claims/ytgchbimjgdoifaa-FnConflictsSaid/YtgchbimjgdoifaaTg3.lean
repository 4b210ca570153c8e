/- ApplyTogether in the program. Conditions: the ranges named. -/
import Derived.Test.YtgchbimjgdoifaaTg2
namespace Go.Proofs.Ytgchbimjgdoifaa
open Go.RowKit
set_option linter.unusedVariables false
set_option linter.unusedSimpArgs false
set_option maxHeartbeats 4000000 in
set_option maxRecDepth 100000 in
theorem ApplyTogether_any (T A : Option Addr) (t c : Nat) (ss : List ByteArray) (ps : List Prp) (w : World) (hT : Cells w T (strs ss)) (htc : ss.length ≤ t) (hfs : Fit ss) (hd : DL w A c ps) (hf : FitP ps) :
    Calls Try.prog 46 #[.slice T ss.length t, .slice A ps.length c] w (ToSB w (togL ss ps) (togB ss ps)) := by
  have HV := Lib.hid (AreProposals_any T A t c ss ps w hT htc hfs hd hf)
  have HC := Lib.hid (fun W hW hg => conflictPairs_any A c ps W (hd.below hW) hf hg)
  have HD := Lib.hid hd
  have HT := Lib.hid hT
  have HF := Lib.hid hf
  have HFS := Lib.hid hfs
  clear hT hd hf hfs
  go_enter Try.func46, Try.ntmps46
  go_wp2_with fail
  refine HV.out.mono ?_
  rintro e w1 ⟨rfl, hb⟩
  have HB := Lib.hid hb
  clear hb HV
  rcases Bool.eq_false_or_eq_true (propB ss ps) with hr | hr
  · rw [hr]
    have HG := Lib.hid (Good8.of hr)
    have h8 := HG.out.few
    have h20 : ss.length ≤ 20 := by
      have := hr
      unfold propB wordsB inB at this
      simp only [Bool.and_eq_true, decide_eq_true_eq] at this
      omega
    go_wp2_with fail
    refine (HC.out w1 HB.out HG.out).mono ?_
    rintro e w2 ⟨O, oc, rfl, own, hb2⟩
    have HL := Lib.hid own.2.2.1
    have hL := HL.out
    have HB2 := Lib.hid (HB.out.trans (hb2.mono HB.out.size))
    clear own hb2
    have HE := Lib.hid (noneB_eq (ps := ps))
    rcases Bool.eq_false_or_eq_true (noneB ps ps.length) with hn | hn
    · have hn0 : (prs ps ps.length).length = 0 := by
        have := HE.out
        rw [hn] at this
        simp only [Bool.not_true, decide_eq_false_iff_not] at this
        omega
      rw [hn0]
      have HTB := Lib.hid (show togB ss ps = wordsB (togO ss ps) 0 20 by unfold togB; rw [hr, hn]; rfl)
      have HZ := Lib.hid (show World.ownsRow _ w2.heap.size 9 1 (.slice (some ⟨w2.heap.size, 0, none⟩) 0 0) 0 [] from own_nil_lit w2 w2.heap.size w2.heap.size 9 1 rfl (Nat.le_refl _))
      have HZB := Lib.hid (below1 w2 (.cells #[] 9))
      clear hn0 hL
      go_wp2_with fail
      generalize w2.alloc (.cells #[] 9) = W0 at *
      go_loopw [6, 25] (fun u i wr => ∃ m : Nat, m ≤ ss.length + 1 ∧ i = .int .i64 m ∧ ∃ (xs : List ByteArray) (P : Option Addr) (pc : Nat), Hid (xs = togK ss ps m) ∧ u = .slice P xs.length pc ∧ Hid (wr.ownsRow w2.heap.size 9 1 (.slice P xs.length pc) xs.length (strs xs)) ∧ Below w2.heap.size w2 wr) (fun _ i _ => ss.length + 1 - (intOf i).toNat)
      case atStart => exact ⟨0, Nat.zero_le _, rfl, [], _, _, Lib.hid rfl, rfl, HZ, HZB.out⟩
      case round =>
        clear HZ HZB HC
        obtain ⟨w3, hw3⟩ : ∃ x : World, x = wr := ⟨_, rfl⟩
        subst hw3
        obtain ⟨m, hm, rfl, xs, P, pc, HXS, rfl, HW, hB⟩ := hrel
        have HB3 := Lib.hid hB
        clear hB
        by_cases hlt : m < ss.length + 1
        · have i1 : (m : Int) < (ss.length : Int) + 1 := by omega
          have HLK := Lib.hid (togK_len (ss := ss) (fun i hi => (HG.out.pn hi).2.2) h8 m)
          obtain ⟨st0, hst0⟩ : ∃ b : Bool, Hid (((m : Int) == (ss.length : Int)) = b) := ⟨_, Lib.hid rfl⟩
          go_upto_region 8 with fail
          rw [hst0.out]
          go_wp2_with fail
          go_loopw [6, 8, 34] (fun u f i w4 => ∃ k : Nat, k ≤ ps.length ∧ i = .int .i64 k ∧ f = .bool (st0 || stkB ps m k) ∧ ∃ (ys : List ByteArray) (P : Option Addr) (pc : Nat), Hid (ys = xs ++ atP ps m k) ∧ u = .slice P ys.length pc ∧ Hid (w4.ownsRow w2.heap.size 9 1 (.slice P ys.length pc) ys.length (strs ys)) ∧ Below w2.heap.size w2 w4) (fun _ _ i _ => ps.length - (intOf i).toNat)
          case atStart => exact ⟨0, Nat.zero_le _, rfl, by simp [stkB], xs, P, pc, Lib.hid (by simp [atP]), rfl, HW, HB3.out⟩
          case round =>
            clear HW HB3
            obtain ⟨w4, hw4⟩ : ∃ x : World, x = wr := ⟨_, rfl⟩
            subst hw4
            obtain ⟨k, hk, rfl, rfl, ys, P, pc, HYS, rfl, HW, hB⟩ := hrel
            have HB4 := Lib.hid hB
            clear hB
            by_cases hlk : k < ps.length
            · obtain ⟨a, B, d, rfl, ⟨hc0, hc1, hc2, hc3, hc4, hc5⟩, hle, hcw⟩ := ((HD.out.below HB2.out).below HB4.out).at_ hlk
              have i2 : (k : Int) < (ps.length : Int) := by omega
              obtain ⟨p, hp⟩ : ∃ p, Hid (ps[k] = p) := ⟨_, Lib.hid rfl⟩
              have HPN := HG.out.pn hlk
              rw [getP hlk] at HPN
              rw [hp.out] at hc0 hc1 hc2 hc3 hc4 hc5 hle hcw HPN
              obtain ⟨⟨q1, q2⟩, ⟨q3, q4⟩, q5⟩ := HPN
              have HCW := Lib.hid hcw
              have HAL := Lib.hid (atP_len (fun i hi => (HG.out.pn hi).2.2) m k (by omega))
              have HAY := Lib.hid (fun h => atP_yes (m := m) hlk hp.out h)
              have HAN := Lib.hid (fun h => atP_no (m := m) hlk hp.out h)
              have HST := Lib.hid (stkB_step (m := m) hlk hp.out)
              have HBX := Lib.hid (below1 w4 (.cells #[.int .i64 p.i, .int .i64 p.a.k, .int .i64 p.a.p, .int .i64 p.a.n, .slice B p.a.ws.length d, .int .i64 p.t] 65))
              have HNB := Lib.hid (show BoxF (w4.alloc (.cells #[.int .i64 p.i, .int .i64 p.a.k, .int .i64 p.a.p, .int .i64 p.a.n, .slice B p.a.ws.length d, .int .i64 p.t] 65)) w4.heap.size [.int .i64 p.i, .int .i64 p.a.k, .int .i64 p.a.p, .int .i64 p.a.n, .slice B p.a.ws.length d, .int .i64 p.t] from BoxF.new' w4 _ _ _ rfl)
              have hws : w4.heap.size < (w4.alloc (.cells #[.int .i64 p.i, .int .i64 p.a.k, .int .i64 p.a.p, .int .i64 p.a.n, .slice B p.a.ws.length d, .int .i64 p.t] 65)).heap.size := by simp
              go_upto_region 11 with fail
              generalize w4.alloc (.cells #[.int .i64 p.i, .int .i64 p.a.k, .int .i64 p.a.p, .int .i64 p.a.n, .slice B p.a.ws.length d, .int .i64 p.t] 65) = W at *
              have HW2 := Lib.hid (own_keep HW.out HBX.out)
              have HNI := Lib.hid (show NotIn P w4.heap.size from fun b hb e => by subst hb; have := (HW.out.lt b.block rfl).2; omega)
              have HBW := Lib.hid (HB4.out.trans (HBX.out.mono HB4.out.size))
              have b1 := HNB.out.1 1 _ rfl
              have b2 := HNB.out.1 2 _ rfl
              have b3 := HNB.out.1 3 _ rfl
              have b4 := HNB.out.1 4 _ rfl
              clear hc0 hc1 hc2 hc3 hc4 hc5 hle hcw
              by_cases hpm : p.a.p = (m : Int)
              · have hpe : (p.a.p == (m : Int)) = true := by simp [hpm]
                have HYY := Lib.hid (show ys ++ p.a.ws = xs ++ atP ps m (k + 1) by rw [HAY.out hpm, HYS.out, List.append_assoc])
                have hL1 : ys.length ≤ 2000 := by rw [HYS.out, List.length_append, HXS.out]; have := HLK.out; have := HAL.out; omega
                have HLY := Lib.hid (show (ys ++ p.a.ws).length = ys.length + p.a.ws.length from List.length_append)
                have HCB := Lib.hid (HCW.out.below HBX.out)
                clear HAY HAN hpm HCW
                go_upto_region 12 with fail
                go_upto_region 13 with (at_builtin; go_must (refine list_append_opt elStr _ rfl _ _ rfl w2.heap.size P B pc ys.length p.a.ws.length d (strs ys) (strs p.a.ws) rfl rfl (strs_len1 _) HW2.out HCB.out strs_one (by have := HBW.out.size; omega) (by omega) ?_); intro P2 pc2 w5 o2 b2' s2 k2; have HW5 := Lib.hid o2; have HB5 := Lib.hid (HBW.out.trans b2'); have HN5 := Lib.hid (HNB.out.block (k2 w4.heap.size hws HNI.out).1); clear o2 b2' s2 k2 b1 b2 b3 b4)
                have HW6 : Hid (w5.ownsRow w2.heap.size 9 1 (.slice P2 (ys ++ p.a.ws).length pc2) (ys ++ p.a.ws).length (strs (ys ++ p.a.ws))) := Lib.hid (by rw [HLY.out, strs_append]; exact HW5.out)
                rcases Bool.eq_false_or_eq_true (st0 || stkB ps m k) with hs | hs
                · have HS := Lib.hid (show (st0 || stkB ps m (k + 1)) = true by rw [HST.out, ← Bool.or_assoc, hs]; rfl)
                  rw [hs]
                  go_wp2
                  go_roundw
                  case rel => exact ⟨k + 1, hlk, by go_num, by rw [HS.out], ys ++ p.a.ws, P2, pc2, HYY, by rw [HLY.out], HW6, HB5.out⟩
                  case measure => simp [intOf]; omega
                · have HS := Lib.hid (show (st0 || stkB ps m (k + 1)) = inB m p.a.p (p.a.p + p.a.n - 1) by rw [HST.out, ← Bool.or_assoc, hs]; rfl)
                  rw [hs]
                  have c2 := HN5.out.1 2 _ rfl; have c3 := HN5.out.1 3 _ rfl
                  go_wp2_with (go_at_call 81; refine (inside_any _ _ _ _).mono ?_; rintro e w9 ⟨rfl, rfl⟩)
                  go_roundw
                  case rel => exact ⟨k + 1, hlk, by go_num, by rw [HS.out], ys ++ p.a.ws, P2, pc2, HYY, by rw [HLY.out], HW6, HB5.out⟩
                  case measure => simp [intOf]; omega
              · have hpe : (p.a.p == (m : Int)) = false := by simp [hpm]
                have HYY := Lib.hid (show ys = xs ++ atP ps m (k + 1) by rw [HAN.out hpm, HYS.out])
                clear HAY HAN hpm HCW
                go_upto_region 13 with fail
                rcases Bool.eq_false_or_eq_true (st0 || stkB ps m k) with hs | hs
                · have HS := Lib.hid (show (st0 || stkB ps m (k + 1)) = true by rw [HST.out, ← Bool.or_assoc, hs]; rfl)
                  rw [hs]
                  go_wp2
                  go_roundw
                  case rel => exact ⟨k + 1, hlk, by go_num, by rw [HS.out], ys, P, pc, HYY, rfl, HW2, HBW.out⟩
                  case measure => simp [intOf]; omega
                · have HS := Lib.hid (show (st0 || stkB ps m (k + 1)) = inB m p.a.p (p.a.p + p.a.n - 1) by rw [HST.out, ← Bool.or_assoc, hs]; rfl)
                  rw [hs]
                  skip
                  go_wp2_with (go_at_call 81; refine (inside_any _ _ _ _).mono ?_; rintro e w9 ⟨rfl, rfl⟩)
                  go_roundw
                  case rel => exact ⟨k + 1, hlk, by go_num, by rw [HS.out], ys, P, pc, HYY, rfl, HW2, HBW.out⟩
                  case measure => simp [intOf]; omega
            · obtain rfl : k = ps.length := by omega
              have HSB := Lib.hid (stkB_step0 (ss := ss) (ps := ps) (m := m))
              rcases Bool.eq_false_or_eq_true (st0 || stkB ps m ps.length) with hs | hs
              · have HTK := Lib.hid (show ys = togK ss ps (m + 1) by rw [HYS.out, HXS.out]; exact (HSB.out st0 hst0.out (by omega) hs).symm)
                rw [hs]
                go_wp2
                go_roundw
                case rel => exact ⟨m + 1, hlt, by go_num, ys, P, pc, HTK, rfl, HW, HB4.out⟩
                case measure => simp [intOf]; omega
              · obtain ⟨hml, htk⟩ := stkB_step1 (ss := ss) (ps := ps) (m := m) hst0.out (by omega) hs
                have HTK := Lib.hid (show ys ++ [ss[m]] = togK ss ps (m + 1) by rw [HYS.out, HXS.out]; exact htk.symm)
                have hL1 : ys.length ≤ 2000 := by rw [HYS.out, List.length_append, HXS.out]; have := HLK.out; have := atP_len (fun i hi => (HG.out.pn hi).2.2) m ps.length (Nat.le_refl _); omega
                obtain ⟨ad, rfl, ht0⟩ := str_at ((HT.out.below HB2.out).below HB4.out) hml
                have i3 : (m : Int) < (ss.length : Int) := by omega
                have HLY := Lib.hid (show (ys ++ [ss[m]]).length = ys.length + 1 by simp)
                obtain ⟨x, hx⟩ : ∃ x, Hid (ss[m] = x) := ⟨_, Lib.hid rfl⟩
                rw [hx.out] at ht0 HTK HLY
                rw [hs]
                clear htk HSB
                go_wp2_with (at_builtin; go_must (refine list_append elStr _ rfl _ _ rfl w2.heap.size P _ pc ys.length 1 1 (strs ys) (strs [x]) rfl rfl rfl (own_keep HW.out ((Below.refl _ _).alloc (Nat.le_refl _) _)) (cells_one _ _ _ _ (by simp)) strs_one (by have := HB4.out.size; simp; omega) (by omega) ?_); intro P2 pc2 w5 o2 b2; have HW5 := Lib.hid o2; have HB5 := Lib.hid (HB4.out.trans (((below1 w4 _).mono HB4.out.size).trans b2)); clear o2 b2 ht0)
                go_roundw
                case rel => exact ⟨m + 1, hlt, by go_num, ys ++ [x], P2, pc2, HTK, by rw [HLY.out], Lib.hid (by rw [HLY.out, strs_append]; exact HW5.out), HB5.out⟩
                case measure => simp [intOf]; omega
        · obtain rfl : m = ss.length + 1 := by omega
          have HOF := Lib.hid (togO_fit (ps := ps) HFS.out HF.out HG.out h20)
          have HXO := Lib.hid (show xs = togO ss ps from HXS.out)
          rw [← HXO.out] at HOF HTB
          have HCX := Lib.hid (Cells.of_own HW.out)
          rcases Bool.eq_false_or_eq_true (wordsB xs 0 20) with hw | hw
          · have HTL := Lib.hid (show togL ss ps = xs by unfold togL; rw [HTB.out, hw, HXO.out]; rfl)
            go_wp2_with (go_at_call 27; refine (IsText_any _ _ xs _ HCX.out HOF.out.1 HOF.out.2).mono ?_; rintro e w9 ⟨rfl, rfl⟩; rw [hw])
            go_ret2
            exact ToSB.own_ (own_mono HW.out HB2.out.size) HTL.out rfl HOF.out (by rw [HTB.out, hw]) (HB2.out.trans (HB3.out.mono HB2.out.size))
          · go_wp2_with (go_at_call 27; refine (IsText_any _ _ xs _ HCX.out HOF.out.1 HOF.out.2).mono ?_; rintro e w9 ⟨rfl, rfl⟩; rw [hw])
            go_ret2
            exact ToLBS.none_ (by unfold togL; simp [HTB.out, hw]) (by rw [HTB.out, hw]) (HB2.out.trans (HB3.out.mono HB2.out.size))
    · have hn1 : 0 < ((prs ps ps.length).length : Int) := by
        have := HE.out
        rw [hn] at this
        simpa using this
      have HTB := Lib.hid (show togB ss ps = false by unfold togB; rw [hr, hn]; rfl)
      go_wp2
      go_ret2
      exact ToLBS.none_ (by unfold togL; rw [HTB.out]; rfl) HTB.out HB2.out
  · rw [hr]
    go_wp2
    go_ret2
    exact ToLBS.none_ (by unfold togL togB; rw [hr]; rfl) (by unfold togB; rw [hr]; rfl) HB.out
end Go.Proofs.Ytgchbimjgdoifaa
