/- The walk of the law FnAmendments: it returns true. Conditions: none. -/
import Derived.Test.YtgchbimjgdoifaaFa1
import Derived.Test.YtgchbimjgdoifaaFa2
import Derived.Test.YtgchbimjgdoifaaByt
import Derived.Test.YtgchbimjgdoifaaAbs
import Derived.Deep.DrawnRows
namespace Go.Proofs.Ytgchbimjgdoifaa.fnAmendments
open Go.RowKit
set_option linter.unusedVariables false
set_option linter.unusedSimpArgs false
attribute [local go_sem ↓] Go.wp_at_zero Go.wp_at_succ
set_option maxRecDepth 100000 in
set_option maxHeartbeats 8000000 in
theorem walk (A : Option Addr) (c : Nat) (xs : List Int) (w : World) (hx : xs.length ≤ c ∧ Cells w A (ByteK.row xs) ∧ xs.length ≤ maxLen ∧ ∀ x ∈ xs, ByteK.fit x) :
    Calls Try.prog 5 #[.slice A xs.length c] w fun e w' => e = .returned (.bool true) ∧ Below w.heap.size w w' := by
  have HBY := Lib.hid (bytesC_of hx.2.1 hx.2.2.2)
  have HB := Lib.hid (Below.refl w.heap.size w)
  clear hx
  by_cases hbig : 65536 < xs.length
  · have hd : decide (65536 < xs.length) = true := decide_eq_true hbig
    go_enter Try.func5, Try.ntmps5
    go_wp2_with fail
    refine (vBig_any A _ c w).mono ?_
    rintro e w1 ⟨rfl, hb⟩
    rw [hd]
    go_wp2
    go_ret
    exact ⟨rfl, hb⟩
  have hd : decide (65536 < xs.length) = false := decide_eq_false hbig
  have hxl : xs.length ≤ 65536 := by omega
  clear hbig
  go_enter Try.func5, Try.ntmps5
  go_wp2_with fail
  refine (vBig_any A _ c w).mono ?_
  rintro e w1 ⟨rfl, hb⟩
  replace HBY := Lib.hid (HBY.out.grow hb)
  replace HB := Lib.hid (after HB.out hb)
  rw [hd]
  clear hd
  clear hb
  go_wp2_with fail
  refine (DrawApplyAmendment_any A _ c w1 HBY.out hxl).mono ?_
  rintro e w2 ⟨T, N, t, nd, ss, a, rfl, hT, hA, hb⟩
  replace HBY := Lib.hid (HBY.out.grow hb)
  replace HB := Lib.hid (after HB.out hb)
  have HT := Lib.hid (hT)
  have HA := Lib.hid (hA)
  clear hT hA
  clear hb
  have HP := Lib.hid (fa_one (ss := ss) (a := a))
  obtain ⟨ts, hts⟩ : ∃ x, Hid (appL ss a = x) := ⟨_, Lib.hid rfl⟩
  obtain ⟨ok, hok⟩ : ∃ x, Hid (canB ss a = x) := ⟨_, Lib.hid rfl⟩
  obtain ⟨iv, hiv⟩ : ∃ x, Hid (invR ss a = x) := ⟨_, Lib.hid rfl⟩
  obtain ⟨wv, hwv⟩ : ∃ x, Hid (wordsB ss 0 20 = x) := ⟨_, Lib.hid rfl⟩
  obtain ⟨va, hva⟩ : ∃ x, Hid (vldA a = x) := ⟨_, Lib.hid rfl⟩
  rw [hts.out, hok.out, hiv.out] at HP
  have HFI := Lib.hid (show Fit ss → Fit iv.ws from fun h => by rw [← hiv.out]; exact Fit.inv h)
  have hb := below1 w2 (.cells #[.int .i64 a.k, .int .i64 a.p, .int .i64 a.n, .slice N a.ws.length nd] 40)
  replace HBY := Lib.hid (HBY.out.grow hb)
  replace HT := Lib.hid (HT.out.grow hb)
  replace HA := Lib.hid (HA.out.grow hb)
  replace HB := Lib.hid (after HB.out hb)
  have HQ := Lib.hid (BoxX.new w2 #[.int .i64 a.k, .int .i64 a.p, .int .i64 a.n, .slice N a.ws.length nd] 40)
  clear hb
  go_upto_region 4 with fail
  generalize w2.alloc (.cells #[.int .i64 a.k, .int .i64 a.p, .int .i64 a.n, .slice N a.ws.length nd] 40) = w3 at *
  generalize w2.heap.size = qQ at *
  have xQ0 := HQ.out.1.1 0 _ rfl
  have xQ1 := HQ.out.1.1 1 _ rfl
  have xQ2 := HQ.out.1.1 2 _ rfl
  have xQ3 := HQ.out.1.1 3 _ rfl
  go_wp2_with fail
  refine (ApplyAmendment_abs HT.out HA.out).mono ?_
  rintro e w4 ⟨P, pd, rfl, ho, hb⟩
  rw [hts.out] at ho ⊢
  rw [hok.out]
  replace HBY := Lib.hid (HBY.out.grow hb)
  replace HT := Lib.hid (HT.out.grow hb)
  replace HA := Lib.hid (HA.out.grow hb)
  replace HQ := Lib.hid (HQ.out.step hb)
  replace HB := Lib.hid (after HB.out hb)
  have HPx := Lib.hid (OwS.rdX ho)
  clear xQ0 xQ1 xQ2 xQ3 ho
  clear hb
  have xQ0 := HQ.out.1.1 0 _ rfl
  have xQ1 := HQ.out.1.1 1 _ rfl
  have xQ2 := HQ.out.1.1 2 _ rfl
  have xQ3 := HQ.out.1.1 3 _ rfl
  go_wp2_with fail
  refine (sApplyAmendment_abs HT.out HA.out).mono ?_
  rintro e w5 ⟨R, rd, rfl, ho, hb⟩
  rw [hts.out] at ho ⊢
  rw [hok.out]
  replace HBY := Lib.hid (HBY.out.grow hb)
  replace HT := Lib.hid (HT.out.grow hb)
  replace HA := Lib.hid (HA.out.grow hb)
  replace HQ := Lib.hid (HQ.out.step hb)
  replace HPx := Lib.hid (HPx.out.grow hb)
  replace HB := Lib.hid (after HB.out hb)
  have HR := Lib.hid (OwS.rdX ho)
  clear xQ0 xQ1 xQ2 xQ3 ho
  clear hb
  have xQ0 := HQ.out.1.1 0 _ rfl
  have xQ1 := HQ.out.1.1 1 _ rfl
  have xQ2 := HQ.out.1.1 2 _ rfl
  have xQ3 := HQ.out.1.1 3 _ rfl
  have zqQ := HQ.out.2
  go_wp2_with fail
  go_region_held3 (fun w' => Below w5.heap.size w5 w' ∧ (∀ b o, b < w5.heap.size → w'.cell? ⟨b, o, none⟩ = w5.cell? ⟨b, o, none⟩))
    ((first | (refine mkS ?_; assumption) | (refine drewS ?_; assumption) | (refine mkS ?_; go_grown)))
    (first
      | (go_at_call 26; refine (vTexts_same (HPx.out.below (S1 (by assumption)) (Nat.le_refl _)) (HR.out.below (S1 (by assumption)) (Nat.le_refl _))).mono ?_; rintro e w' ⟨rfl, hb⟩; obtain ⟨hB, hzz⟩ := callS (by assumption) (Nat.le_refl _) hb; clear hb)
      | (go_at_call 27; refine (IsText_any T t ss _ (HT.out.below (S1 (by assumption)) (Nat.le_refl _)).cells HT.out.2.2.1 HT.out.2.2.2).mono ?_; rintro e w' ⟨rfl, rfl⟩; skip)
      | (go_at_call 28; refine (sIsText_any T t ss _ (HT.out.below (S1 (by assumption)) (Nat.le_refl _)).cells HT.out.2.2.1 HT.out.2.2.2).mono ?_; rintro e w' ⟨rfl, rfl⟩; skip)
      | (go_at_call 29; refine (IsValidAmendment_any N nd a _ (HA.out.below (S1 (by assumption)) (Nat.le_refl _)).cells HA.out.2.2).mono ?_; rintro e w' ⟨rfl, hb⟩; obtain ⟨hB, hzz⟩ := callS (by assumption) (Nat.le_refl _) hb; clear hb)
      | (go_at_call 30; refine (sIsValidAmendment_any N nd a _ (HA.out.below (S1 (by assumption)) (Nat.le_refl _)).cells HA.out.2.2).mono ?_; rintro e w6 ⟨rfl, hb⟩; obtain ⟨hB, hzz⟩ := callS (by assumption) (Nat.le_refl _) hb; have HBz := Lib.hid hB; clear hb))
  have hb := HBz.out
  replace HBY := Lib.hid (HBY.out.grow hb)
  replace HT := Lib.hid (HT.out.grow hb)
  replace HA := Lib.hid (HA.out.grow hb)
  replace HQ := Lib.hid (HQ.out.step hb)
  replace HPx := Lib.hid (HPx.out.grow hb)
  replace HR := Lib.hid (HR.out.grow hb)
  replace HB := Lib.hid (after HB.out hb)
  clear hb xQ0 xQ1 xQ2 xQ3 zqQ
  clear HR
  have xQ0 := HQ.out.1.1 0 _ rfl
  have xQ1 := HQ.out.1.1 1 _ rfl
  have xQ2 := HQ.out.1.1 2 _ rfl
  have xQ3 := HQ.out.1.1 3 _ rfl
  go_wp2_with fail
  refine (FitsText_abs HT.out HA.out).mono ?_
  rintro e w7 ⟨rfl, hb⟩
  rw [hok.out, hwv.out, hva.out]
  replace HBY := Lib.hid (HBY.out.grow hb)
  replace HT := Lib.hid (HT.out.grow hb)
  replace HA := Lib.hid (HA.out.grow hb)
  replace HQ := Lib.hid (HQ.out.step hb)
  replace HPx := Lib.hid (HPx.out.grow hb)
  replace HB := Lib.hid (after HB.out hb)
  clear xQ0 xQ1 xQ2 xQ3
  clear hb
  have xQ0 := HQ.out.1.1 0 _ rfl
  have xQ1 := HQ.out.1.1 1 _ rfl
  have xQ2 := HQ.out.1.1 2 _ rfl
  have xQ3 := HQ.out.1.1 3 _ rfl
  go_wp2_with fail
  refine (sFitsText_abs HT.out HA.out).mono ?_
  rintro e w8 ⟨rfl, hb⟩
  rw [hok.out, hwv.out, hva.out]
  replace HBY := Lib.hid (HBY.out.grow hb)
  replace HT := Lib.hid (HT.out.grow hb)
  replace HA := Lib.hid (HA.out.grow hb)
  replace HQ := Lib.hid (HQ.out.step hb)
  replace HPx := Lib.hid (HPx.out.grow hb)
  replace HB := Lib.hid (after HB.out hb)
  clear xQ0 xQ1 xQ2 xQ3
  clear hb
  have xQ0 := HQ.out.1.1 0 _ rfl
  have xQ1 := HQ.out.1.1 1 _ rfl
  have xQ2 := HQ.out.1.1 2 _ rfl
  have xQ3 := HQ.out.1.1 3 _ rfl
  go_wp2_with fail
  refine (InverseAmendment_abs HT.out HA.out).mono ?_
  rintro e w9 ⟨I, id, rfl, ho, hb⟩
  rw [hiv.out] at ho ⊢
  rw [hok.out]
  replace HBY := Lib.hid (HBY.out.grow hb)
  replace HT := Lib.hid (HT.out.grow hb)
  replace HA := Lib.hid (HA.out.grow hb)
  replace HQ := Lib.hid (HQ.out.step hb)
  replace HPx := Lib.hid (HPx.out.grow hb)
  replace HB := Lib.hid (after HB.out hb)
  have HI1 := Lib.hid (OwS.rdX ho)
  clear xQ0 xQ1 xQ2 xQ3 ho
  clear hb
  have hb := below1 w9 (.cells #[.int .i64 iv.k, .int .i64 iv.p, .int .i64 iv.n, .slice I iv.ws.length id] 40)
  replace HBY := Lib.hid (HBY.out.grow hb)
  replace HT := Lib.hid (HT.out.grow hb)
  replace HA := Lib.hid (HA.out.grow hb)
  replace HQ := Lib.hid (HQ.out.step hb)
  replace HPx := Lib.hid (HPx.out.grow hb)
  replace HI1 := Lib.hid (HI1.out.grow hb)
  replace HB := Lib.hid (after HB.out hb)
  have HQ1 := Lib.hid (BoxX.new w9 #[.int .i64 iv.k, .int .i64 iv.p, .int .i64 iv.n, .slice I iv.ws.length id] 40)
  clear hb
  go_upto_region 13 with fail
  generalize w9.alloc (.cells #[.int .i64 iv.k, .int .i64 iv.p, .int .i64 iv.n, .slice I iv.ws.length id] 40) = w10 at *
  generalize w9.heap.size = qQ1 at *
  have xQ0 := HQ.out.1.1 0 _ rfl
  have xQ1 := HQ.out.1.1 1 _ rfl
  have xQ2 := HQ.out.1.1 2 _ rfl
  have xQ3 := HQ.out.1.1 3 _ rfl
  go_wp2_with fail
  refine (sInverseAmendment_abs HT.out HA.out).mono ?_
  rintro e w11 ⟨J, jd, rfl, ho, hb⟩
  rw [hiv.out] at ho ⊢
  rw [hok.out]
  replace HBY := Lib.hid (HBY.out.grow hb)
  replace HT := Lib.hid (HT.out.grow hb)
  replace HA := Lib.hid (HA.out.grow hb)
  replace HQ := Lib.hid (HQ.out.step hb)
  replace HPx := Lib.hid (HPx.out.grow hb)
  replace HI1 := Lib.hid (HI1.out.grow hb)
  replace HQ1 := Lib.hid (HQ1.out.step hb)
  replace HB := Lib.hid (after HB.out hb)
  have HI2 := Lib.hid (OwS.rdX ho)
  clear xQ0 xQ1 xQ2 xQ3 ho
  clear hb
  have hb := below1 w11 (.cells #[.int .i64 iv.k, .int .i64 iv.p, .int .i64 iv.n, .slice J iv.ws.length jd] 40)
  replace HBY := Lib.hid (HBY.out.grow hb)
  replace HT := Lib.hid (HT.out.grow hb)
  replace HA := Lib.hid (HA.out.grow hb)
  replace HQ := Lib.hid (HQ.out.step hb)
  replace HPx := Lib.hid (HPx.out.grow hb)
  replace HI1 := Lib.hid (HI1.out.grow hb)
  replace HQ1 := Lib.hid (HQ1.out.step hb)
  replace HI2 := Lib.hid (HI2.out.grow hb)
  replace HB := Lib.hid (after HB.out hb)
  have HQ2 := Lib.hid (BoxX.new w11 #[.int .i64 iv.k, .int .i64 iv.p, .int .i64 iv.n, .slice J iv.ws.length jd] 40)
  clear hb
  go_upto_region 14 with fail
  generalize w11.alloc (.cells #[.int .i64 iv.k, .int .i64 iv.p, .int .i64 iv.n, .slice J iv.ws.length jd] 40) = w12 at *
  generalize w11.heap.size = qQ2 at *
  have xQ10 := HQ1.out.1.1 0 _ rfl
  have xQ11 := HQ1.out.1.1 1 _ rfl
  have xQ12 := HQ1.out.1.1 2 _ rfl
  have xQ13 := HQ1.out.1.1 3 _ rfl
  have xQ20 := HQ2.out.1.1 0 _ rfl
  have xQ21 := HQ2.out.1.1 1 _ rfl
  have xQ22 := HQ2.out.1.1 2 _ rfl
  have xQ23 := HQ2.out.1.1 3 _ rfl
  go_wp2_with fail
  refine (vAmendment_same HI1.out HI2.out).mono ?_
  rintro e w13 ⟨rfl, hb⟩
  replace HBY := Lib.hid (HBY.out.grow hb)
  replace HT := Lib.hid (HT.out.grow hb)
  replace HA := Lib.hid (HA.out.grow hb)
  replace HQ := Lib.hid (HQ.out.step hb)
  replace HPx := Lib.hid (HPx.out.grow hb)
  replace HI1 := Lib.hid (HI1.out.grow hb)
  replace HQ1 := Lib.hid (HQ1.out.step hb)
  replace HI2 := Lib.hid (HI2.out.grow hb)
  replace HQ2 := Lib.hid (HQ2.out.step hb)
  replace HB := Lib.hid (after HB.out hb)
  clear xQ10 xQ11 xQ12 xQ13 xQ20 xQ21 xQ22 xQ23
  clear hb
  clear HI2 HQ2
  rcases Bool.eq_false_or_eq_true ok with hk | hk
  · subst hk
    obtain ⟨hp1, hp2, hp3, hp4⟩ := HP.out (by simp)
    have HP1 := Lib.hid hp1
    have HP2 := Lib.hid hp2
    have HP3 := Lib.hid hp3
    have HP4 := Lib.hid hp4
    clear hp1 hp2 hp3 hp4 HP
    have xQ10 := HQ1.out.1.1 0 _ rfl
    have xQ11 := HQ1.out.1.1 1 _ rfl
    have xQ12 := HQ1.out.1.1 2 _ rfl
    have xQ13 := HQ1.out.1.1 3 _ rfl
    go_wp2_with fail
    refine (ApplyAmendment_abs HPx.out HI1.out).mono ?_
    rintro e w14 ⟨B, bd, rfl, ho, hb⟩
    rw [HP2.out] at ho ⊢
    rw [HP1.out]
    replace HBY := Lib.hid (HBY.out.grow hb)
    replace HT := Lib.hid (HT.out.grow hb)
    replace HA := Lib.hid (HA.out.grow hb)
    replace HQ := Lib.hid (HQ.out.step hb)
    replace HPx := Lib.hid (HPx.out.grow hb)
    replace HI1 := Lib.hid (HI1.out.grow hb)
    replace HQ1 := Lib.hid (HQ1.out.step hb)
    replace HB := Lib.hid (after HB.out hb)
    have HBk := Lib.hid (OwS.rdX ho)
    clear xQ10 xQ11 xQ12 xQ13 ho
    clear hb
    have HFS := Lib.hid (Fit.sg_ (ss := ss) (ts := ts) HPx.out.2.2)
    obtain ⟨sc, hsc⟩ : ∃ x, Hid (sgR ss ts = x) := ⟨_, Lib.hid rfl⟩
    obtain ⟨sk, hsk⟩ : ∃ x, Hid (sgOk ss ts = x) := ⟨_, Lib.hid rfl⟩
    rw [hsc.out] at HP4 HFS
    rw [hsk.out] at HP4
    go_wp2_with fail
    refine (SingleChange_any T P t pd ss ts w14 HT.out.cells HT.out.1 HT.out.2.2 HPx.out.cells HPx.out.1 HPx.out.2.2).mono ?_
    rintro e w15 ⟨C, cd, rfl, ho, hb⟩
    rw [hsc.out] at ho ⊢
    rw [hsk.out]
    replace HBY := Lib.hid (HBY.out.grow hb)
    replace HT := Lib.hid (HT.out.grow hb)
    replace HA := Lib.hid (HA.out.grow hb)
    replace HQ := Lib.hid (HQ.out.step hb)
    replace HPx := Lib.hid (HPx.out.grow hb)
    replace HI1 := Lib.hid (HI1.out.grow hb)
    replace HQ1 := Lib.hid (HQ1.out.step hb)
    replace HBk := Lib.hid (HBk.out.grow hb)
    replace HB := Lib.hid (after HB.out hb)
    have HC := Lib.hid (rd_own ho HFS.out)
    clear ho
    clear hb
    have hb := below1 w15 (.cells #[.int .i64 sc.k, .int .i64 sc.p, .int .i64 sc.n, .slice C sc.ws.length cd] 40)
    replace HBY := Lib.hid (HBY.out.grow hb)
    replace HT := Lib.hid (HT.out.grow hb)
    replace HA := Lib.hid (HA.out.grow hb)
    replace HQ := Lib.hid (HQ.out.step hb)
    replace HPx := Lib.hid (HPx.out.grow hb)
    replace HI1 := Lib.hid (HI1.out.grow hb)
    replace HQ1 := Lib.hid (HQ1.out.step hb)
    replace HBk := Lib.hid (HBk.out.grow hb)
    replace HC := Lib.hid (HC.out.grow hb)
    replace HB := Lib.hid (after HB.out hb)
    have HQ3 := Lib.hid (BoxX.new w15 #[.int .i64 sc.k, .int .i64 sc.p, .int .i64 sc.n, .slice C sc.ws.length cd] 40)
    clear hb
    go_upto_region 19 with fail
    generalize w15.alloc (.cells #[.int .i64 sc.k, .int .i64 sc.p, .int .i64 sc.n, .slice C sc.ws.length cd] 40) = w16 at *
    generalize w15.heap.size = qQ3 at *
    rcases Bool.eq_false_or_eq_true sk with hs | hs
    · subst hs
      go_wp2_with fail
      refine (vTexts_same HBk.out HT.out).mono ?_
      rintro e w17 ⟨rfl, hb⟩
      replace HBY := Lib.hid (HBY.out.grow hb)
      replace HT := Lib.hid (HT.out.grow hb)
      replace HA := Lib.hid (HA.out.grow hb)
      replace HQ := Lib.hid (HQ.out.step hb)
      replace HPx := Lib.hid (HPx.out.grow hb)
      replace HI1 := Lib.hid (HI1.out.grow hb)
      replace HQ1 := Lib.hid (HQ1.out.step hb)
      replace HBk := Lib.hid (HBk.out.grow hb)
      replace HC := Lib.hid (HC.out.grow hb)
      replace HQ3 := Lib.hid (HQ3.out.step hb)
      replace HB := Lib.hid (after HB.out hb)
      clear hb
      have hgt := HP4.out (by simp)
      have xQ0 := HQ.out.1.1 0 _ rfl
      have xQ1 := HQ.out.1.1 1 _ rfl
      have xQ2 := HQ.out.1.1 2 _ rfl
      have xQ3 := HQ.out.1.1 3 _ rfl
      have xQ30 := HQ3.out.1.1 0 _ rfl
      have xQ31 := HQ3.out.1.1 1 _ rfl
      have xQ32 := HQ3.out.1.1 2 _ rfl
      have xQ33 := HQ3.out.1.1 3 _ rfl
      go_wp2_with fail
      refine (IsText_any P pd ts w17 HPx.out.cells HPx.out.2.2.1 HPx.out.2.2.2).mono ?_
      rintro e w' ⟨rfl, hw⟩
      rw [← hw]
      clear hw
      rw [HP3.out]
      skip
      clear HT HA HQ HPx HI1 HQ1 HBk HC HQ3
      go_wp2_with fail
      refine (DrawSingleChange_any A _ c w17 HBY.out hxl).mono ?_
      rintro e w18 ⟨X, Y, xd, yd, us, vs, rfl, hX, hY, hb⟩
      replace HBY := Lib.hid (HBY.out.grow hb)
      replace HB := Lib.hid (after HB.out hb)
      have HX := Lib.hid (hX)
      have HY := Lib.hid (hY)
      clear hX hY
      clear hb
      clear HBY
      have HZ := Lib.hid (fa_two (ss := us) (ts := vs))
      have HFS := Lib.hid (Fit.sg_ (ss := us) (ts := vs) HY.out.2.2)
      obtain ⟨sg, hsg⟩ : ∃ x, Hid (sgR us vs = x) := ⟨_, Lib.hid rfl⟩
      obtain ⟨so, hso⟩ : ∃ x, Hid (sgOk us vs = x) := ⟨_, Lib.hid rfl⟩
      rw [hsg.out] at HZ HFS
      rw [hso.out] at HZ
      go_wp2_with fail
      refine (SingleChange_any X Y xd yd us vs w18 HX.out.cells HX.out.1 HX.out.2.2 HY.out.cells HY.out.1 HY.out.2.2).mono ?_
      rintro e w19 ⟨G, gd, rfl, ho, hb⟩
      rw [hsg.out] at ho ⊢
      rw [hso.out]
      replace HX := Lib.hid (HX.out.grow hb)
      replace HY := Lib.hid (HY.out.grow hb)
      replace HB := Lib.hid (after HB.out hb)
      have HG := Lib.hid (rd_own ho HFS.out)
      clear ho
      clear hb
      have hb := below1 w19 (.cells #[.int .i64 sg.k, .int .i64 sg.p, .int .i64 sg.n, .slice G sg.ws.length gd] 40)
      replace HX := Lib.hid (HX.out.grow hb)
      replace HY := Lib.hid (HY.out.grow hb)
      replace HG := Lib.hid (HG.out.grow hb)
      replace HB := Lib.hid (after HB.out hb)
      have HQ5 := Lib.hid (BoxX.new w19 #[.int .i64 sg.k, .int .i64 sg.p, .int .i64 sg.n, .slice G sg.ws.length gd] 40)
      clear hb
      go_upto_region 23 with fail
      generalize w19.alloc (.cells #[.int .i64 sg.k, .int .i64 sg.p, .int .i64 sg.n, .slice G sg.ws.length gd] 40) = w20 at *
      generalize w19.heap.size = qQ5 at *
      go_wp2_with fail
      refine (sSingleChange_any X Y xd yd us vs w20 HX.out.cells HX.out.1 HX.out.2.2 HY.out.cells HY.out.1 HY.out.2.2).mono ?_
      rintro e w21 ⟨K, kd, rfl, ho, hb⟩
      rw [hsg.out] at ho ⊢
      rw [hso.out]
      replace HX := Lib.hid (HX.out.grow hb)
      replace HY := Lib.hid (HY.out.grow hb)
      replace HG := Lib.hid (HG.out.grow hb)
      replace HQ5 := Lib.hid (HQ5.out.step hb)
      replace HB := Lib.hid (after HB.out hb)
      have HK := Lib.hid (rd_own ho HFS.out)
      clear ho
      clear hb
      have hb := below1 w21 (.cells #[.int .i64 sg.k, .int .i64 sg.p, .int .i64 sg.n, .slice K sg.ws.length kd] 40)
      replace HX := Lib.hid (HX.out.grow hb)
      replace HY := Lib.hid (HY.out.grow hb)
      replace HG := Lib.hid (HG.out.grow hb)
      replace HQ5 := Lib.hid (HQ5.out.step hb)
      replace HK := Lib.hid (HK.out.grow hb)
      replace HB := Lib.hid (after HB.out hb)
      have HQ6 := Lib.hid (BoxX.new w21 #[.int .i64 sg.k, .int .i64 sg.p, .int .i64 sg.n, .slice K sg.ws.length kd] 40)
      clear hb
      go_upto_region 24 with fail
      generalize w21.alloc (.cells #[.int .i64 sg.k, .int .i64 sg.p, .int .i64 sg.n, .slice K sg.ws.length kd] 40) = w22 at *
      generalize w21.heap.size = qQ6 at *
      have xQ50 := HQ5.out.1.1 0 _ rfl
      have xQ51 := HQ5.out.1.1 1 _ rfl
      have xQ52 := HQ5.out.1.1 2 _ rfl
      have xQ53 := HQ5.out.1.1 3 _ rfl
      have xQ60 := HQ6.out.1.1 0 _ rfl
      have xQ61 := HQ6.out.1.1 1 _ rfl
      have xQ62 := HQ6.out.1.1 2 _ rfl
      have xQ63 := HQ6.out.1.1 3 _ rfl
      go_wp2_with fail
      refine (vAmendment_same HG.out HK.out).mono ?_
      rintro e w23 ⟨rfl, hb⟩
      replace HX := Lib.hid (HX.out.grow hb)
      replace HY := Lib.hid (HY.out.grow hb)
      replace HG := Lib.hid (HG.out.grow hb)
      replace HQ5 := Lib.hid (HQ5.out.step hb)
      replace HK := Lib.hid (HK.out.grow hb)
      replace HQ6 := Lib.hid (HQ6.out.step hb)
      replace HB := Lib.hid (after HB.out hb)
      clear xQ50 xQ51 xQ52 xQ53 xQ60 xQ61 xQ62 xQ63
      clear hb
      clear HQ6 HK
      rcases Bool.eq_false_or_eq_true so with hs | hs
      · subst hs
        obtain ⟨hz1, hz2⟩ := HZ.out (by simp)
        have HZ1 := Lib.hid hz1
        have HZ2 := Lib.hid hz2
        clear hz1 hz2 HZ
        have xQ50 := HQ5.out.1.1 0 _ rfl
        have xQ51 := HQ5.out.1.1 1 _ rfl
        have xQ52 := HQ5.out.1.1 2 _ rfl
        have xQ53 := HQ5.out.1.1 3 _ rfl
        go_wp2_with fail
        refine (ApplyAmendment_abs HX.out HG.out).mono ?_
        rintro e w24 ⟨M, md, rfl, ho, hb⟩
        rw [HZ2.out] at ho ⊢
        rw [HZ1.out]
        replace HX := Lib.hid (HX.out.grow hb)
        replace HY := Lib.hid (HY.out.grow hb)
        replace HG := Lib.hid (HG.out.grow hb)
        replace HQ5 := Lib.hid (HQ5.out.step hb)
        replace HB := Lib.hid (after HB.out hb)
        have HM := Lib.hid (OwS.rdX ho)
        clear xQ50 xQ51 xQ52 xQ53 ho
        clear hb
        go_wp2_with fail
        refine (vTexts_same HM.out HY.out).mono ?_
        rintro e w25 ⟨rfl, hb⟩
        replace HX := Lib.hid (HX.out.grow hb)
        replace HY := Lib.hid (HY.out.grow hb)
        replace HG := Lib.hid (HG.out.grow hb)
        replace HQ5 := Lib.hid (HQ5.out.step hb)
        replace HM := Lib.hid (HM.out.grow hb)
        replace HB := Lib.hid (after HB.out hb)
        clear hb
        go_wp2
        go_ret
        exact ⟨rfl, HB.out⟩
      · subst hs
        go_wp2
        go_ret
        exact ⟨rfl, HB.out⟩
    · subst hs
      go_wp2_with fail
      refine (vTexts_same HBk.out HT.out).mono ?_
      rintro e w26 ⟨rfl, hb⟩
      replace HBY := Lib.hid (HBY.out.grow hb)
      replace HT := Lib.hid (HT.out.grow hb)
      replace HA := Lib.hid (HA.out.grow hb)
      replace HQ := Lib.hid (HQ.out.step hb)
      replace HPx := Lib.hid (HPx.out.grow hb)
      replace HI1 := Lib.hid (HI1.out.grow hb)
      replace HQ1 := Lib.hid (HQ1.out.step hb)
      replace HBk := Lib.hid (HBk.out.grow hb)
      replace HC := Lib.hid (HC.out.grow hb)
      replace HQ3 := Lib.hid (HQ3.out.step hb)
      replace HB := Lib.hid (after HB.out hb)
      clear hb
      have xQ0 := HQ.out.1.1 0 _ rfl
      have xQ1 := HQ.out.1.1 1 _ rfl
      have xQ2 := HQ.out.1.1 2 _ rfl
      have xQ3 := HQ.out.1.1 3 _ rfl
      have xQ30 := HQ3.out.1.1 0 _ rfl
      have xQ31 := HQ3.out.1.1 1 _ rfl
      have xQ32 := HQ3.out.1.1 2 _ rfl
      have xQ33 := HQ3.out.1.1 3 _ rfl
      go_wp2_with fail
      refine (IsText_any P pd ts w26 HPx.out.cells HPx.out.2.2.1 HPx.out.2.2.2).mono ?_
      rintro e w' ⟨rfl, hw⟩
      rw [← hw]
      clear hw
      rw [HP3.out]
      skip
      clear HT HA HQ HPx HI1 HQ1 HBk HC HQ3
      go_wp2_with fail
      refine (DrawSingleChange_any A _ c w26 HBY.out hxl).mono ?_
      rintro e w27 ⟨X, Y, xd, yd, us, vs, rfl, hX, hY, hb⟩
      replace HBY := Lib.hid (HBY.out.grow hb)
      replace HB := Lib.hid (after HB.out hb)
      have HX := Lib.hid (hX)
      have HY := Lib.hid (hY)
      clear hX hY
      clear hb
      clear HBY
      have HZ := Lib.hid (fa_two (ss := us) (ts := vs))
      have HFS := Lib.hid (Fit.sg_ (ss := us) (ts := vs) HY.out.2.2)
      obtain ⟨sg, hsg⟩ : ∃ x, Hid (sgR us vs = x) := ⟨_, Lib.hid rfl⟩
      obtain ⟨so, hso⟩ : ∃ x, Hid (sgOk us vs = x) := ⟨_, Lib.hid rfl⟩
      rw [hsg.out] at HZ HFS
      rw [hso.out] at HZ
      go_wp2_with fail
      refine (SingleChange_any X Y xd yd us vs w27 HX.out.cells HX.out.1 HX.out.2.2 HY.out.cells HY.out.1 HY.out.2.2).mono ?_
      rintro e w28 ⟨G, gd, rfl, ho, hb⟩
      rw [hsg.out] at ho ⊢
      rw [hso.out]
      replace HX := Lib.hid (HX.out.grow hb)
      replace HY := Lib.hid (HY.out.grow hb)
      replace HB := Lib.hid (after HB.out hb)
      have HG := Lib.hid (rd_own ho HFS.out)
      clear ho
      clear hb
      have hb := below1 w28 (.cells #[.int .i64 sg.k, .int .i64 sg.p, .int .i64 sg.n, .slice G sg.ws.length gd] 40)
      replace HX := Lib.hid (HX.out.grow hb)
      replace HY := Lib.hid (HY.out.grow hb)
      replace HG := Lib.hid (HG.out.grow hb)
      replace HB := Lib.hid (after HB.out hb)
      have HQ5 := Lib.hid (BoxX.new w28 #[.int .i64 sg.k, .int .i64 sg.p, .int .i64 sg.n, .slice G sg.ws.length gd] 40)
      clear hb
      go_upto_region 23 with fail
      generalize w28.alloc (.cells #[.int .i64 sg.k, .int .i64 sg.p, .int .i64 sg.n, .slice G sg.ws.length gd] 40) = w29 at *
      generalize w28.heap.size = qQ5 at *
      go_wp2_with fail
      refine (sSingleChange_any X Y xd yd us vs w29 HX.out.cells HX.out.1 HX.out.2.2 HY.out.cells HY.out.1 HY.out.2.2).mono ?_
      rintro e w30 ⟨K, kd, rfl, ho, hb⟩
      rw [hsg.out] at ho ⊢
      rw [hso.out]
      replace HX := Lib.hid (HX.out.grow hb)
      replace HY := Lib.hid (HY.out.grow hb)
      replace HG := Lib.hid (HG.out.grow hb)
      replace HQ5 := Lib.hid (HQ5.out.step hb)
      replace HB := Lib.hid (after HB.out hb)
      have HK := Lib.hid (rd_own ho HFS.out)
      clear ho
      clear hb
      have hb := below1 w30 (.cells #[.int .i64 sg.k, .int .i64 sg.p, .int .i64 sg.n, .slice K sg.ws.length kd] 40)
      replace HX := Lib.hid (HX.out.grow hb)
      replace HY := Lib.hid (HY.out.grow hb)
      replace HG := Lib.hid (HG.out.grow hb)
      replace HQ5 := Lib.hid (HQ5.out.step hb)
      replace HK := Lib.hid (HK.out.grow hb)
      replace HB := Lib.hid (after HB.out hb)
      have HQ6 := Lib.hid (BoxX.new w30 #[.int .i64 sg.k, .int .i64 sg.p, .int .i64 sg.n, .slice K sg.ws.length kd] 40)
      clear hb
      go_upto_region 24 with fail
      generalize w30.alloc (.cells #[.int .i64 sg.k, .int .i64 sg.p, .int .i64 sg.n, .slice K sg.ws.length kd] 40) = w31 at *
      generalize w30.heap.size = qQ6 at *
      have xQ50 := HQ5.out.1.1 0 _ rfl
      have xQ51 := HQ5.out.1.1 1 _ rfl
      have xQ52 := HQ5.out.1.1 2 _ rfl
      have xQ53 := HQ5.out.1.1 3 _ rfl
      have xQ60 := HQ6.out.1.1 0 _ rfl
      have xQ61 := HQ6.out.1.1 1 _ rfl
      have xQ62 := HQ6.out.1.1 2 _ rfl
      have xQ63 := HQ6.out.1.1 3 _ rfl
      go_wp2_with fail
      refine (vAmendment_same HG.out HK.out).mono ?_
      rintro e w32 ⟨rfl, hb⟩
      replace HX := Lib.hid (HX.out.grow hb)
      replace HY := Lib.hid (HY.out.grow hb)
      replace HG := Lib.hid (HG.out.grow hb)
      replace HQ5 := Lib.hid (HQ5.out.step hb)
      replace HK := Lib.hid (HK.out.grow hb)
      replace HQ6 := Lib.hid (HQ6.out.step hb)
      replace HB := Lib.hid (after HB.out hb)
      clear xQ50 xQ51 xQ52 xQ53 xQ60 xQ61 xQ62 xQ63
      clear hb
      clear HQ6 HK
      rcases Bool.eq_false_or_eq_true so with hs | hs
      · subst hs
        obtain ⟨hz1, hz2⟩ := HZ.out (by simp)
        have HZ1 := Lib.hid hz1
        have HZ2 := Lib.hid hz2
        clear hz1 hz2 HZ
        have xQ50 := HQ5.out.1.1 0 _ rfl
        have xQ51 := HQ5.out.1.1 1 _ rfl
        have xQ52 := HQ5.out.1.1 2 _ rfl
        have xQ53 := HQ5.out.1.1 3 _ rfl
        go_wp2_with fail
        refine (ApplyAmendment_abs HX.out HG.out).mono ?_
        rintro e w33 ⟨M, md, rfl, ho, hb⟩
        rw [HZ2.out] at ho ⊢
        rw [HZ1.out]
        replace HX := Lib.hid (HX.out.grow hb)
        replace HY := Lib.hid (HY.out.grow hb)
        replace HG := Lib.hid (HG.out.grow hb)
        replace HQ5 := Lib.hid (HQ5.out.step hb)
        replace HB := Lib.hid (after HB.out hb)
        have HM := Lib.hid (OwS.rdX ho)
        clear xQ50 xQ51 xQ52 xQ53 ho
        clear hb
        go_wp2_with fail
        refine (vTexts_same HM.out HY.out).mono ?_
        rintro e w34 ⟨rfl, hb⟩
        replace HX := Lib.hid (HX.out.grow hb)
        replace HY := Lib.hid (HY.out.grow hb)
        replace HG := Lib.hid (HG.out.grow hb)
        replace HQ5 := Lib.hid (HQ5.out.step hb)
        replace HM := Lib.hid (HM.out.grow hb)
        replace HB := Lib.hid (after HB.out hb)
        clear hb
        go_wp2
        go_ret
        exact ⟨rfl, HB.out⟩
      · subst hs
        go_wp2
        go_ret
        exact ⟨rfl, HB.out⟩
  · subst hk
    clear HT HA HQ HPx HI1 HQ1
    clear HP
    go_wp2_with fail
    refine (DrawSingleChange_any A _ c w13 HBY.out hxl).mono ?_
    rintro e w35 ⟨X, Y, xd, yd, us, vs, rfl, hX, hY, hb⟩
    replace HBY := Lib.hid (HBY.out.grow hb)
    replace HB := Lib.hid (after HB.out hb)
    have HX := Lib.hid (hX)
    have HY := Lib.hid (hY)
    clear hX hY
    clear hb
    clear HBY
    have HZ := Lib.hid (fa_two (ss := us) (ts := vs))
    have HFS := Lib.hid (Fit.sg_ (ss := us) (ts := vs) HY.out.2.2)
    obtain ⟨sg, hsg⟩ : ∃ x, Hid (sgR us vs = x) := ⟨_, Lib.hid rfl⟩
    obtain ⟨so, hso⟩ : ∃ x, Hid (sgOk us vs = x) := ⟨_, Lib.hid rfl⟩
    rw [hsg.out] at HZ HFS
    rw [hso.out] at HZ
    go_wp2_with fail
    refine (SingleChange_any X Y xd yd us vs w35 HX.out.cells HX.out.1 HX.out.2.2 HY.out.cells HY.out.1 HY.out.2.2).mono ?_
    rintro e w36 ⟨G, gd, rfl, ho, hb⟩
    rw [hsg.out] at ho ⊢
    rw [hso.out]
    replace HX := Lib.hid (HX.out.grow hb)
    replace HY := Lib.hid (HY.out.grow hb)
    replace HB := Lib.hid (after HB.out hb)
    have HG := Lib.hid (rd_own ho HFS.out)
    clear ho
    clear hb
    have hb := below1 w36 (.cells #[.int .i64 sg.k, .int .i64 sg.p, .int .i64 sg.n, .slice G sg.ws.length gd] 40)
    replace HX := Lib.hid (HX.out.grow hb)
    replace HY := Lib.hid (HY.out.grow hb)
    replace HG := Lib.hid (HG.out.grow hb)
    replace HB := Lib.hid (after HB.out hb)
    have HQ5 := Lib.hid (BoxX.new w36 #[.int .i64 sg.k, .int .i64 sg.p, .int .i64 sg.n, .slice G sg.ws.length gd] 40)
    clear hb
    go_upto_region 23 with fail
    generalize w36.alloc (.cells #[.int .i64 sg.k, .int .i64 sg.p, .int .i64 sg.n, .slice G sg.ws.length gd] 40) = w37 at *
    generalize w36.heap.size = qQ5 at *
    go_wp2_with fail
    refine (sSingleChange_any X Y xd yd us vs w37 HX.out.cells HX.out.1 HX.out.2.2 HY.out.cells HY.out.1 HY.out.2.2).mono ?_
    rintro e w38 ⟨K, kd, rfl, ho, hb⟩
    rw [hsg.out] at ho ⊢
    rw [hso.out]
    replace HX := Lib.hid (HX.out.grow hb)
    replace HY := Lib.hid (HY.out.grow hb)
    replace HG := Lib.hid (HG.out.grow hb)
    replace HQ5 := Lib.hid (HQ5.out.step hb)
    replace HB := Lib.hid (after HB.out hb)
    have HK := Lib.hid (rd_own ho HFS.out)
    clear ho
    clear hb
    have hb := below1 w38 (.cells #[.int .i64 sg.k, .int .i64 sg.p, .int .i64 sg.n, .slice K sg.ws.length kd] 40)
    replace HX := Lib.hid (HX.out.grow hb)
    replace HY := Lib.hid (HY.out.grow hb)
    replace HG := Lib.hid (HG.out.grow hb)
    replace HQ5 := Lib.hid (HQ5.out.step hb)
    replace HK := Lib.hid (HK.out.grow hb)
    replace HB := Lib.hid (after HB.out hb)
    have HQ6 := Lib.hid (BoxX.new w38 #[.int .i64 sg.k, .int .i64 sg.p, .int .i64 sg.n, .slice K sg.ws.length kd] 40)
    clear hb
    go_upto_region 24 with fail
    generalize w38.alloc (.cells #[.int .i64 sg.k, .int .i64 sg.p, .int .i64 sg.n, .slice K sg.ws.length kd] 40) = w39 at *
    generalize w38.heap.size = qQ6 at *
    have xQ50 := HQ5.out.1.1 0 _ rfl
    have xQ51 := HQ5.out.1.1 1 _ rfl
    have xQ52 := HQ5.out.1.1 2 _ rfl
    have xQ53 := HQ5.out.1.1 3 _ rfl
    have xQ60 := HQ6.out.1.1 0 _ rfl
    have xQ61 := HQ6.out.1.1 1 _ rfl
    have xQ62 := HQ6.out.1.1 2 _ rfl
    have xQ63 := HQ6.out.1.1 3 _ rfl
    go_wp2_with fail
    refine (vAmendment_same HG.out HK.out).mono ?_
    rintro e w40 ⟨rfl, hb⟩
    replace HX := Lib.hid (HX.out.grow hb)
    replace HY := Lib.hid (HY.out.grow hb)
    replace HG := Lib.hid (HG.out.grow hb)
    replace HQ5 := Lib.hid (HQ5.out.step hb)
    replace HK := Lib.hid (HK.out.grow hb)
    replace HQ6 := Lib.hid (HQ6.out.step hb)
    replace HB := Lib.hid (after HB.out hb)
    clear xQ50 xQ51 xQ52 xQ53 xQ60 xQ61 xQ62 xQ63
    clear hb
    clear HQ6 HK
    rcases Bool.eq_false_or_eq_true so with hs | hs
    · subst hs
      obtain ⟨hz1, hz2⟩ := HZ.out (by simp)
      have HZ1 := Lib.hid hz1
      have HZ2 := Lib.hid hz2
      clear hz1 hz2 HZ
      have xQ50 := HQ5.out.1.1 0 _ rfl
      have xQ51 := HQ5.out.1.1 1 _ rfl
      have xQ52 := HQ5.out.1.1 2 _ rfl
      have xQ53 := HQ5.out.1.1 3 _ rfl
      go_wp2_with fail
      refine (ApplyAmendment_abs HX.out HG.out).mono ?_
      rintro e w41 ⟨M, md, rfl, ho, hb⟩
      rw [HZ2.out] at ho ⊢
      rw [HZ1.out]
      replace HX := Lib.hid (HX.out.grow hb)
      replace HY := Lib.hid (HY.out.grow hb)
      replace HG := Lib.hid (HG.out.grow hb)
      replace HQ5 := Lib.hid (HQ5.out.step hb)
      replace HB := Lib.hid (after HB.out hb)
      have HM := Lib.hid (OwS.rdX ho)
      clear xQ50 xQ51 xQ52 xQ53 ho
      clear hb
      go_wp2_with fail
      refine (vTexts_same HM.out HY.out).mono ?_
      rintro e w42 ⟨rfl, hb⟩
      replace HX := Lib.hid (HX.out.grow hb)
      replace HY := Lib.hid (HY.out.grow hb)
      replace HG := Lib.hid (HG.out.grow hb)
      replace HQ5 := Lib.hid (HQ5.out.step hb)
      replace HM := Lib.hid (HM.out.grow hb)
      replace HB := Lib.hid (after HB.out hb)
      clear hb
      go_wp2
      go_ret
      exact ⟨rfl, HB.out⟩
    · subst hs
      go_wp2
      go_ret
      exact ⟨rfl, HB.out⟩
end Go.Proofs.Ytgchbimjgdoifaa.fnAmendments
