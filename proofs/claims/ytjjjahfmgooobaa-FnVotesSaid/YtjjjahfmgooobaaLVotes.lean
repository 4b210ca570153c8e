/- The walk of the law FnVotes: it returns true. Conditions: none. -/
import Derived.Test.YtjjjahfmgooobaaFv1
import Derived.Test.YtjjjahfmgooobaaFv2
import Derived.Test.YtjjjahfmgooobaaByt
import Derived.Deep.Cut
import Derived.Deep.DeepCutAuto
namespace Go.Proofs.Ytjjjahfmgooobaa.fnVotes
open Go.RowKit Vt
set_option linter.unusedVariables false
set_option linter.unusedSimpArgs false
theorem optR_eq (v : Option Int) : optR v = .tuple #[.int .i64 (v.getD 0), .bool v.isSome] := by cases v <;> rfl
theorem valid_b (y n a : Int) (w : World) : Calls Try.prog 16 #[.agg #[.int .i64 y, .int .i64 n, .int .i64 a]] w fun e w' => e = .returned (.bool (vldT y n a)) ∧ Below w.heap.size w w' :=
  (isValidTally_any y n a w).mono fun e w' ⟨he, hw⟩ => ⟨he, by subst hw; exact below1 _ _⟩
theorem part_one {k x : Int} (h : (needed k x).isSome = true) (hy : (needed k x).getD 0 ≤ 1000) : inB k 1 3 = true ∧ vldT ((needed k x).getD 0) x 0 = true ∧ adB k ((needed k x).getD 0) x = true ∧ (inB k 1 3 && vldT ((needed k x).getD 0 - 1) x 0 && adB k ((needed k x).getD 0 - 1) x) = false ∧ ∃ m, mostNo k ((needed k x).getD 0) = some m ∧ x ≤ m := by
  cases hN : needed k x with
  | none => rw [hN] at h; cases h
  | some y =>
    rw [hN] at hy
    exact needed_some hN hy
set_option maxRecDepth 100000 in
set_option maxHeartbeats 4000000 in
theorem walk (A : Option Addr) (c : Nat) (xs : List Int) (w : World) (hx : xs.length ≤ c ∧ Cells w A (ByteK.row xs) ∧ xs.length ≤ maxLen ∧ ∀ x ∈ xs, ByteK.fit x) :
    Calls Try.prog 3 #[.slice A xs.length c] w fun e w' => e = .returned (.bool true) ∧ Below w.heap.size w w' := by
  have HBY := Lib.hid (bytesC_of hx.2.1 hx.2.2.2)
  clear hx
  by_cases hbig : 65536 < xs.length
  · have hd : decide (65536 < xs.length) = true := decide_eq_true hbig
    go_enter Try.func3, Try.ntmps3
    go_wp2_with fail
    refine (vBig_any A _ c w).mono ?_
    rintro e w' ⟨rfl, rfl⟩
    rw [hd]
    go_wp2
    go_ret
    exact ⟨rfl, Below.refl _ _⟩
  · have hd : decide (65536 < xs.length) = false := decide_eq_false hbig
    go_enter Try.func3, Try.ntmps3
    go_wp2_with fail
    refine (vBig_any A _ c w).mono ?_
    rintro e w' ⟨rfl, rfl⟩
    rw [hd]
    go_wp2_with fail
    refine (DrawYesNeeded_any A _ c w HBY.out (by omega)).mono ?_
    rintro e w1 ⟨⟨k, x, rfl⟩, hb⟩
    have HB := Lib.hid hb
    clear hb hd
    have HP := Lib.hid (part_one (k := k) (x := x))
    go_wp2_with fail
    refine (YesNeeded_any k x w1).mono ?_
    rintro e w2 ⟨rfl, rfl⟩
    rw [optR_eq]
    obtain ⟨y, hy⟩ : ∃ y, Hid ((needed k x).getD 0 = y) := ⟨_, Lib.hid rfl⟩
    obtain ⟨ok, hok⟩ : ∃ ok, Hid ((needed k x).isSome = ok) := ⟨_, Lib.hid rfl⟩
    rw [hy.out, hok.out]
    rw [hy.out, hok.out] at HP
    go_wp2_with fail
    refine (sYesNeeded_any k x w1).mono ?_
    rintro e w2 ⟨rfl, rfl⟩
    rw [optR_eq, hy.out, hok.out]
    clear hy hok
    rcases Bool.eq_false_or_eq_true ok with ho | ho
    · by_cases hy1 : y ≤ 1000
      · obtain ⟨hk1, hv1, ha1, hb1, mm, hmm, hxm⟩ := HP.out ho hy1
        have hv2 := vldT_iff.1 hv1
        have q1 : IntKind.i64.wrap (y - 1) = y - 1 := by rw [IntKind.wrap_i64]; omega
        have HMM := Lib.hid hmm
        have HXM := Lib.hid hxm
        have HK1 := Lib.hid hk1
        have HV1 := Lib.hid hv1
        have HA1 := Lib.hid ha1
        have HB1 := Lib.hid hb1
        clear hmm hxm hk1 hv1 ha1 hb1 hv2
        subst ho
        go_wp2_with fail
        refine (IsAdopted_any k y x 0 w1).mono ?_
        rintro e w20 ⟨rfl, hb⟩
        rw [adopted2_eq]
        unfold adopted2
        rw [HK1.out, HV1.out, HA1.out]
        have HB := Lib.hid (after HB.out hb)
        clear hb
        go_wp2_with fail
        refine (IsAdopted_any k (y - 1) x 0 w20).mono ?_
        rintro e w21 ⟨rfl, hb⟩
        rw [adopted2_eq]
        unfold adopted2
        rw [HB1.out, HK1.out, Bool.true_and]
        have HB := Lib.hid (after HB.out hb)
        clear hb
        have hmn : ¬ mm < x := by have := HXM.out; omega
        rcases Bool.eq_false_or_eq_true (vldT (y - 1) x 0) with hq | hq
        · rw [hq]
          go_wp2_with fail
          refine (MostNo_any k y w21).mono ?_
          rintro e w' ⟨rfl, rfl⟩
          rw [HMM.out]
          unfold optR
          clear HP HMM HXM HK1 HV1 HA1 HB1 hq
          go_wp2_with fail
          refine (DrawMostNo_any A _ c w21 (HBY.out.below HB.out) (by omega)).mono ?_
          rintro e w3 ⟨⟨k2, x2, rfl⟩, hb⟩
          have HB := Lib.hid (after HB.out hb)
          clear hb
          go_wp2_with fail
          refine (MostNo_any k2 x2 w3).mono ?_
          rintro e w' ⟨rfl, rfl⟩
          rw [optR_eq]
          obtain ⟨y2, hy2⟩ : ∃ y, Hid ((mostNo k2 x2).getD 0 = y) := ⟨_, Lib.hid rfl⟩
          obtain ⟨ok2, hok2⟩ : ∃ ok, Hid ((mostNo k2 x2).isSome = ok) := ⟨_, Lib.hid rfl⟩
          rw [hy2.out, hok2.out]
          go_wp2_with fail
          refine (sMostNo_any k2 x2 w3).mono ?_
          rintro e w' ⟨rfl, rfl⟩
          rw [optR_eq, hy2.out, hok2.out]
          clear hy2 hok2
          go_wp2_with fail
          refine (DrawIsAdopted_any A _ c w3 (HBY.out.below HB.out) (by omega)).mono ?_
          rintro e w4 ⟨⟨k3, y3, n3, a3, rfl⟩, hb⟩
          have HB := Lib.hid (after HB.out hb)
          clear hb
          have hb := below1 w4 (.cells #[.int .i64 y3, .int .i64 n3, .int .i64 a3] 31)
          have NT := Lib.hid (show BoxF (w4.alloc (.cells #[.int .i64 y3, .int .i64 n3, .int .i64 a3] 31)) w4.heap.size [.int .i64 y3, .int .i64 n3, .int .i64 a3] from BoxF.new' w4 _ _ _ rfl)
          have HB := Lib.hid (after HB.out hb)
          have hz : w4.heap.size < (w4.alloc (.cells #[.int .i64 y3, .int .i64 n3, .int .i64 a3] 31)).heap.size := by simp
          clear hb
          have HS := Lib.hid (strict_law (k := k3) (y := y3) (n := n3) (a := a3))
          have HCL := Lib.hid (chair_law (k := k3) (y := y3) (n := n3) (a := a3))
          have HVT := Lib.hid (vldT_iff (y := y3) (n := n3) (a := a3))
          go_wp2_with fail
          generalize w4.alloc (.cells #[.int .i64 y3, .int .i64 n3, .int .i64 a3] 31) = W at *
          generalize w4.heap.size = t at *
          refine (IsAdopted_any k3 y3 n3 a3 W).mono ?_
          rintro e w5 ⟨rfl, hb⟩
          rw [adopted2_eq]
          unfold adopted2
          obtain ⟨fi, hfi⟩ : ∃ b, Hid ((inB k3 1 3 && vldT y3 n3 a3) = b) := ⟨_, Lib.hid rfl⟩
          obtain ⟨ad, had⟩ : ∃ b, Hid ((fi && adB k3 y3 n3) = b) := ⟨_, Lib.hid rfl⟩
          rw [hfi.out, had.out]
          have HB := Lib.hid (after HB.out hb)
          have NT := Lib.hid (NT.out.below hb hz)
          have hz := Nat.lt_of_lt_of_le hz hb.size
          clear hb
          have e0 := NT.out.1 0 _ rfl
          have e1 := NT.out.1 1 _ rfl
          have e2 := NT.out.1 2 _ rfl
          go_wp2_with fail
          refine (sIsAdopted_any k3 y3 n3 a3 w5).mono ?_
          rintro e w6 ⟨rfl, hb⟩
          rw [adopted2_eq]
          unfold adopted2
          rw [hfi.out, had.out]
          have HB := Lib.hid (after HB.out hb)
          have NT := Lib.hid (NT.out.below hb hz)
          have hz := Nat.lt_of_lt_of_le hz hb.size
          clear hb e0 e1 e2
          have e0 := NT.out.1 0 _ rfl
          have e1 := NT.out.1 1 _ rfl
          have e2 := NT.out.1 2 _ rfl
          go_wp2_with fail
          refine (StrictestNeed_any y3 n3 a3 w6).mono ?_
          rintro e w7 ⟨rfl, hb⟩
          unfold strictR
          obtain ⟨st, hst⟩ : ∃ s, Hid ((if vldT y3 n3 a3 then strict y3 n3 else 0) = s) := ⟨_, Lib.hid rfl⟩
          obtain ⟨vt, hvt⟩ : ∃ b, Hid (vldT y3 n3 a3 = b) := ⟨_, Lib.hid rfl⟩
          rw [hst.out, hvt.out]
          have HB := Lib.hid (after HB.out hb)
          have NT := Lib.hid (NT.out.below hb hz)
          have hz := Nat.lt_of_lt_of_le hz hb.size
          clear hb e0 e1 e2
          have e0 := NT.out.1 0 _ rfl
          have e1 := NT.out.1 1 _ rfl
          have e2 := NT.out.1 2 _ rfl
          go_wp2_with fail
          refine (sStrictestNeed_any y3 n3 a3 w7).mono ?_
          rintro e w8 ⟨rfl, hb⟩
          unfold strictR
          rw [hst.out, hvt.out]
          have HB := Lib.hid (after HB.out hb)
          have NT := Lib.hid (NT.out.below hb hz)
          have hz := Nat.lt_of_lt_of_le hz hb.size
          clear hb e0 e1 e2
          have e0 := NT.out.1 0 _ rfl
          have e1 := NT.out.1 1 _ rfl
          have e2 := NT.out.1 2 _ rfl
          go_wp2_with fail
          refine (valid_b y3 n3 a3 w8).mono ?_
          rintro e w9 ⟨rfl, hb⟩
          rw [hvt.out]
          have HB := Lib.hid (after HB.out hb)
          have NT := Lib.hid (NT.out.below hb hz)
          have hz := Nat.lt_of_lt_of_le hz hb.size
          clear hb e0 e1 e2
          obtain ⟨ma, hma⟩ : ∃ b, Hid ((chairS k3 y3 n3 a3 && chairB k3 y3 n3) = b) := ⟨_, Lib.hid rfl⟩
          obtain ⟨cs, hcs⟩ : ∃ b, Hid (chairS k3 y3 n3 a3 = b) := ⟨_, Lib.hid rfl⟩
          rcases Bool.eq_false_or_eq_true fi with hf | hf
          · have h1 := hfi.out
            rw [hf, Bool.and_eq_true] at h1
            have hadv : adB k3 y3 n3 = ad := by have h9 := had.out; rw [hf, Bool.true_and] at h9; exact h9
            have hle : ad = decide (k3 ≤ st) := by (have h9 := HS.out h1.1 h1.2); (have h8 := hst.out); rw [h1.2] at h8; rw [← hadv, h9, ← h8]; simp
            have HAD := Lib.hid hadv
            have HV3 := Lib.hid h1.2
            clear h1 hadv hfi had
            subst hf
            rcases Bool.eq_false_or_eq_true ad with ha | ha
            · have hl2 : k3 ≤ st := of_decide_eq_true (hle.symm.trans ha)
              have hl3 : decide (k3 ≤ st) = true := decide_eq_true hl2
              clear hle
              subst ha
              have e0 := NT.out.1 0 _ rfl
              have e1 := NT.out.1 1 _ rfl
              have e2 := NT.out.1 2 _ rfl
              go_wp2_with fail
              refine (ChairMatters_any k3 y3 n3 a3 w9).mono ?_
              rintro e w10 ⟨rfl, hb⟩
              unfold chairR
              rw [hma.out, hcs.out]
              have HB := Lib.hid (after HB.out hb)
              have NT := Lib.hid (NT.out.below hb hz)
              have hz := Nat.lt_of_lt_of_le hz hb.size
              clear hb e0 e1 e2
              have e0 := NT.out.1 0 _ rfl
              have e1 := NT.out.1 1 _ rfl
              have e2 := NT.out.1 2 _ rfl
              go_wp2_with fail
              refine (sChairMatters_any k3 y3 n3 a3 w10).mono ?_
              rintro e w11 ⟨rfl, hb⟩
              unfold chairR
              rw [hma.out, hcs.out]
              have HB := Lib.hid (after HB.out hb)
              have NT := Lib.hid (NT.out.below hb hz)
              have hz := Nat.lt_of_lt_of_le hz hb.size
              clear hb e0 e1 e2
              have e0 := NT.out.1 0 _ rfl
              have e1 := NT.out.1 1 _ rfl
              have e2 := NT.out.1 2 _ rfl
              rcases Bool.eq_false_or_eq_true ma with hm | hm
              · by_cases hk : k3 = 1
                · have hyn := HCL.out (hma.out.trans hm) HAD.out hk
                  have hv := HVT.out.1 HV3.out
                  have q1 : IntKind.i64.wrap (n3 + 1) = n3 + 1 := by rw [IntKind.wrap_i64]; omega
                  have q2 : (y3 == n3 + 1) = true := by simp [hyn]
                  have q3 : (k3 == 1) = true := by simp [hk]
                  clear hyn hv hk
                  subst hm
                  go_wp2
                  go_ret
                  exact ⟨rfl, HB.out⟩
                · have q3 : (k3 == 1) = false := by simp [hk]
                  have q4 : (k3 != 1) = true := by simp [hk]
                  clear hk
                  subst hm
                  go_wp2
                  go_ret
                  exact ⟨rfl, HB.out⟩
              · subst hm
                go_wp2
                go_ret
                exact ⟨rfl, HB.out⟩
            · have hl2 : ¬ k3 ≤ st := of_decide_eq_false (hle.symm.trans ha)
              have hl3 : decide (k3 ≤ st) = false := decide_eq_false hl2
              clear hle
              subst ha
              have e0 := NT.out.1 0 _ rfl
              have e1 := NT.out.1 1 _ rfl
              have e2 := NT.out.1 2 _ rfl
              go_wp2_with fail
              refine (ChairMatters_any k3 y3 n3 a3 w9).mono ?_
              rintro e w10 ⟨rfl, hb⟩
              unfold chairR
              rw [hma.out, hcs.out]
              have HB := Lib.hid (after HB.out hb)
              have NT := Lib.hid (NT.out.below hb hz)
              have hz := Nat.lt_of_lt_of_le hz hb.size
              clear hb e0 e1 e2
              have e0 := NT.out.1 0 _ rfl
              have e1 := NT.out.1 1 _ rfl
              have e2 := NT.out.1 2 _ rfl
              go_wp2_with fail
              refine (sChairMatters_any k3 y3 n3 a3 w10).mono ?_
              rintro e w11 ⟨rfl, hb⟩
              unfold chairR
              rw [hma.out, hcs.out]
              have HB := Lib.hid (after HB.out hb)
              have NT := Lib.hid (NT.out.below hb hz)
              have hz := Nat.lt_of_lt_of_le hz hb.size
              clear hb e0 e1 e2
              have e0 := NT.out.1 0 _ rfl
              have e1 := NT.out.1 1 _ rfl
              have e2 := NT.out.1 2 _ rfl
              rcases Bool.eq_false_or_eq_true ma with hm | hm
              · subst hm
                go_wp2
                go_ret
                exact ⟨rfl, HB.out⟩
              · subst hm
                go_wp2
                go_ret
                exact ⟨rfl, HB.out⟩
          · have ha : ad = false := by have h9 := had.out; rw [hf] at h9; exact h9.symm
            clear hfi had
            subst hf ha
            have e0 := NT.out.1 0 _ rfl
            have e1 := NT.out.1 1 _ rfl
            have e2 := NT.out.1 2 _ rfl
            go_wp2_with fail
            refine (ChairMatters_any k3 y3 n3 a3 w9).mono ?_
            rintro e w10 ⟨rfl, hb⟩
            unfold chairR
            rw [hma.out, hcs.out]
            have HB := Lib.hid (after HB.out hb)
            have NT := Lib.hid (NT.out.below hb hz)
            have hz := Nat.lt_of_lt_of_le hz hb.size
            clear hb e0 e1 e2
            have e0 := NT.out.1 0 _ rfl
            have e1 := NT.out.1 1 _ rfl
            have e2 := NT.out.1 2 _ rfl
            go_wp2_with fail
            refine (sChairMatters_any k3 y3 n3 a3 w10).mono ?_
            rintro e w11 ⟨rfl, hb⟩
            unfold chairR
            rw [hma.out, hcs.out]
            have HB := Lib.hid (after HB.out hb)
            have NT := Lib.hid (NT.out.below hb hz)
            have hz := Nat.lt_of_lt_of_le hz hb.size
            clear hb e0 e1 e2
            have e0 := NT.out.1 0 _ rfl
            have e1 := NT.out.1 1 _ rfl
            have e2 := NT.out.1 2 _ rfl
            rcases Bool.eq_false_or_eq_true ma with hm | hm
            · subst hm
              go_wp2
              go_ret
              exact ⟨rfl, HB.out⟩
            · subst hm
              go_wp2
              go_ret
              exact ⟨rfl, HB.out⟩
        · rw [hq]
          go_wp2_with fail
          refine (MostNo_any k y w21).mono ?_
          rintro e w' ⟨rfl, rfl⟩
          rw [HMM.out]
          unfold optR
          clear HP HMM HXM HK1 HV1 HA1 HB1 hq
          go_wp2_with fail
          refine (DrawMostNo_any A _ c w21 (HBY.out.below HB.out) (by omega)).mono ?_
          rintro e w3 ⟨⟨k2, x2, rfl⟩, hb⟩
          have HB := Lib.hid (after HB.out hb)
          clear hb
          go_wp2_with fail
          refine (MostNo_any k2 x2 w3).mono ?_
          rintro e w' ⟨rfl, rfl⟩
          rw [optR_eq]
          obtain ⟨y2, hy2⟩ : ∃ y, Hid ((mostNo k2 x2).getD 0 = y) := ⟨_, Lib.hid rfl⟩
          obtain ⟨ok2, hok2⟩ : ∃ ok, Hid ((mostNo k2 x2).isSome = ok) := ⟨_, Lib.hid rfl⟩
          rw [hy2.out, hok2.out]
          go_wp2_with fail
          refine (sMostNo_any k2 x2 w3).mono ?_
          rintro e w' ⟨rfl, rfl⟩
          rw [optR_eq, hy2.out, hok2.out]
          clear hy2 hok2
          go_wp2_with fail
          refine (DrawIsAdopted_any A _ c w3 (HBY.out.below HB.out) (by omega)).mono ?_
          rintro e w4 ⟨⟨k3, y3, n3, a3, rfl⟩, hb⟩
          have HB := Lib.hid (after HB.out hb)
          clear hb
          have hb := below1 w4 (.cells #[.int .i64 y3, .int .i64 n3, .int .i64 a3] 31)
          have NT := Lib.hid (show BoxF (w4.alloc (.cells #[.int .i64 y3, .int .i64 n3, .int .i64 a3] 31)) w4.heap.size [.int .i64 y3, .int .i64 n3, .int .i64 a3] from BoxF.new' w4 _ _ _ rfl)
          have HB := Lib.hid (after HB.out hb)
          have hz : w4.heap.size < (w4.alloc (.cells #[.int .i64 y3, .int .i64 n3, .int .i64 a3] 31)).heap.size := by simp
          clear hb
          have HS := Lib.hid (strict_law (k := k3) (y := y3) (n := n3) (a := a3))
          have HCL := Lib.hid (chair_law (k := k3) (y := y3) (n := n3) (a := a3))
          have HVT := Lib.hid (vldT_iff (y := y3) (n := n3) (a := a3))
          go_wp2_with fail
          generalize w4.alloc (.cells #[.int .i64 y3, .int .i64 n3, .int .i64 a3] 31) = W at *
          generalize w4.heap.size = t at *
          refine (IsAdopted_any k3 y3 n3 a3 W).mono ?_
          rintro e w5 ⟨rfl, hb⟩
          rw [adopted2_eq]
          unfold adopted2
          obtain ⟨fi, hfi⟩ : ∃ b, Hid ((inB k3 1 3 && vldT y3 n3 a3) = b) := ⟨_, Lib.hid rfl⟩
          obtain ⟨ad, had⟩ : ∃ b, Hid ((fi && adB k3 y3 n3) = b) := ⟨_, Lib.hid rfl⟩
          rw [hfi.out, had.out]
          have HB := Lib.hid (after HB.out hb)
          have NT := Lib.hid (NT.out.below hb hz)
          have hz := Nat.lt_of_lt_of_le hz hb.size
          clear hb
          have e0 := NT.out.1 0 _ rfl
          have e1 := NT.out.1 1 _ rfl
          have e2 := NT.out.1 2 _ rfl
          go_wp2_with fail
          refine (sIsAdopted_any k3 y3 n3 a3 w5).mono ?_
          rintro e w6 ⟨rfl, hb⟩
          rw [adopted2_eq]
          unfold adopted2
          rw [hfi.out, had.out]
          have HB := Lib.hid (after HB.out hb)
          have NT := Lib.hid (NT.out.below hb hz)
          have hz := Nat.lt_of_lt_of_le hz hb.size
          clear hb e0 e1 e2
          have e0 := NT.out.1 0 _ rfl
          have e1 := NT.out.1 1 _ rfl
          have e2 := NT.out.1 2 _ rfl
          go_wp2_with fail
          refine (StrictestNeed_any y3 n3 a3 w6).mono ?_
          rintro e w7 ⟨rfl, hb⟩
          unfold strictR
          obtain ⟨st, hst⟩ : ∃ s, Hid ((if vldT y3 n3 a3 then strict y3 n3 else 0) = s) := ⟨_, Lib.hid rfl⟩
          obtain ⟨vt, hvt⟩ : ∃ b, Hid (vldT y3 n3 a3 = b) := ⟨_, Lib.hid rfl⟩
          rw [hst.out, hvt.out]
          have HB := Lib.hid (after HB.out hb)
          have NT := Lib.hid (NT.out.below hb hz)
          have hz := Nat.lt_of_lt_of_le hz hb.size
          clear hb e0 e1 e2
          have e0 := NT.out.1 0 _ rfl
          have e1 := NT.out.1 1 _ rfl
          have e2 := NT.out.1 2 _ rfl
          go_wp2_with fail
          refine (sStrictestNeed_any y3 n3 a3 w7).mono ?_
          rintro e w8 ⟨rfl, hb⟩
          unfold strictR
          rw [hst.out, hvt.out]
          have HB := Lib.hid (after HB.out hb)
          have NT := Lib.hid (NT.out.below hb hz)
          have hz := Nat.lt_of_lt_of_le hz hb.size
          clear hb e0 e1 e2
          have e0 := NT.out.1 0 _ rfl
          have e1 := NT.out.1 1 _ rfl
          have e2 := NT.out.1 2 _ rfl
          go_wp2_with fail
          refine (valid_b y3 n3 a3 w8).mono ?_
          rintro e w9 ⟨rfl, hb⟩
          rw [hvt.out]
          have HB := Lib.hid (after HB.out hb)
          have NT := Lib.hid (NT.out.below hb hz)
          have hz := Nat.lt_of_lt_of_le hz hb.size
          clear hb e0 e1 e2
          obtain ⟨ma, hma⟩ : ∃ b, Hid ((chairS k3 y3 n3 a3 && chairB k3 y3 n3) = b) := ⟨_, Lib.hid rfl⟩
          obtain ⟨cs, hcs⟩ : ∃ b, Hid (chairS k3 y3 n3 a3 = b) := ⟨_, Lib.hid rfl⟩
          rcases Bool.eq_false_or_eq_true fi with hf | hf
          · have h1 := hfi.out
            rw [hf, Bool.and_eq_true] at h1
            have hadv : adB k3 y3 n3 = ad := by have h9 := had.out; rw [hf, Bool.true_and] at h9; exact h9
            have hle : ad = decide (k3 ≤ st) := by (have h9 := HS.out h1.1 h1.2); (have h8 := hst.out); rw [h1.2] at h8; rw [← hadv, h9, ← h8]; simp
            have HAD := Lib.hid hadv
            have HV3 := Lib.hid h1.2
            clear h1 hadv hfi had
            subst hf
            rcases Bool.eq_false_or_eq_true ad with ha | ha
            · have hl2 : k3 ≤ st := of_decide_eq_true (hle.symm.trans ha)
              have hl3 : decide (k3 ≤ st) = true := decide_eq_true hl2
              clear hle
              subst ha
              have e0 := NT.out.1 0 _ rfl
              have e1 := NT.out.1 1 _ rfl
              have e2 := NT.out.1 2 _ rfl
              go_wp2_with fail
              refine (ChairMatters_any k3 y3 n3 a3 w9).mono ?_
              rintro e w10 ⟨rfl, hb⟩
              unfold chairR
              rw [hma.out, hcs.out]
              have HB := Lib.hid (after HB.out hb)
              have NT := Lib.hid (NT.out.below hb hz)
              have hz := Nat.lt_of_lt_of_le hz hb.size
              clear hb e0 e1 e2
              have e0 := NT.out.1 0 _ rfl
              have e1 := NT.out.1 1 _ rfl
              have e2 := NT.out.1 2 _ rfl
              go_wp2_with fail
              refine (sChairMatters_any k3 y3 n3 a3 w10).mono ?_
              rintro e w11 ⟨rfl, hb⟩
              unfold chairR
              rw [hma.out, hcs.out]
              have HB := Lib.hid (after HB.out hb)
              have NT := Lib.hid (NT.out.below hb hz)
              have hz := Nat.lt_of_lt_of_le hz hb.size
              clear hb e0 e1 e2
              have e0 := NT.out.1 0 _ rfl
              have e1 := NT.out.1 1 _ rfl
              have e2 := NT.out.1 2 _ rfl
              rcases Bool.eq_false_or_eq_true ma with hm | hm
              · by_cases hk : k3 = 1
                · have hyn := HCL.out (hma.out.trans hm) HAD.out hk
                  have hv := HVT.out.1 HV3.out
                  have q1 : IntKind.i64.wrap (n3 + 1) = n3 + 1 := by rw [IntKind.wrap_i64]; omega
                  have q2 : (y3 == n3 + 1) = true := by simp [hyn]
                  have q3 : (k3 == 1) = true := by simp [hk]
                  clear hyn hv hk
                  subst hm
                  go_wp2
                  go_ret
                  exact ⟨rfl, HB.out⟩
                · have q3 : (k3 == 1) = false := by simp [hk]
                  have q4 : (k3 != 1) = true := by simp [hk]
                  clear hk
                  subst hm
                  go_wp2
                  go_ret
                  exact ⟨rfl, HB.out⟩
              · subst hm
                go_wp2
                go_ret
                exact ⟨rfl, HB.out⟩
            · have hl2 : ¬ k3 ≤ st := of_decide_eq_false (hle.symm.trans ha)
              have hl3 : decide (k3 ≤ st) = false := decide_eq_false hl2
              clear hle
              subst ha
              have e0 := NT.out.1 0 _ rfl
              have e1 := NT.out.1 1 _ rfl
              have e2 := NT.out.1 2 _ rfl
              go_wp2_with fail
              refine (ChairMatters_any k3 y3 n3 a3 w9).mono ?_
              rintro e w10 ⟨rfl, hb⟩
              unfold chairR
              rw [hma.out, hcs.out]
              have HB := Lib.hid (after HB.out hb)
              have NT := Lib.hid (NT.out.below hb hz)
              have hz := Nat.lt_of_lt_of_le hz hb.size
              clear hb e0 e1 e2
              have e0 := NT.out.1 0 _ rfl
              have e1 := NT.out.1 1 _ rfl
              have e2 := NT.out.1 2 _ rfl
              go_wp2_with fail
              refine (sChairMatters_any k3 y3 n3 a3 w10).mono ?_
              rintro e w11 ⟨rfl, hb⟩
              unfold chairR
              rw [hma.out, hcs.out]
              have HB := Lib.hid (after HB.out hb)
              have NT := Lib.hid (NT.out.below hb hz)
              have hz := Nat.lt_of_lt_of_le hz hb.size
              clear hb e0 e1 e2
              have e0 := NT.out.1 0 _ rfl
              have e1 := NT.out.1 1 _ rfl
              have e2 := NT.out.1 2 _ rfl
              rcases Bool.eq_false_or_eq_true ma with hm | hm
              · subst hm
                go_wp2
                go_ret
                exact ⟨rfl, HB.out⟩
              · subst hm
                go_wp2
                go_ret
                exact ⟨rfl, HB.out⟩
          · have ha : ad = false := by have h9 := had.out; rw [hf] at h9; exact h9.symm
            clear hfi had
            subst hf ha
            have e0 := NT.out.1 0 _ rfl
            have e1 := NT.out.1 1 _ rfl
            have e2 := NT.out.1 2 _ rfl
            go_wp2_with fail
            refine (ChairMatters_any k3 y3 n3 a3 w9).mono ?_
            rintro e w10 ⟨rfl, hb⟩
            unfold chairR
            rw [hma.out, hcs.out]
            have HB := Lib.hid (after HB.out hb)
            have NT := Lib.hid (NT.out.below hb hz)
            have hz := Nat.lt_of_lt_of_le hz hb.size
            clear hb e0 e1 e2
            have e0 := NT.out.1 0 _ rfl
            have e1 := NT.out.1 1 _ rfl
            have e2 := NT.out.1 2 _ rfl
            go_wp2_with fail
            refine (sChairMatters_any k3 y3 n3 a3 w10).mono ?_
            rintro e w11 ⟨rfl, hb⟩
            unfold chairR
            rw [hma.out, hcs.out]
            have HB := Lib.hid (after HB.out hb)
            have NT := Lib.hid (NT.out.below hb hz)
            have hz := Nat.lt_of_lt_of_le hz hb.size
            clear hb e0 e1 e2
            have e0 := NT.out.1 0 _ rfl
            have e1 := NT.out.1 1 _ rfl
            have e2 := NT.out.1 2 _ rfl
            rcases Bool.eq_false_or_eq_true ma with hm | hm
            · subst hm
              go_wp2
              go_ret
              exact ⟨rfl, HB.out⟩
            · subst hm
              go_wp2
              go_ret
              exact ⟨rfl, HB.out⟩
      · subst ho
        clear HP
        go_wp2_with fail
        refine (DrawMostNo_any A _ c w1 (HBY.out.below HB.out) (by omega)).mono ?_
        rintro e w3 ⟨⟨k2, x2, rfl⟩, hb⟩
        have HB := Lib.hid (after HB.out hb)
        clear hb
        go_wp2_with fail
        refine (MostNo_any k2 x2 w3).mono ?_
        rintro e w' ⟨rfl, rfl⟩
        rw [optR_eq]
        obtain ⟨y2, hy2⟩ : ∃ y, Hid ((mostNo k2 x2).getD 0 = y) := ⟨_, Lib.hid rfl⟩
        obtain ⟨ok2, hok2⟩ : ∃ ok, Hid ((mostNo k2 x2).isSome = ok) := ⟨_, Lib.hid rfl⟩
        rw [hy2.out, hok2.out]
        go_wp2_with fail
        refine (sMostNo_any k2 x2 w3).mono ?_
        rintro e w' ⟨rfl, rfl⟩
        rw [optR_eq, hy2.out, hok2.out]
        clear hy2 hok2
        go_wp2_with fail
        refine (DrawIsAdopted_any A _ c w3 (HBY.out.below HB.out) (by omega)).mono ?_
        rintro e w4 ⟨⟨k3, y3, n3, a3, rfl⟩, hb⟩
        have HB := Lib.hid (after HB.out hb)
        clear hb
        have hb := below1 w4 (.cells #[.int .i64 y3, .int .i64 n3, .int .i64 a3] 31)
        have NT := Lib.hid (show BoxF (w4.alloc (.cells #[.int .i64 y3, .int .i64 n3, .int .i64 a3] 31)) w4.heap.size [.int .i64 y3, .int .i64 n3, .int .i64 a3] from BoxF.new' w4 _ _ _ rfl)
        have HB := Lib.hid (after HB.out hb)
        have hz : w4.heap.size < (w4.alloc (.cells #[.int .i64 y3, .int .i64 n3, .int .i64 a3] 31)).heap.size := by simp
        clear hb
        have HS := Lib.hid (strict_law (k := k3) (y := y3) (n := n3) (a := a3))
        have HCL := Lib.hid (chair_law (k := k3) (y := y3) (n := n3) (a := a3))
        have HVT := Lib.hid (vldT_iff (y := y3) (n := n3) (a := a3))
        go_wp2_with fail
        generalize w4.alloc (.cells #[.int .i64 y3, .int .i64 n3, .int .i64 a3] 31) = W at *
        generalize w4.heap.size = t at *
        refine (IsAdopted_any k3 y3 n3 a3 W).mono ?_
        rintro e w5 ⟨rfl, hb⟩
        rw [adopted2_eq]
        unfold adopted2
        obtain ⟨fi, hfi⟩ : ∃ b, Hid ((inB k3 1 3 && vldT y3 n3 a3) = b) := ⟨_, Lib.hid rfl⟩
        obtain ⟨ad, had⟩ : ∃ b, Hid ((fi && adB k3 y3 n3) = b) := ⟨_, Lib.hid rfl⟩
        rw [hfi.out, had.out]
        have HB := Lib.hid (after HB.out hb)
        have NT := Lib.hid (NT.out.below hb hz)
        have hz := Nat.lt_of_lt_of_le hz hb.size
        clear hb
        have e0 := NT.out.1 0 _ rfl
        have e1 := NT.out.1 1 _ rfl
        have e2 := NT.out.1 2 _ rfl
        go_wp2_with fail
        refine (sIsAdopted_any k3 y3 n3 a3 w5).mono ?_
        rintro e w6 ⟨rfl, hb⟩
        rw [adopted2_eq]
        unfold adopted2
        rw [hfi.out, had.out]
        have HB := Lib.hid (after HB.out hb)
        have NT := Lib.hid (NT.out.below hb hz)
        have hz := Nat.lt_of_lt_of_le hz hb.size
        clear hb e0 e1 e2
        have e0 := NT.out.1 0 _ rfl
        have e1 := NT.out.1 1 _ rfl
        have e2 := NT.out.1 2 _ rfl
        go_wp2_with fail
        refine (StrictestNeed_any y3 n3 a3 w6).mono ?_
        rintro e w7 ⟨rfl, hb⟩
        unfold strictR
        obtain ⟨st, hst⟩ : ∃ s, Hid ((if vldT y3 n3 a3 then strict y3 n3 else 0) = s) := ⟨_, Lib.hid rfl⟩
        obtain ⟨vt, hvt⟩ : ∃ b, Hid (vldT y3 n3 a3 = b) := ⟨_, Lib.hid rfl⟩
        rw [hst.out, hvt.out]
        have HB := Lib.hid (after HB.out hb)
        have NT := Lib.hid (NT.out.below hb hz)
        have hz := Nat.lt_of_lt_of_le hz hb.size
        clear hb e0 e1 e2
        have e0 := NT.out.1 0 _ rfl
        have e1 := NT.out.1 1 _ rfl
        have e2 := NT.out.1 2 _ rfl
        go_wp2_with fail
        refine (sStrictestNeed_any y3 n3 a3 w7).mono ?_
        rintro e w8 ⟨rfl, hb⟩
        unfold strictR
        rw [hst.out, hvt.out]
        have HB := Lib.hid (after HB.out hb)
        have NT := Lib.hid (NT.out.below hb hz)
        have hz := Nat.lt_of_lt_of_le hz hb.size
        clear hb e0 e1 e2
        have e0 := NT.out.1 0 _ rfl
        have e1 := NT.out.1 1 _ rfl
        have e2 := NT.out.1 2 _ rfl
        go_wp2_with fail
        refine (valid_b y3 n3 a3 w8).mono ?_
        rintro e w9 ⟨rfl, hb⟩
        rw [hvt.out]
        have HB := Lib.hid (after HB.out hb)
        have NT := Lib.hid (NT.out.below hb hz)
        have hz := Nat.lt_of_lt_of_le hz hb.size
        clear hb e0 e1 e2
        obtain ⟨ma, hma⟩ : ∃ b, Hid ((chairS k3 y3 n3 a3 && chairB k3 y3 n3) = b) := ⟨_, Lib.hid rfl⟩
        obtain ⟨cs, hcs⟩ : ∃ b, Hid (chairS k3 y3 n3 a3 = b) := ⟨_, Lib.hid rfl⟩
        rcases Bool.eq_false_or_eq_true fi with hf | hf
        · have h1 := hfi.out
          rw [hf, Bool.and_eq_true] at h1
          have hadv : adB k3 y3 n3 = ad := by have h9 := had.out; rw [hf, Bool.true_and] at h9; exact h9
          have hle : ad = decide (k3 ≤ st) := by (have h9 := HS.out h1.1 h1.2); (have h8 := hst.out); rw [h1.2] at h8; rw [← hadv, h9, ← h8]; simp
          have HAD := Lib.hid hadv
          have HV3 := Lib.hid h1.2
          clear h1 hadv hfi had
          subst hf
          rcases Bool.eq_false_or_eq_true ad with ha | ha
          · have hl2 : k3 ≤ st := of_decide_eq_true (hle.symm.trans ha)
            have hl3 : decide (k3 ≤ st) = true := decide_eq_true hl2
            clear hle
            subst ha
            have e0 := NT.out.1 0 _ rfl
            have e1 := NT.out.1 1 _ rfl
            have e2 := NT.out.1 2 _ rfl
            go_wp2_with fail
            refine (ChairMatters_any k3 y3 n3 a3 w9).mono ?_
            rintro e w10 ⟨rfl, hb⟩
            unfold chairR
            rw [hma.out, hcs.out]
            have HB := Lib.hid (after HB.out hb)
            have NT := Lib.hid (NT.out.below hb hz)
            have hz := Nat.lt_of_lt_of_le hz hb.size
            clear hb e0 e1 e2
            have e0 := NT.out.1 0 _ rfl
            have e1 := NT.out.1 1 _ rfl
            have e2 := NT.out.1 2 _ rfl
            go_wp2_with fail
            refine (sChairMatters_any k3 y3 n3 a3 w10).mono ?_
            rintro e w11 ⟨rfl, hb⟩
            unfold chairR
            rw [hma.out, hcs.out]
            have HB := Lib.hid (after HB.out hb)
            have NT := Lib.hid (NT.out.below hb hz)
            have hz := Nat.lt_of_lt_of_le hz hb.size
            clear hb e0 e1 e2
            have e0 := NT.out.1 0 _ rfl
            have e1 := NT.out.1 1 _ rfl
            have e2 := NT.out.1 2 _ rfl
            rcases Bool.eq_false_or_eq_true ma with hm | hm
            · by_cases hk : k3 = 1
              · have hyn := HCL.out (hma.out.trans hm) HAD.out hk
                have hv := HVT.out.1 HV3.out
                have q1 : IntKind.i64.wrap (n3 + 1) = n3 + 1 := by rw [IntKind.wrap_i64]; omega
                have q2 : (y3 == n3 + 1) = true := by simp [hyn]
                have q3 : (k3 == 1) = true := by simp [hk]
                clear hyn hv hk
                subst hm
                go_wp2
                go_ret
                exact ⟨rfl, HB.out⟩
              · have q3 : (k3 == 1) = false := by simp [hk]
                have q4 : (k3 != 1) = true := by simp [hk]
                clear hk
                subst hm
                go_wp2
                go_ret
                exact ⟨rfl, HB.out⟩
            · subst hm
              go_wp2
              go_ret
              exact ⟨rfl, HB.out⟩
          · have hl2 : ¬ k3 ≤ st := of_decide_eq_false (hle.symm.trans ha)
            have hl3 : decide (k3 ≤ st) = false := decide_eq_false hl2
            clear hle
            subst ha
            have e0 := NT.out.1 0 _ rfl
            have e1 := NT.out.1 1 _ rfl
            have e2 := NT.out.1 2 _ rfl
            go_wp2_with fail
            refine (ChairMatters_any k3 y3 n3 a3 w9).mono ?_
            rintro e w10 ⟨rfl, hb⟩
            unfold chairR
            rw [hma.out, hcs.out]
            have HB := Lib.hid (after HB.out hb)
            have NT := Lib.hid (NT.out.below hb hz)
            have hz := Nat.lt_of_lt_of_le hz hb.size
            clear hb e0 e1 e2
            have e0 := NT.out.1 0 _ rfl
            have e1 := NT.out.1 1 _ rfl
            have e2 := NT.out.1 2 _ rfl
            go_wp2_with fail
            refine (sChairMatters_any k3 y3 n3 a3 w10).mono ?_
            rintro e w11 ⟨rfl, hb⟩
            unfold chairR
            rw [hma.out, hcs.out]
            have HB := Lib.hid (after HB.out hb)
            have NT := Lib.hid (NT.out.below hb hz)
            have hz := Nat.lt_of_lt_of_le hz hb.size
            clear hb e0 e1 e2
            have e0 := NT.out.1 0 _ rfl
            have e1 := NT.out.1 1 _ rfl
            have e2 := NT.out.1 2 _ rfl
            rcases Bool.eq_false_or_eq_true ma with hm | hm
            · subst hm
              go_wp2
              go_ret
              exact ⟨rfl, HB.out⟩
            · subst hm
              go_wp2
              go_ret
              exact ⟨rfl, HB.out⟩
        · have ha : ad = false := by have h9 := had.out; rw [hf] at h9; exact h9.symm
          clear hfi had
          subst hf ha
          have e0 := NT.out.1 0 _ rfl
          have e1 := NT.out.1 1 _ rfl
          have e2 := NT.out.1 2 _ rfl
          go_wp2_with fail
          refine (ChairMatters_any k3 y3 n3 a3 w9).mono ?_
          rintro e w10 ⟨rfl, hb⟩
          unfold chairR
          rw [hma.out, hcs.out]
          have HB := Lib.hid (after HB.out hb)
          have NT := Lib.hid (NT.out.below hb hz)
          have hz := Nat.lt_of_lt_of_le hz hb.size
          clear hb e0 e1 e2
          have e0 := NT.out.1 0 _ rfl
          have e1 := NT.out.1 1 _ rfl
          have e2 := NT.out.1 2 _ rfl
          go_wp2_with fail
          refine (sChairMatters_any k3 y3 n3 a3 w10).mono ?_
          rintro e w11 ⟨rfl, hb⟩
          unfold chairR
          rw [hma.out, hcs.out]
          have HB := Lib.hid (after HB.out hb)
          have NT := Lib.hid (NT.out.below hb hz)
          have hz := Nat.lt_of_lt_of_le hz hb.size
          clear hb e0 e1 e2
          have e0 := NT.out.1 0 _ rfl
          have e1 := NT.out.1 1 _ rfl
          have e2 := NT.out.1 2 _ rfl
          rcases Bool.eq_false_or_eq_true ma with hm | hm
          · subst hm
            go_wp2
            go_ret
            exact ⟨rfl, HB.out⟩
          · subst hm
            go_wp2
            go_ret
            exact ⟨rfl, HB.out⟩
    · subst ho
      clear HP
      go_wp2_with fail
      refine (DrawMostNo_any A _ c w1 (HBY.out.below HB.out) (by omega)).mono ?_
      rintro e w3 ⟨⟨k2, x2, rfl⟩, hb⟩
      have HB := Lib.hid (after HB.out hb)
      clear hb
      go_wp2_with fail
      refine (MostNo_any k2 x2 w3).mono ?_
      rintro e w' ⟨rfl, rfl⟩
      rw [optR_eq]
      obtain ⟨y2, hy2⟩ : ∃ y, Hid ((mostNo k2 x2).getD 0 = y) := ⟨_, Lib.hid rfl⟩
      obtain ⟨ok2, hok2⟩ : ∃ ok, Hid ((mostNo k2 x2).isSome = ok) := ⟨_, Lib.hid rfl⟩
      rw [hy2.out, hok2.out]
      go_wp2_with fail
      refine (sMostNo_any k2 x2 w3).mono ?_
      rintro e w' ⟨rfl, rfl⟩
      rw [optR_eq, hy2.out, hok2.out]
      clear hy2 hok2
      go_wp2_with fail
      refine (DrawIsAdopted_any A _ c w3 (HBY.out.below HB.out) (by omega)).mono ?_
      rintro e w4 ⟨⟨k3, y3, n3, a3, rfl⟩, hb⟩
      have HB := Lib.hid (after HB.out hb)
      clear hb
      have hb := below1 w4 (.cells #[.int .i64 y3, .int .i64 n3, .int .i64 a3] 31)
      have NT := Lib.hid (show BoxF (w4.alloc (.cells #[.int .i64 y3, .int .i64 n3, .int .i64 a3] 31)) w4.heap.size [.int .i64 y3, .int .i64 n3, .int .i64 a3] from BoxF.new' w4 _ _ _ rfl)
      have HB := Lib.hid (after HB.out hb)
      have hz : w4.heap.size < (w4.alloc (.cells #[.int .i64 y3, .int .i64 n3, .int .i64 a3] 31)).heap.size := by simp
      clear hb
      have HS := Lib.hid (strict_law (k := k3) (y := y3) (n := n3) (a := a3))
      have HCL := Lib.hid (chair_law (k := k3) (y := y3) (n := n3) (a := a3))
      have HVT := Lib.hid (vldT_iff (y := y3) (n := n3) (a := a3))
      go_wp2_with fail
      generalize w4.alloc (.cells #[.int .i64 y3, .int .i64 n3, .int .i64 a3] 31) = W at *
      generalize w4.heap.size = t at *
      refine (IsAdopted_any k3 y3 n3 a3 W).mono ?_
      rintro e w5 ⟨rfl, hb⟩
      rw [adopted2_eq]
      unfold adopted2
      obtain ⟨fi, hfi⟩ : ∃ b, Hid ((inB k3 1 3 && vldT y3 n3 a3) = b) := ⟨_, Lib.hid rfl⟩
      obtain ⟨ad, had⟩ : ∃ b, Hid ((fi && adB k3 y3 n3) = b) := ⟨_, Lib.hid rfl⟩
      rw [hfi.out, had.out]
      have HB := Lib.hid (after HB.out hb)
      have NT := Lib.hid (NT.out.below hb hz)
      have hz := Nat.lt_of_lt_of_le hz hb.size
      clear hb
      have e0 := NT.out.1 0 _ rfl
      have e1 := NT.out.1 1 _ rfl
      have e2 := NT.out.1 2 _ rfl
      go_wp2_with fail
      refine (sIsAdopted_any k3 y3 n3 a3 w5).mono ?_
      rintro e w6 ⟨rfl, hb⟩
      rw [adopted2_eq]
      unfold adopted2
      rw [hfi.out, had.out]
      have HB := Lib.hid (after HB.out hb)
      have NT := Lib.hid (NT.out.below hb hz)
      have hz := Nat.lt_of_lt_of_le hz hb.size
      clear hb e0 e1 e2
      have e0 := NT.out.1 0 _ rfl
      have e1 := NT.out.1 1 _ rfl
      have e2 := NT.out.1 2 _ rfl
      go_wp2_with fail
      refine (StrictestNeed_any y3 n3 a3 w6).mono ?_
      rintro e w7 ⟨rfl, hb⟩
      unfold strictR
      obtain ⟨st, hst⟩ : ∃ s, Hid ((if vldT y3 n3 a3 then strict y3 n3 else 0) = s) := ⟨_, Lib.hid rfl⟩
      obtain ⟨vt, hvt⟩ : ∃ b, Hid (vldT y3 n3 a3 = b) := ⟨_, Lib.hid rfl⟩
      rw [hst.out, hvt.out]
      have HB := Lib.hid (after HB.out hb)
      have NT := Lib.hid (NT.out.below hb hz)
      have hz := Nat.lt_of_lt_of_le hz hb.size
      clear hb e0 e1 e2
      have e0 := NT.out.1 0 _ rfl
      have e1 := NT.out.1 1 _ rfl
      have e2 := NT.out.1 2 _ rfl
      go_wp2_with fail
      refine (sStrictestNeed_any y3 n3 a3 w7).mono ?_
      rintro e w8 ⟨rfl, hb⟩
      unfold strictR
      rw [hst.out, hvt.out]
      have HB := Lib.hid (after HB.out hb)
      have NT := Lib.hid (NT.out.below hb hz)
      have hz := Nat.lt_of_lt_of_le hz hb.size
      clear hb e0 e1 e2
      have e0 := NT.out.1 0 _ rfl
      have e1 := NT.out.1 1 _ rfl
      have e2 := NT.out.1 2 _ rfl
      go_wp2_with fail
      refine (valid_b y3 n3 a3 w8).mono ?_
      rintro e w9 ⟨rfl, hb⟩
      rw [hvt.out]
      have HB := Lib.hid (after HB.out hb)
      have NT := Lib.hid (NT.out.below hb hz)
      have hz := Nat.lt_of_lt_of_le hz hb.size
      clear hb e0 e1 e2
      obtain ⟨ma, hma⟩ : ∃ b, Hid ((chairS k3 y3 n3 a3 && chairB k3 y3 n3) = b) := ⟨_, Lib.hid rfl⟩
      obtain ⟨cs, hcs⟩ : ∃ b, Hid (chairS k3 y3 n3 a3 = b) := ⟨_, Lib.hid rfl⟩
      rcases Bool.eq_false_or_eq_true fi with hf | hf
      · have h1 := hfi.out
        rw [hf, Bool.and_eq_true] at h1
        have hadv : adB k3 y3 n3 = ad := by have h9 := had.out; rw [hf, Bool.true_and] at h9; exact h9
        have hle : ad = decide (k3 ≤ st) := by (have h9 := HS.out h1.1 h1.2); (have h8 := hst.out); rw [h1.2] at h8; rw [← hadv, h9, ← h8]; simp
        have HAD := Lib.hid hadv
        have HV3 := Lib.hid h1.2
        clear h1 hadv hfi had
        subst hf
        rcases Bool.eq_false_or_eq_true ad with ha | ha
        · have hl2 : k3 ≤ st := of_decide_eq_true (hle.symm.trans ha)
          have hl3 : decide (k3 ≤ st) = true := decide_eq_true hl2
          clear hle
          subst ha
          have e0 := NT.out.1 0 _ rfl
          have e1 := NT.out.1 1 _ rfl
          have e2 := NT.out.1 2 _ rfl
          go_wp2_with fail
          refine (ChairMatters_any k3 y3 n3 a3 w9).mono ?_
          rintro e w10 ⟨rfl, hb⟩
          unfold chairR
          rw [hma.out, hcs.out]
          have HB := Lib.hid (after HB.out hb)
          have NT := Lib.hid (NT.out.below hb hz)
          have hz := Nat.lt_of_lt_of_le hz hb.size
          clear hb e0 e1 e2
          have e0 := NT.out.1 0 _ rfl
          have e1 := NT.out.1 1 _ rfl
          have e2 := NT.out.1 2 _ rfl
          go_wp2_with fail
          refine (sChairMatters_any k3 y3 n3 a3 w10).mono ?_
          rintro e w11 ⟨rfl, hb⟩
          unfold chairR
          rw [hma.out, hcs.out]
          have HB := Lib.hid (after HB.out hb)
          have NT := Lib.hid (NT.out.below hb hz)
          have hz := Nat.lt_of_lt_of_le hz hb.size
          clear hb e0 e1 e2
          have e0 := NT.out.1 0 _ rfl
          have e1 := NT.out.1 1 _ rfl
          have e2 := NT.out.1 2 _ rfl
          rcases Bool.eq_false_or_eq_true ma with hm | hm
          · by_cases hk : k3 = 1
            · have hyn := HCL.out (hma.out.trans hm) HAD.out hk
              have hv := HVT.out.1 HV3.out
              have q1 : IntKind.i64.wrap (n3 + 1) = n3 + 1 := by rw [IntKind.wrap_i64]; omega
              have q2 : (y3 == n3 + 1) = true := by simp [hyn]
              have q3 : (k3 == 1) = true := by simp [hk]
              clear hyn hv hk
              subst hm
              go_wp2
              go_ret
              exact ⟨rfl, HB.out⟩
            · have q3 : (k3 == 1) = false := by simp [hk]
              have q4 : (k3 != 1) = true := by simp [hk]
              clear hk
              subst hm
              go_wp2
              go_ret
              exact ⟨rfl, HB.out⟩
          · subst hm
            go_wp2
            go_ret
            exact ⟨rfl, HB.out⟩
        · have hl2 : ¬ k3 ≤ st := of_decide_eq_false (hle.symm.trans ha)
          have hl3 : decide (k3 ≤ st) = false := decide_eq_false hl2
          clear hle
          subst ha
          have e0 := NT.out.1 0 _ rfl
          have e1 := NT.out.1 1 _ rfl
          have e2 := NT.out.1 2 _ rfl
          go_wp2_with fail
          refine (ChairMatters_any k3 y3 n3 a3 w9).mono ?_
          rintro e w10 ⟨rfl, hb⟩
          unfold chairR
          rw [hma.out, hcs.out]
          have HB := Lib.hid (after HB.out hb)
          have NT := Lib.hid (NT.out.below hb hz)
          have hz := Nat.lt_of_lt_of_le hz hb.size
          clear hb e0 e1 e2
          have e0 := NT.out.1 0 _ rfl
          have e1 := NT.out.1 1 _ rfl
          have e2 := NT.out.1 2 _ rfl
          go_wp2_with fail
          refine (sChairMatters_any k3 y3 n3 a3 w10).mono ?_
          rintro e w11 ⟨rfl, hb⟩
          unfold chairR
          rw [hma.out, hcs.out]
          have HB := Lib.hid (after HB.out hb)
          have NT := Lib.hid (NT.out.below hb hz)
          have hz := Nat.lt_of_lt_of_le hz hb.size
          clear hb e0 e1 e2
          have e0 := NT.out.1 0 _ rfl
          have e1 := NT.out.1 1 _ rfl
          have e2 := NT.out.1 2 _ rfl
          rcases Bool.eq_false_or_eq_true ma with hm | hm
          · subst hm
            go_wp2
            go_ret
            exact ⟨rfl, HB.out⟩
          · subst hm
            go_wp2
            go_ret
            exact ⟨rfl, HB.out⟩
      · have ha : ad = false := by have h9 := had.out; rw [hf] at h9; exact h9.symm
        clear hfi had
        subst hf ha
        have e0 := NT.out.1 0 _ rfl
        have e1 := NT.out.1 1 _ rfl
        have e2 := NT.out.1 2 _ rfl
        go_wp2_with fail
        refine (ChairMatters_any k3 y3 n3 a3 w9).mono ?_
        rintro e w10 ⟨rfl, hb⟩
        unfold chairR
        rw [hma.out, hcs.out]
        have HB := Lib.hid (after HB.out hb)
        have NT := Lib.hid (NT.out.below hb hz)
        have hz := Nat.lt_of_lt_of_le hz hb.size
        clear hb e0 e1 e2
        have e0 := NT.out.1 0 _ rfl
        have e1 := NT.out.1 1 _ rfl
        have e2 := NT.out.1 2 _ rfl
        go_wp2_with fail
        refine (sChairMatters_any k3 y3 n3 a3 w10).mono ?_
        rintro e w11 ⟨rfl, hb⟩
        unfold chairR
        rw [hma.out, hcs.out]
        have HB := Lib.hid (after HB.out hb)
        have NT := Lib.hid (NT.out.below hb hz)
        have hz := Nat.lt_of_lt_of_le hz hb.size
        clear hb e0 e1 e2
        have e0 := NT.out.1 0 _ rfl
        have e1 := NT.out.1 1 _ rfl
        have e2 := NT.out.1 2 _ rfl
        rcases Bool.eq_false_or_eq_true ma with hm | hm
        · subst hm
          go_wp2
          go_ret
          exact ⟨rfl, HB.out⟩
        · subst hm
          go_wp2
          go_ret
          exact ⟨rfl, HB.out⟩
end Go.Proofs.Ytjjjahfmgooobaa.fnVotes
