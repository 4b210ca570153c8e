/- SingleChange, in the program and in the reference: the same amendment. Conditions: the ranges named. -/
import Derived.Test.YtgchbimjgdoifaaInv3
import Derived.Test.YtgchbimjgdoifaaMk
import Derived.Deep.DrawnRows
import Derived.Deep.CutBlock
namespace Go.Proofs.Ytgchbimjgdoifaa
open Go.RowKit
set_option linter.unusedVariables false
set_option linter.unusedSimpArgs false
attribute [local go_sem ↓] Go.wp_at_zero Go.wp_at_succ
/-- The first number from k on at which p is false. -/
def runUp (p : Nat → Bool) : Nat → Nat → Nat
  | 0, k => k
  | f + 1, k => if p k then runUp p f (k + 1) else k
theorem bmono_ {w W : World} {o : Obj} (h : Below (w.alloc o).heap.size (w.alloc o) W) : Below w.heap.size w W := ((Below.refl _ _).alloc (Nat.le_refl _) _).trans (h.mono (by simp))
theorem run_yes {p : Nat → Bool} {n k : Nat} (h : k ≤ n) (hp : p k = true) : runUp p (n + 1 - k) k = runUp p (n + 1 - (k + 1)) (k + 1) := by
  rw [show n + 1 - k = (n - k) + 1 by omega, runUp, hp, show n + 1 - (k + 1) = n - k by omega]
  rfl
theorem run_no {p : Nat → Bool} {n k : Nat} (h : k ≤ n) (hp : p k = false) : runUp p (n + 1 - k) k = k := by
  rw [show n + 1 - k = (n - k) + 1 by omega, runUp, hp]
  rfl
def p1 (ss ts : List ByteArray) (k : Nat) : Bool := decide (k < ss.length) && decide (k < ts.length) && decide (ss.getD k ByteArray.empty = ts.getD k ByteArray.empty)
def p2 (ss ts : List ByteArray) (i e : Nat) : Bool := decide (i + e < ss.length) && decide (i + e < ts.length) && decide (ss.getD (ss.length - 1 - e) ByteArray.empty = ts.getD (ts.length - 1 - e) ByteArray.empty)
def atOf (ss ts : List ByteArray) : Nat := runUp (p1 ss ts) (ss.length + 1) 0
def enOf (ss ts : List ByteArray) : Nat := runUp (p2 ss ts (atOf ss ts)) (ss.length + 1) 0
theorem p1_out {ss ts : List ByteArray} {k : Nat} (h : ¬ (k < ss.length ∧ k < ts.length)) : p1 ss ts k = false := by
  unfold p1
  by_cases h1 : k < ss.length
  · rw [decide_eq_false (show ¬ k < ts.length by omega)]; simp
  · rw [decide_eq_false h1]; rfl
theorem p1_in {ss ts : List ByteArray} {k : Nat} (h1 : k < ss.length) (h2 : k < ts.length) : p1 ss ts k = decide (ss[k] = ts[k]) := by
  unfold p1
  rw [decide_eq_true h1, decide_eq_true h2]
  simp [List.getD_eq_getElem?_getD, h1, h2]
theorem p2_out {ss ts : List ByteArray} {i e : Nat} (h : ¬ (i + e < ss.length ∧ i + e < ts.length)) : p2 ss ts i e = false := by
  unfold p2
  by_cases h1 : i + e < ss.length
  · rw [decide_eq_false (show ¬ i + e < ts.length by omega)]; simp
  · rw [decide_eq_false h1]; rfl
theorem p2_in {ss ts : List ByteArray} {i e : Nat} (h1 : i + e < ss.length) (h2 : i + e < ts.length) : p2 ss ts i e = decide (ss[ss.length - 1 - e]'(by omega) = ts[ts.length - 1 - e]'(by omega)) := by
  unfold p2
  rw [decide_eq_true h1, decide_eq_true h2]
  have h3 : ss.length - 1 - e < ss.length := by omega
  have h4 : ts.length - 1 - e < ts.length := by omega
  simp [List.getD_eq_getElem?_getD, h3, h4]
/-- The words of the other text between what both share. -/
def midW (ss ts : List ByteArray) : List ByteArray := (ts.drop (atOf ss ts)).take (ts.length - enOf ss ts - atOf ss ts)
def sgA (ss ts : List ByteArray) : Amd := ⟨kindI ((ss.length : Int) - enOf ss ts - atOf ss ts) (midW ss ts), atOf ss ts, (ss.length : Int) - enOf ss ts - atOf ss ts, midW ss ts⟩
def sgOk (ss ts : List ByteArray) : Bool := wordsB ss 0 20 && wordsB ts 0 20 && !decide (ss = ts) && vldA (sgA ss ts)
def sgR (ss ts : List ByteArray) : Amd := if sgOk ss ts then sgA ss ts else noA
theorem sgR_no {a b : List ByteArray} (h : sgOk a b = false) : sgR a b = noA := by unfold sgR; rw [h]; rfl
theorem sgR_yes {a b : List ByteArray} (h : sgOk a b = true) : sgR a b = sgA a b := by unfold sgR; rw [h]; rfl
set_option maxHeartbeats 2000000 in
theorem SingleChange_any (A B : Option Addr) (c d : Nat) (ss ts : List ByteArray) (w : World) (h : Cells w A (strs ss)) (hc : ss.length ≤ c) (hf : Fit ss) (h' : Cells w B (strs ts)) (hd : ts.length ≤ d) (hf' : Fit ts) :
    Calls Try.prog 36 #[.slice A ss.length c, .slice B ts.length d] w (MadeAB w (sgR ss ts) (sgOk ss ts)) := by
  have HC := Lib.hid h
  have HC' := Lib.hid h'
  clear h h'
  have N2 := Lib.hid (BoxF.new4 w (.int .i64 0) (.int .i64 0) (.int .i64 0) (.slice none 0 0) 40 w.heap.size rfl)
  have HB := Lib.hid (below1 w (.cells #[.int .i64 0, .int .i64 0, .int .i64 0, .slice none 0 0] 40))
  have hs : w.heap.size < (w.alloc (.cells #[.int .i64 0, .int .i64 0, .int .i64 0, .slice none 0 0] 40)).heap.size := by simp
  go_enter Try.func36, Try.ntmps36
  go_wp2_with fail
  generalize (w.alloc (.cells #[.int .i64 0, .int .i64 0, .int .i64 0, .slice none 0 0] 40)) = W at *
  refine (IsText_any A c ss W (HC.out.below HB.out) hf.1 hf.2).mono ?_
  rintro e w1 ⟨rfl, rfl⟩
  rcases Bool.eq_false_or_eq_true (wordsB ss 0 20) with hw1 | hw1
  · rw [hw1]
    go_wp2_with fail
    refine (IsText_any B d ts _ (HC'.out.below HB.out) hf'.1 hf'.2).mono ?_
    rintro e w1 ⟨rfl, rfl⟩
    rcases Bool.eq_false_or_eq_true (wordsB ts 0 20) with hw2 | hw2
    · rw [hw2]
      have l1 := fitsB_small hw1
      have l2 := fitsB_small hw2
      go_wp2_with fail
      refine (slEqual_any A B c d ss ts _ (HC.out.below HB.out) (HC'.out.below HB.out) hf.1 hf'.1).mono ?_
      rintro e w1 ⟨rfl, m, rfl⟩
      have hb := below_drewN (Below.refl W.heap.size W) m
      have N2 := Lib.hid (N2.out.below hb hs)
      have HB := Lib.hid (HB.out.trans (hb.mono HB.out.size))
      have hs := Nat.lt_of_lt_of_le hs hb.size
      clear hb
      generalize W.drewN m = V at *
      rcases Bool.eq_false_or_eq_true (decide (ss = ts)) with hsm | hsm
      · rw [hsm]
        have hok : sgOk ss ts = false := by unfold sgOk; rw [hsm]; simp
        have HNO := Lib.hid (sgR_no hok)
        have e20 := N2.out.1 0 _ rfl
        have e21 := N2.out.1 1 _ rfl
        have e22 := N2.out.1 2 _ rfl
        have e23 := N2.out.1 3 _ rfl
        have f20 := N2.out.2 0
        have f21 := N2.out.2 1
        have f22 := N2.out.2 2
        have f23 := N2.out.2 3
        go_wp2
        have KS := N2.out.set4 (.int .i64 0) (.int .i64 0) (.int .i64 0) (.slice none 0 0)
        have k0 := KS.1 0 _ rfl
        have k1 := KS.1 1 _ rfl
        have k2 := KS.1 2 _ rfl
        have k3 := KS.1 3 _ rfl
        refine bodyPost_ret (v := .tuple #[.agg #[.int .i64 0, .int .i64 0, .int .i64 0, .slice none 0 0], .bool false]) (by simp [results, Try.results36, go_sem, k0, k1, k2, k3]) rfl ?_
        refine madeAB_no HNO.out hok ?_
        have hb9 := HB.out
        go_grown
      · rw [hsm]
        have HOK := Lib.hid (show sgOk ss ts = vldA (sgA ss ts) by unfold sgOk; rw [hw1, hw2, hsm]; rfl)
        clear hw1 hw2 hsm
        obtain ⟨M, e1⟩ : ∃ M : Int, (if ts.length < ss.length then (ts.length : Int) else (ss.length : Int)) = M := ⟨_, rfl⟩
        have hM : M ≤ ss.length ∧ M ≤ ts.length ∧ (M = ss.length ∨ M = ts.length) := by rw [← e1]; split <;> omega
        go_upto_block 0 with fail
        go_cut [6] from 23 to 42 (fun i wx => ∃ k : Nat, k ≤ ss.length ∧ k ≤ ts.length ∧ Hid (atOf ss ts = k) ∧ i = .int .i64 k ∧ Below V.heap.size V wx)
        case first =>
          go_wp2_with fail
          go_loopw [6] (fun i wr => ∃ k : Nat, k ≤ ss.length ∧ k ≤ ts.length ∧ i = .int .i64 k ∧ Hid (atOf ss ts = runUp (p1 ss ts) (ss.length + 1 - k) k) ∧ Below V.heap.size V wr) (fun i _ => ss.length - (intOf i).toNat)
          case atStart => exact ⟨0, Nat.zero_le _, Nat.zero_le _, rfl, rfl, Below.refl _ _⟩
          case round =>
            obtain ⟨k, hk1, hk2, rfl, hq, hB⟩ := hrel
            have HR := Lib.hid hB
            clear hB
            by_cases hlt : k < ss.length ∧ k < ts.length
            · obtain ⟨hl1, hl2⟩ := hlt
              obtain ⟨x, rfl, hca⟩ := ((HC.out.below HB.out).below HR.out) k (.string ss[k]) (strs_get hl1)
              obtain ⟨y, rfl, hcb⟩ := ((HC'.out.below HB.out).below HR.out) k (.string ts[k]) (strs_get hl2)
              have i1 : (k : Int) < (ss.length : Int) := by omega
              have i2 : (k : Int) < (ts.length : Int) := by omega
              have i3 : (k : Int) < M := by omega
              have HP := Lib.hid (p1_in hl1 hl2)
              by_cases he : ss[k] = ts[k]
              · have ht : (ss[k].toList == ts[k].toList) = true := by rw [he]; simp
                have HA := Lib.hid (hq.out.trans (run_yes hk1 (HP.out.trans (decide_eq_true he))))
                clear hq he
                go_wp2
                go_quiet (fail)
                go_wp2
                go_roundw
                case rel => exact ⟨k + 1, by omega, by omega, by go_num, HA.out, below_drewN HR.out _⟩
                case measure => simp [intOf]; omega
              · have ht : (ss[k].toList == ts[k].toList) = false := by simp [bytes_toList, he]
                have HA := Lib.hid (hq.out.trans (run_no hk1 (HP.out.trans (decide_eq_false he))))
                clear hq he
                go_wp2
                go_quiet (fail)
                go_wp2_with fail
                go_meet
                exact ⟨k, hk1, hk2, HA, rfl, below_drewN HR.out _⟩
            · have HA := Lib.hid (hq.out.trans (run_no hk1 (p1_out hlt)))
              have hlt2 : ¬ k < ss.length ∨ ¬ k < ts.length := by omega
              clear hq hlt
              have i3 : ¬ (k : Int) < M := by omega
              have i4 : decide ((k : Int) < M) = false := decide_eq_false i3
              clear i3
              go_wp2
              go_quiet (fail)
              go_wp2_with fail
              go_meet
              exact ⟨k, hk1, hk2, HA, rfl, below_drewN HR.out _⟩
        case rest =>
          obtain ⟨k, hk1, hk2, HAT, rfl, hb⟩ := hcut
          have N2 := Lib.hid (N2.out.below hb hs)
          have HB := Lib.hid (HB.out.trans (hb.mono HB.out.size))
          have hs := Nat.lt_of_lt_of_le hs hb.size
          clear hb
          generalize wc = V1 at *
          have HEN := Lib.hid (show enOf ss ts = runUp (p2 ss ts k) (ss.length + 1) 0 by unfold enOf; rw [HAT.out])
          have m1 : IntKind.i64.wrap (M - (k : Int)) = M - (k : Int) := by rw [IntKind.wrap_i64]; omega
          go_upto_block 2 with fail
          go_cut [7] from 43 to 72 (fun i wx => ∃ e : Nat, k + e ≤ ss.length ∧ k + e ≤ ts.length ∧ Hid (enOf ss ts = e) ∧ i = .int .i64 e ∧ Below V1.heap.size V1 wx)
          case first =>
            go_wp2_with fail
            go_loopw [7] (fun i wr => ∃ e : Nat, k + e ≤ ss.length ∧ k + e ≤ ts.length ∧ i = .int .i64 e ∧ Hid (enOf ss ts = runUp (p2 ss ts k) (ss.length + 1 - e) e) ∧ Below V1.heap.size V1 wr) (fun i _ => ss.length - (intOf i).toNat)
            case atStart => exact ⟨0, by omega, by omega, rfl, HEN.out, Below.refl _ _⟩
            case round =>
              obtain ⟨e, he1, he2, rfl, hq, hB⟩ := hrel
              have HR := Lib.hid hB
              clear hB
              have w1 : IntKind.i64.wrap ((ss.length : Int) - 1) = (ss.length : Int) - 1 := by rw [IntKind.wrap_i64]; omega
              have w2 : IntKind.i64.wrap ((ss.length : Int) - 1 - e) = (ss.length : Int) - 1 - e := by rw [IntKind.wrap_i64]; omega
              have w3 : IntKind.i64.wrap ((ts.length : Int) - 1) = (ts.length : Int) - 1 := by rw [IntKind.wrap_i64]; omega
              have w4 : IntKind.i64.wrap ((ts.length : Int) - 1 - e) = (ts.length : Int) - 1 - e := by rw [IntKind.wrap_i64]; omega
              have w5 : IntKind.i64.wrap ((k : Int) + e) = (k : Int) + e := by rw [IntKind.wrap_i64]; omega
              by_cases hlt : k + e < ss.length ∧ k + e < ts.length
              · obtain ⟨hl1, hl2⟩ := hlt
                obtain ⟨x, rfl, hca⟩ := ((HC.out.below HB.out).below HR.out) (ss.length - 1 - e) (.string (ss[ss.length - 1 - e]'(by omega))) (strs_get (by omega))
                obtain ⟨y, rfl, hcb⟩ := ((HC'.out.below HB.out).below HR.out) (ts.length - 1 - e) (.string (ts[ts.length - 1 - e]'(by omega))) (strs_get (by omega))
                have i1 : (k : Int) + e < (ss.length : Int) := by omega
                have i2 : (k : Int) + e < (ts.length : Int) := by omega
                have i3 : (e : Int) < M - k := by omega
                have n1 : ((ss.length : Int) - 1 - e).toNat = ss.length - 1 - e := by omega
                have n2 : (0 : Int) ≤ (ss.length : Int) - 1 - e := by omega
                have n3 : (ss.length : Int) - 1 - e < (ss.length : Int) := by omega
                have n4 : (e : Int) ≤ (ss.length : Int) - 1 := by omega
                have n5 : (ss.length : Int) - 1 < (ss.length : Int) + e := by omega
                have n6 : ((ts.length : Int) - 1 - e).toNat = ts.length - 1 - e := by omega
                have n7 : (0 : Int) ≤ (ts.length : Int) - 1 - e := by omega
                have n8 : (ts.length : Int) - 1 - e < (ts.length : Int) := by omega
                have n9 : (e : Int) ≤ (ts.length : Int) - 1 := by omega
                have n0 : (ts.length : Int) - 1 < (ts.length : Int) + e := by omega
                have HP := Lib.hid (p2_in hl1 hl2)
                obtain ⟨sx, hsx⟩ : ∃ sx, Hid (ss[ss.length - 1 - e]'(by omega) = sx) := ⟨_, Lib.hid rfl⟩
                obtain ⟨sy, hsy⟩ : ∃ sy, Hid (ts[ts.length - 1 - e]'(by omega) = sy) := ⟨_, Lib.hid rfl⟩
                rw [hsx.out, hsy.out] at HP
                rw [hsx.out] at hca
                rw [hsy.out] at hcb
                by_cases he : sx = sy
                · have ht : (sx.toList == sy.toList) = true := by rw [he]; simp
                  have HA := Lib.hid (hq.out.trans (run_yes (by omega) (HP.out.trans (decide_eq_true he))))
                  clear hq he
                  go_wp2
                  go_quiet (fail)
                  go_wp2
                  go_roundw
                  case rel => exact ⟨e + 1, by omega, by omega, by go_num, HA.out, below_drewN HR.out _⟩
                  case measure => simp [intOf]; omega
                · have ht : (sx.toList == sy.toList) = false := by simp [bytes_toList, he]
                  have HA := Lib.hid (hq.out.trans (run_no (by omega) (HP.out.trans (decide_eq_false he))))
                  clear hq he
                  go_wp2
                  go_quiet (fail)
                  go_wp2_with fail
                  go_meet
                  exact ⟨e, he1, he2, HA, rfl, below_drewN HR.out _⟩
              · have HA := Lib.hid (hq.out.trans (run_no (by omega) (p2_out hlt)))
                have hlt2 : ¬ k + e < ss.length ∨ ¬ k + e < ts.length := by omega
                clear hq hlt
                have i3 : ¬ (e : Int) < M - k := by omega
                have i4 : decide ((e : Int) < M - k) = false := decide_eq_false i3
                clear i3
                go_wp2
                go_quiet (fail)
                go_wp2_with fail
                go_meet
                exact ⟨e, he1, he2, HA, rfl, below_drewN HR.out _⟩
          case rest =>
            obtain ⟨e, he1, he2, HET, rfl, hb⟩ := hcut
            have N2 := Lib.hid (N2.out.below hb hs)
            have HB := Lib.hid (HB.out.trans (hb.mono HB.out.size))
            have hs := Nat.lt_of_lt_of_le hs hb.size
            clear hb HEN
            generalize wc = V2 at *
            obtain ⟨N, hN⟩ : ∃ N : Int, (ss.length : Int) - e - k = N := ⟨_, rfl⟩
            have v1 : IntKind.i64.wrap ((ss.length : Int) - e) = (ss.length : Int) - e := by rw [IntKind.wrap_i64]; omega
            have v2 : IntKind.i64.wrap ((ss.length : Int) - e - k) = N := by rw [IntKind.wrap_i64]; omega
            have v3 : IntKind.i64.wrap ((ts.length : Int) - e) = (ts.length : Int) - e := by rw [IntKind.wrap_i64]; omega
            have v4 : ((ts.length : Int) - e).toNat = ts.length - e := by omega
            have v5 : (k : Int) ≤ (ts.length : Int) - e := by omega
            have v6 : (ts.length : Int) - e ≤ (d : Int) := by omega
            have v7 : (0 : Int) ≤ (ts.length : Int) - e := by omega
            have v8 : (e : Int) ≤ (ts.length : Int) := by omega
            have v9 : k ≤ ts.length - e := by omega
            have v0 : ts.length - e ≤ d := by omega
            obtain ⟨Q, e2⟩ : ∃ Q, (if d = k then B else B.map (·.add k)) = Q := ⟨_, rfl⟩
            have HMW := Lib.hid (show midW ss ts = (ts.drop k).take (ts.length - e - k) by unfold midW; rw [HAT.out, HET.out])
            have hmn : (midW ss ts).length = ts.length - e - k := by rw [HMW.out, List.length_take, List.length_drop]; omega
            have HCM := Lib.hid (show Cells V2 Q (strs (midW ss ts)) by rw [HMW.out, ← strs_cut]; exact (HC'.out.below HB.out).cut (fun h0 => by rw [← e2, if_neg (by omega)]))
            have HFM : Fit (midW ss ts) := ⟨by rw [hmn]; omega, fun s hs => by rw [HMW.out] at hs; exact hf'.2 s (List.mem_of_mem_drop (List.mem_of_mem_take hs))⟩
            have HSA := Lib.hid (show sgA ss ts = ⟨kindI N (midW ss ts), k, N, midW ss ts⟩ by unfold sgA; rw [HET.out, HAT.out, hN])
            rw [HSA.out] at HOK
            obtain ⟨n, hn⟩ : ∃ n, ts.length - e - k = n := ⟨_, rfl⟩
            rw [hn] at hmn
            clear HAT HET HMW
            by_cases h0 : N = 0
            · have HKI := Lib.hid (show kindI N (midW ss ts) = 1 by unfold kindI; rw [if_pos h0])
              have a1 : (N == 0) = true := by rw [h0]; rfl
              have a2 : decide (N = 0) = true := decide_eq_true h0
              clear h0
              go_wp2_with (at_builtin; go_must (refine list_append_lit elStr _ rfl _ _ rfl (w.heap.size + 1) _ Q n (d - k) (strs (midW ss ts)) rfl (by first | rfl | (show Value.slice _ _ _ = _; congr 1)) (by rw [strs_len, hmn]; omega) (own_nil_lit _ _ _ _ _ (by simp) (by omega)) (HCM.out.alloc_ _) strs_one (by simp; omega) (by omega) ?_); intro O dd w4 own hb hq4; have hb := bmono_ hb; have HO := Lib.hid own; have N2 := Lib.hid (N2.out.below hb hs); have HB := Lib.hid (HB.out.trans (hb.mono HB.out.size)); have hs := Nat.lt_of_lt_of_le hs hb.size; clear own hb hq4)
              have N6 := Lib.hid (BoxF.new4 w4 (.int .i64 1) (.int .i64 k) (.int .i64 N) (.slice O n dd) 40 w4.heap.size rfl)
              have hb := below1 w4 (.cells #[.int .i64 1, .int .i64 k, .int .i64 N, .slice O n dd] 40)
              have hg6 : w4.heap.size < (w4.alloc (.cells #[.int .i64 1, .int .i64 k, .int .i64 N, .slice O n dd] 40)).heap.size := by simp
              have N2 := Lib.hid (N2.out.below hb hs)
              have HB := Lib.hid (HB.out.trans (hb.mono HB.out.size))
              have hs := Nat.lt_of_lt_of_le hs hb.size
              have HO := Lib.hid (own_keep HO.out hb)
              clear hb
              generalize (w4.alloc (.cells #[.int .i64 1, .int .i64 k, .int .i64 N, .slice O n dd] 40)) = X at *
              have hcall := IsValidAmendment_any O dd ⟨1, k, N, midW ss ts⟩ X (Cells.of_own HO.out) HFM
              simp only [hmn] at hcall
              refine hcall.mono ?_
              clear hcall
              rintro e9 w9 ⟨rfl, hb⟩
              have HO := Lib.hid (own_keep HO.out hb)
              have N2 := Lib.hid (N2.out.below hb hs)
              have N6 := Lib.hid (N6.out.below hb (by omega))
              have HB := Lib.hid (HB.out.trans (hb.mono HB.out.size))
              have hs := Nat.lt_of_lt_of_le hs hb.size
              clear hb
              rcases Bool.eq_false_or_eq_true (vldA ⟨1, k, N, midW ss ts⟩) with hq | hq
              · rw [hq]
                have hok : sgOk ss ts = true := by rw [HOK.out, HKI.out]; exact hq
                have HYES := Lib.hid ((sgR_yes hok).trans HSA.out)
                have e20 := N2.out.1 0 _ rfl
                have e21 := N2.out.1 1 _ rfl
                have e22 := N2.out.1 2 _ rfl
                have e23 := N2.out.1 3 _ rfl
                have f20 := N2.out.2 0
                have f21 := N2.out.2 1
                have f22 := N2.out.2 2
                have f23 := N2.out.2 3
                have e60 := N6.out.1 0 _ rfl
                have e61 := N6.out.1 1 _ rfl
                have e62 := N6.out.1 2 _ rfl
                have e63 := N6.out.1 3 _ rfl
                have f60 := N6.out.2 0
                have f61 := N6.out.2 1
                have f62 := N6.out.2 2
                have f63 := N6.out.2 3
                go_wp2
                have KS := N2.out.set4 (.int .i64 1) (.int .i64 k) (.int .i64 N) (.slice O n dd)
                have k0 := KS.1 0 _ rfl
                have k1 := KS.1 1 _ rfl
                have k2 := KS.1 2 _ rfl
                have k3 := KS.1 3 _ rfl
                refine bodyPost_ret (v := .tuple #[.agg #[.int .i64 1, .int .i64 k, .int .i64 N, .slice O n dd], .bool true]) (by simp [results, Try.results36, go_sem, k0, k1, k2, k3]) rfl ?_
                rw [HYES.out, hok, HKI.out]
                refine ⟨O, dd, by simp only [hmn], by simp only [hmn]; exact own_mono (own_off4 HO.out (fun e => by have := (HO.out.lt _ e).1; omega) _ _ _ _) (by omega), ?_⟩
                have hb9 := HB.out
                go_grown
              · rw [hq]
                have hok : sgOk ss ts = false := by rw [HOK.out, HKI.out]; exact hq
                have HNO := Lib.hid (sgR_no hok)
                have e20 := N2.out.1 0 _ rfl
                have e21 := N2.out.1 1 _ rfl
                have e22 := N2.out.1 2 _ rfl
                have e23 := N2.out.1 3 _ rfl
                have f20 := N2.out.2 0
                have f21 := N2.out.2 1
                have f22 := N2.out.2 2
                have f23 := N2.out.2 3
                go_wp2
                have KS := N2.out.set4 (.int .i64 0) (.int .i64 0) (.int .i64 0) (.slice none 0 0)
                have k0 := KS.1 0 _ rfl
                have k1 := KS.1 1 _ rfl
                have k2 := KS.1 2 _ rfl
                have k3 := KS.1 3 _ rfl
                refine bodyPost_ret (v := .tuple #[.agg #[.int .i64 0, .int .i64 0, .int .i64 0, .slice none 0 0], .bool false]) (by simp [results, Try.results36, go_sem, k0, k1, k2, k3]) rfl ?_
                refine madeAB_no HNO.out hok ?_
                have hb9 := HB.out
                go_grown
            · have a1 : (N == 0) = false := beq_eq_false_iff_ne.2 h0
              have a2 : decide (N = 0) = false := decide_eq_false h0
              by_cases h2 : n = 0
              · have HKI := Lib.hid (show kindI N (midW ss ts) = 2 by unfold kindI; rw [if_neg h0, if_pos (by omega)])
                have a3 : ((n : Int) == 0) = true := by rw [h2]; rfl
                have a4 : (n == 0) = true := by rw [h2]; rfl
                have a5 : decide (n = 0) = true := decide_eq_true h2
                clear h2 h0
                go_wp2_with (at_builtin; go_must (refine list_append_lit elStr _ rfl _ _ rfl (w.heap.size + 1) _ Q n (d - k) (strs (midW ss ts)) rfl (by first | rfl | (show Value.slice _ _ _ = _; congr 1)) (by rw [strs_len, hmn]; omega) (own_nil_lit _ _ _ _ _ (by simp) (by omega)) (HCM.out.alloc_ _) strs_one (by simp; omega) (by omega) ?_); intro O dd w4 own hb hq4; have hb := bmono_ hb; have HO := Lib.hid own; have N2 := Lib.hid (N2.out.below hb hs); have HB := Lib.hid (HB.out.trans (hb.mono HB.out.size)); have hs := Nat.lt_of_lt_of_le hs hb.size; clear own hb hq4)
                have N6 := Lib.hid (BoxF.new4 w4 (.int .i64 2) (.int .i64 k) (.int .i64 N) (.slice O n dd) 40 w4.heap.size rfl)
                have hb := below1 w4 (.cells #[.int .i64 2, .int .i64 k, .int .i64 N, .slice O n dd] 40)
                have hg6 : w4.heap.size < (w4.alloc (.cells #[.int .i64 2, .int .i64 k, .int .i64 N, .slice O n dd] 40)).heap.size := by simp
                have N2 := Lib.hid (N2.out.below hb hs)
                have HB := Lib.hid (HB.out.trans (hb.mono HB.out.size))
                have hs := Nat.lt_of_lt_of_le hs hb.size
                have HO := Lib.hid (own_keep HO.out hb)
                clear hb
                generalize (w4.alloc (.cells #[.int .i64 2, .int .i64 k, .int .i64 N, .slice O n dd] 40)) = X at *
                have hcall := IsValidAmendment_any O dd ⟨2, k, N, midW ss ts⟩ X (Cells.of_own HO.out) HFM
                simp only [hmn] at hcall
                refine hcall.mono ?_
                clear hcall
                rintro e9 w9 ⟨rfl, hb⟩
                have HO := Lib.hid (own_keep HO.out hb)
                have N2 := Lib.hid (N2.out.below hb hs)
                have N6 := Lib.hid (N6.out.below hb (by omega))
                have HB := Lib.hid (HB.out.trans (hb.mono HB.out.size))
                have hs := Nat.lt_of_lt_of_le hs hb.size
                clear hb
                rcases Bool.eq_false_or_eq_true (vldA ⟨2, k, N, midW ss ts⟩) with hq | hq
                · rw [hq]
                  have hok : sgOk ss ts = true := by rw [HOK.out, HKI.out]; exact hq
                  have HYES := Lib.hid ((sgR_yes hok).trans HSA.out)
                  have e20 := N2.out.1 0 _ rfl
                  have e21 := N2.out.1 1 _ rfl
                  have e22 := N2.out.1 2 _ rfl
                  have e23 := N2.out.1 3 _ rfl
                  have f20 := N2.out.2 0
                  have f21 := N2.out.2 1
                  have f22 := N2.out.2 2
                  have f23 := N2.out.2 3
                  have e60 := N6.out.1 0 _ rfl
                  have e61 := N6.out.1 1 _ rfl
                  have e62 := N6.out.1 2 _ rfl
                  have e63 := N6.out.1 3 _ rfl
                  have f60 := N6.out.2 0
                  have f61 := N6.out.2 1
                  have f62 := N6.out.2 2
                  have f63 := N6.out.2 3
                  go_wp2
                  have KS := N2.out.set4 (.int .i64 2) (.int .i64 k) (.int .i64 N) (.slice O n dd)
                  have k0 := KS.1 0 _ rfl
                  have k1 := KS.1 1 _ rfl
                  have k2 := KS.1 2 _ rfl
                  have k3 := KS.1 3 _ rfl
                  refine bodyPost_ret (v := .tuple #[.agg #[.int .i64 2, .int .i64 k, .int .i64 N, .slice O n dd], .bool true]) (by simp [results, Try.results36, go_sem, k0, k1, k2, k3]) rfl ?_
                  rw [HYES.out, hok, HKI.out]
                  refine ⟨O, dd, by simp only [hmn], by simp only [hmn]; exact own_mono (own_off4 HO.out (fun e => by have := (HO.out.lt _ e).1; omega) _ _ _ _) (by omega), ?_⟩
                  have hb9 := HB.out
                  go_grown
                · rw [hq]
                  have hok : sgOk ss ts = false := by rw [HOK.out, HKI.out]; exact hq
                  have HNO := Lib.hid (sgR_no hok)
                  have e20 := N2.out.1 0 _ rfl
                  have e21 := N2.out.1 1 _ rfl
                  have e22 := N2.out.1 2 _ rfl
                  have e23 := N2.out.1 3 _ rfl
                  have f20 := N2.out.2 0
                  have f21 := N2.out.2 1
                  have f22 := N2.out.2 2
                  have f23 := N2.out.2 3
                  go_wp2
                  have KS := N2.out.set4 (.int .i64 0) (.int .i64 0) (.int .i64 0) (.slice none 0 0)
                  have k0 := KS.1 0 _ rfl
                  have k1 := KS.1 1 _ rfl
                  have k2 := KS.1 2 _ rfl
                  have k3 := KS.1 3 _ rfl
                  refine bodyPost_ret (v := .tuple #[.agg #[.int .i64 0, .int .i64 0, .int .i64 0, .slice none 0 0], .bool false]) (by simp [results, Try.results36, go_sem, k0, k1, k2, k3]) rfl ?_
                  refine madeAB_no HNO.out hok ?_
                  have hb9 := HB.out
                  go_grown
              · have HKI := Lib.hid (show kindI N (midW ss ts) = 3 by unfold kindI; rw [if_neg h0, if_neg (by omega)])
                have a3 : ((n : Int) == 0) = false := by rw [beq_eq_false_iff_ne]; omega
                have a4 : (n == 0) = false := beq_eq_false_iff_ne.2 h2
                have a5 : decide (n = 0) = false := decide_eq_false h2
                clear h0
                go_wp2_with (at_builtin; go_must (refine list_append_lit elStr _ rfl _ _ rfl (w.heap.size + 1) _ Q n (d - k) (strs (midW ss ts)) rfl (by first | rfl | (show Value.slice _ _ _ = _; congr 1)) (by rw [strs_len, hmn]; omega) (own_nil_lit _ _ _ _ _ (by simp) (by omega)) (HCM.out.alloc_ _) strs_one (by simp; omega) (by omega) ?_); intro O dd w4 own hb hq4; have hb := bmono_ hb; have HO := Lib.hid own; have N2 := Lib.hid (N2.out.below hb hs); have HB := Lib.hid (HB.out.trans (hb.mono HB.out.size)); have hs := Nat.lt_of_lt_of_le hs hb.size; clear own hb hq4)
                have N6 := Lib.hid (BoxF.new4 w4 (.int .i64 3) (.int .i64 k) (.int .i64 N) (.slice O n dd) 40 w4.heap.size rfl)
                have hb := below1 w4 (.cells #[.int .i64 3, .int .i64 k, .int .i64 N, .slice O n dd] 40)
                have hg6 : w4.heap.size < (w4.alloc (.cells #[.int .i64 3, .int .i64 k, .int .i64 N, .slice O n dd] 40)).heap.size := by simp
                have N2 := Lib.hid (N2.out.below hb hs)
                have HB := Lib.hid (HB.out.trans (hb.mono HB.out.size))
                have hs := Nat.lt_of_lt_of_le hs hb.size
                have HO := Lib.hid (own_keep HO.out hb)
                clear hb
                generalize (w4.alloc (.cells #[.int .i64 3, .int .i64 k, .int .i64 N, .slice O n dd] 40)) = X at *
                have hcall := IsValidAmendment_any O dd ⟨3, k, N, midW ss ts⟩ X (Cells.of_own HO.out) HFM
                simp only [hmn] at hcall
                refine hcall.mono ?_
                clear hcall
                rintro e9 w9 ⟨rfl, hb⟩
                have HO := Lib.hid (own_keep HO.out hb)
                have N2 := Lib.hid (N2.out.below hb hs)
                have N6 := Lib.hid (N6.out.below hb (by omega))
                have HB := Lib.hid (HB.out.trans (hb.mono HB.out.size))
                have hs := Nat.lt_of_lt_of_le hs hb.size
                clear hb
                rcases Bool.eq_false_or_eq_true (vldA ⟨3, k, N, midW ss ts⟩) with hq | hq
                · rw [hq]
                  have hok : sgOk ss ts = true := by rw [HOK.out, HKI.out]; exact hq
                  have HYES := Lib.hid ((sgR_yes hok).trans HSA.out)
                  have e20 := N2.out.1 0 _ rfl
                  have e21 := N2.out.1 1 _ rfl
                  have e22 := N2.out.1 2 _ rfl
                  have e23 := N2.out.1 3 _ rfl
                  have f20 := N2.out.2 0
                  have f21 := N2.out.2 1
                  have f22 := N2.out.2 2
                  have f23 := N2.out.2 3
                  have e60 := N6.out.1 0 _ rfl
                  have e61 := N6.out.1 1 _ rfl
                  have e62 := N6.out.1 2 _ rfl
                  have e63 := N6.out.1 3 _ rfl
                  have f60 := N6.out.2 0
                  have f61 := N6.out.2 1
                  have f62 := N6.out.2 2
                  have f63 := N6.out.2 3
                  go_wp2
                  have KS := N2.out.set4 (.int .i64 3) (.int .i64 k) (.int .i64 N) (.slice O n dd)
                  have k0 := KS.1 0 _ rfl
                  have k1 := KS.1 1 _ rfl
                  have k2 := KS.1 2 _ rfl
                  have k3 := KS.1 3 _ rfl
                  refine bodyPost_ret (v := .tuple #[.agg #[.int .i64 3, .int .i64 k, .int .i64 N, .slice O n dd], .bool true]) (by simp [results, Try.results36, go_sem, k0, k1, k2, k3]) rfl ?_
                  rw [HYES.out, hok, HKI.out]
                  refine ⟨O, dd, by simp only [hmn], by simp only [hmn]; exact own_mono (own_off4 HO.out (fun e => by have := (HO.out.lt _ e).1; omega) _ _ _ _) (by omega), ?_⟩
                  have hb9 := HB.out
                  go_grown
                · rw [hq]
                  have hok : sgOk ss ts = false := by rw [HOK.out, HKI.out]; exact hq
                  have HNO := Lib.hid (sgR_no hok)
                  have e20 := N2.out.1 0 _ rfl
                  have e21 := N2.out.1 1 _ rfl
                  have e22 := N2.out.1 2 _ rfl
                  have e23 := N2.out.1 3 _ rfl
                  have f20 := N2.out.2 0
                  have f21 := N2.out.2 1
                  have f22 := N2.out.2 2
                  have f23 := N2.out.2 3
                  go_wp2
                  have KS := N2.out.set4 (.int .i64 0) (.int .i64 0) (.int .i64 0) (.slice none 0 0)
                  have k0 := KS.1 0 _ rfl
                  have k1 := KS.1 1 _ rfl
                  have k2 := KS.1 2 _ rfl
                  have k3 := KS.1 3 _ rfl
                  refine bodyPost_ret (v := .tuple #[.agg #[.int .i64 0, .int .i64 0, .int .i64 0, .slice none 0 0], .bool false]) (by simp [results, Try.results36, go_sem, k0, k1, k2, k3]) rfl ?_
                  refine madeAB_no HNO.out hok ?_
                  have hb9 := HB.out
                  go_grown
    · rw [hw2]
      have hok : sgOk ss ts = false := by unfold sgOk; rw [hw2]; simp
      have HNO := Lib.hid (sgR_no hok)
      have e20 := N2.out.1 0 _ rfl
      have e21 := N2.out.1 1 _ rfl
      have e22 := N2.out.1 2 _ rfl
      have e23 := N2.out.1 3 _ rfl
      have f20 := N2.out.2 0
      have f21 := N2.out.2 1
      have f22 := N2.out.2 2
      have f23 := N2.out.2 3
      go_wp2
      have KS := N2.out.set4 (.int .i64 0) (.int .i64 0) (.int .i64 0) (.slice none 0 0)
      have k0 := KS.1 0 _ rfl
      have k1 := KS.1 1 _ rfl
      have k2 := KS.1 2 _ rfl
      have k3 := KS.1 3 _ rfl
      refine bodyPost_ret (v := .tuple #[.agg #[.int .i64 0, .int .i64 0, .int .i64 0, .slice none 0 0], .bool false]) (by simp [results, Try.results36, go_sem, k0, k1, k2, k3]) rfl ?_
      refine madeAB_no HNO.out hok ?_
      have hb9 := HB.out
      go_grown
  · rw [hw1]
    have hok : sgOk ss ts = false := by unfold sgOk; rw [hw1]; rfl
    have HNO := Lib.hid (sgR_no hok)
    have e20 := N2.out.1 0 _ rfl
    have e21 := N2.out.1 1 _ rfl
    have e22 := N2.out.1 2 _ rfl
    have e23 := N2.out.1 3 _ rfl
    have f20 := N2.out.2 0
    have f21 := N2.out.2 1
    have f22 := N2.out.2 2
    have f23 := N2.out.2 3
    go_wp2
    have KS := N2.out.set4 (.int .i64 0) (.int .i64 0) (.int .i64 0) (.slice none 0 0)
    have k0 := KS.1 0 _ rfl
    have k1 := KS.1 1 _ rfl
    have k2 := KS.1 2 _ rfl
    have k3 := KS.1 3 _ rfl
    refine bodyPost_ret (v := .tuple #[.agg #[.int .i64 0, .int .i64 0, .int .i64 0, .slice none 0 0], .bool false]) (by simp [results, Try.results36, go_sem, k0, k1, k2, k3]) rfl ?_
    refine madeAB_no HNO.out hok ?_
    have hb9 := HB.out
    go_grown
set_option maxHeartbeats 2000000 in
theorem sSingleChange_any (A B : Option Addr) (c d : Nat) (ss ts : List ByteArray) (w : World) (h : Cells w A (strs ss)) (hc : ss.length ≤ c) (hf : Fit ss) (h' : Cells w B (strs ts)) (hd : ts.length ≤ d) (hf' : Fit ts) :
    Calls Try.prog 38 #[.slice A ss.length c, .slice B ts.length d] w (MadeAB w (sgR ss ts) (sgOk ss ts)) := by
  have HC := Lib.hid h
  have HC' := Lib.hid h'
  clear h h'
  have N2 := Lib.hid (BoxF.new4 w (.int .i64 0) (.int .i64 0) (.int .i64 0) (.slice none 0 0) 40 w.heap.size rfl)
  have HB := Lib.hid (below1 w (.cells #[.int .i64 0, .int .i64 0, .int .i64 0, .slice none 0 0] 40))
  have hs : w.heap.size < (w.alloc (.cells #[.int .i64 0, .int .i64 0, .int .i64 0, .slice none 0 0] 40)).heap.size := by simp
  go_enter Try.func38, Try.ntmps38
  go_wp2_with fail
  generalize (w.alloc (.cells #[.int .i64 0, .int .i64 0, .int .i64 0, .slice none 0 0] 40)) = W at *
  refine (l9Text_any A c ss W (HC.out.below HB.out) hf.1 hf.2).mono ?_
  rintro e w1 ⟨rfl, rfl⟩
  rcases Bool.eq_false_or_eq_true (wordsB ss 0 20) with hw1 | hw1
  · rw [hw1]
    go_wp2_with fail
    refine (l9Text_any B d ts _ (HC'.out.below HB.out) hf'.1 hf'.2).mono ?_
    rintro e w1 ⟨rfl, rfl⟩
    rcases Bool.eq_false_or_eq_true (wordsB ts 0 20) with hw2 | hw2
    · rw [hw2]
      have l1 := fitsB_small hw1
      have l2 := fitsB_small hw2
      go_wp2_with fail
      refine (l9Same_any A B c d ss ts _ (HC.out.below HB.out) (HC'.out.below HB.out) hf.1 hf'.1).mono ?_
      rintro e w1 ⟨rfl, m, rfl⟩
      have hb := below_drewN (Below.refl W.heap.size W) m
      have N2 := Lib.hid (N2.out.below hb hs)
      have HB := Lib.hid (HB.out.trans (hb.mono HB.out.size))
      have hs := Nat.lt_of_lt_of_le hs hb.size
      clear hb
      generalize W.drewN m = V at *
      rcases Bool.eq_false_or_eq_true (decide (ss = ts)) with hsm | hsm
      · rw [hsm]
        have hok : sgOk ss ts = false := by unfold sgOk; rw [hsm]; simp
        have HNO := Lib.hid (sgR_no hok)
        have e20 := N2.out.1 0 _ rfl
        have e21 := N2.out.1 1 _ rfl
        have e22 := N2.out.1 2 _ rfl
        have e23 := N2.out.1 3 _ rfl
        have f20 := N2.out.2 0
        have f21 := N2.out.2 1
        have f22 := N2.out.2 2
        have f23 := N2.out.2 3
        go_wp2
        have KS := N2.out.set4 (.int .i64 0) (.int .i64 0) (.int .i64 0) (.slice none 0 0)
        have k0 := KS.1 0 _ rfl
        have k1 := KS.1 1 _ rfl
        have k2 := KS.1 2 _ rfl
        have k3 := KS.1 3 _ rfl
        refine bodyPost_ret (v := .tuple #[.agg #[.int .i64 0, .int .i64 0, .int .i64 0, .slice none 0 0], .bool false]) (by simp [results, Try.results38, go_sem, k0, k1, k2, k3]) rfl ?_
        refine madeAB_no HNO.out hok ?_
        have hb9 := HB.out
        go_grown
      · rw [hsm]
        have HOK := Lib.hid (show sgOk ss ts = vldA (sgA ss ts) by unfold sgOk; rw [hw1, hw2, hsm]; rfl)
        clear hw1 hw2 hsm
        obtain ⟨M, e1⟩ : ∃ M : Int, (if ts.length < ss.length then (ts.length : Int) else (ss.length : Int)) = M := ⟨_, rfl⟩
        have hM : M ≤ ss.length ∧ M ≤ ts.length ∧ (M = ss.length ∨ M = ts.length) := by rw [← e1]; split <;> omega
        go_upto_block 0 with fail
        go_cut [6] from 23 to 45 (fun i wx => ∃ k : Nat, k ≤ ss.length ∧ k ≤ ts.length ∧ Hid (atOf ss ts = k) ∧ i = .int .i64 k ∧ Below V.heap.size V wx)
        case first =>
          go_wp2_with fail
          go_loopw [6] (fun i wr => ∃ k : Nat, k ≤ ss.length ∧ k ≤ ts.length ∧ i = .int .i64 k ∧ Hid (atOf ss ts = runUp (p1 ss ts) (ss.length + 1 - k) k) ∧ Below V.heap.size V wr) (fun i _ => ss.length - (intOf i).toNat)
          case atStart => exact ⟨0, Nat.zero_le _, Nat.zero_le _, rfl, rfl, Below.refl _ _⟩
          case round =>
            obtain ⟨k, hk1, hk2, rfl, hq, hB⟩ := hrel
            have HR := Lib.hid hB
            clear hB
            by_cases hlt : k < ss.length ∧ k < ts.length
            · obtain ⟨hl1, hl2⟩ := hlt
              obtain ⟨x, rfl, hca⟩ := ((HC.out.below HB.out).below HR.out) k (.string ss[k]) (strs_get hl1)
              obtain ⟨y, rfl, hcb⟩ := ((HC'.out.below HB.out).below HR.out) k (.string ts[k]) (strs_get hl2)
              have i1 : (k : Int) < (ss.length : Int) := by omega
              have i2 : (k : Int) < (ts.length : Int) := by omega
              have i3 : (k : Int) < M := by omega
              have HP := Lib.hid (p1_in hl1 hl2)
              by_cases he : ss[k] = ts[k]
              · have ht : (ss[k].toList == ts[k].toList) = true := by rw [he]; simp
                have HA := Lib.hid (hq.out.trans (run_yes hk1 (HP.out.trans (decide_eq_true he))))
                clear hq he
                go_wp2
                go_quiet (fail)
                go_wp2
                go_roundw
                case rel => exact ⟨k + 1, by omega, by omega, by go_num, HA.out, below_drewN HR.out _⟩
                case measure => simp [intOf]; omega
              · have ht : (ss[k].toList == ts[k].toList) = false := by simp [bytes_toList, he]
                have HA := Lib.hid (hq.out.trans (run_no hk1 (HP.out.trans (decide_eq_false he))))
                clear hq he
                go_wp2
                go_quiet (fail)
                go_wp2_with fail
                go_meet
                exact ⟨k, hk1, hk2, HA, rfl, below_drewN HR.out _⟩
            · have HA := Lib.hid (hq.out.trans (run_no hk1 (p1_out hlt)))
              have hlt2 : ¬ k < ss.length ∨ ¬ k < ts.length := by omega
              clear hq hlt
              by_cases hl1 : k < ss.length
              · have i1 : (k : Int) < (ss.length : Int) := by omega
                have i2 : decide ((k : Int) < (ts.length : Int)) = false := decide_eq_false (by omega)
                have i3 : decide (k < ts.length) = false := decide_eq_false (by omega)
                go_wp2
                go_quiet (fail)
                go_wp2_with fail
                go_meet
                exact ⟨k, hk1, hk2, HA, rfl, below_drewN HR.out _⟩
              · have i1 : decide ((k : Int) < (ss.length : Int)) = false := decide_eq_false (by omega)
                have i3 : decide (k < ss.length) = false := decide_eq_false (by omega)
                clear hl1
                go_wp2
                go_quiet (fail)
                go_wp2_with fail
                go_meet
                exact ⟨k, hk1, hk2, HA, rfl, below_drewN HR.out _⟩
        case rest =>
          obtain ⟨k, hk1, hk2, HAT, rfl, hb⟩ := hcut
          have N2 := Lib.hid (N2.out.below hb hs)
          have HB := Lib.hid (HB.out.trans (hb.mono HB.out.size))
          have hs := Nat.lt_of_lt_of_le hs hb.size
          clear hb
          generalize wc = V1 at *
          have HEN := Lib.hid (show enOf ss ts = runUp (p2 ss ts k) (ss.length + 1) 0 by unfold enOf; rw [HAT.out])
          have m1 : IntKind.i64.wrap (M - (k : Int)) = M - (k : Int) := by rw [IntKind.wrap_i64]; omega
          go_upto_block 2 with fail
          go_cut [7] from 46 to 80 (fun i wx => ∃ e : Nat, k + e ≤ ss.length ∧ k + e ≤ ts.length ∧ Hid (enOf ss ts = e) ∧ i = .int .i64 e ∧ Below V1.heap.size V1 wx)
          case first =>
            go_wp2_with fail
            go_loopw [7] (fun i wr => ∃ e : Nat, k + e ≤ ss.length ∧ k + e ≤ ts.length ∧ i = .int .i64 e ∧ Hid (enOf ss ts = runUp (p2 ss ts k) (ss.length + 1 - e) e) ∧ Below V1.heap.size V1 wr) (fun i _ => ss.length - (intOf i).toNat)
            case atStart => exact ⟨0, by omega, by omega, rfl, HEN.out, Below.refl _ _⟩
            case round =>
              obtain ⟨e, he1, he2, rfl, hq, hB⟩ := hrel
              have HR := Lib.hid hB
              clear hB
              have w1 : IntKind.i64.wrap ((ss.length : Int) - 1) = (ss.length : Int) - 1 := by rw [IntKind.wrap_i64]; omega
              have w2 : IntKind.i64.wrap ((ss.length : Int) - 1 - e) = (ss.length : Int) - 1 - e := by rw [IntKind.wrap_i64]; omega
              have w3 : IntKind.i64.wrap ((ts.length : Int) - 1) = (ts.length : Int) - 1 := by rw [IntKind.wrap_i64]; omega
              have w4 : IntKind.i64.wrap ((ts.length : Int) - 1 - e) = (ts.length : Int) - 1 - e := by rw [IntKind.wrap_i64]; omega
              have w5 : IntKind.i64.wrap ((k : Int) + e) = (k : Int) + e := by rw [IntKind.wrap_i64]; omega
              by_cases hlt : k + e < ss.length ∧ k + e < ts.length
              · obtain ⟨hl1, hl2⟩ := hlt
                obtain ⟨x, rfl, hca⟩ := ((HC.out.below HB.out).below HR.out) (ss.length - 1 - e) (.string (ss[ss.length - 1 - e]'(by omega))) (strs_get (by omega))
                obtain ⟨y, rfl, hcb⟩ := ((HC'.out.below HB.out).below HR.out) (ts.length - 1 - e) (.string (ts[ts.length - 1 - e]'(by omega))) (strs_get (by omega))
                have i1 : (k : Int) + e < (ss.length : Int) := by omega
                have i2 : (k : Int) + e < (ts.length : Int) := by omega
                have i3 : (e : Int) < M - k := by omega
                have n1 : ((ss.length : Int) - 1 - e).toNat = ss.length - 1 - e := by omega
                have n2 : (0 : Int) ≤ (ss.length : Int) - 1 - e := by omega
                have n3 : (ss.length : Int) - 1 - e < (ss.length : Int) := by omega
                have n4 : (e : Int) ≤ (ss.length : Int) - 1 := by omega
                have n5 : (ss.length : Int) - 1 < (ss.length : Int) + e := by omega
                have n6 : ((ts.length : Int) - 1 - e).toNat = ts.length - 1 - e := by omega
                have n7 : (0 : Int) ≤ (ts.length : Int) - 1 - e := by omega
                have n8 : (ts.length : Int) - 1 - e < (ts.length : Int) := by omega
                have n9 : (e : Int) ≤ (ts.length : Int) - 1 := by omega
                have n0 : (ts.length : Int) - 1 < (ts.length : Int) + e := by omega
                have HP := Lib.hid (p2_in hl1 hl2)
                obtain ⟨sx, hsx⟩ : ∃ sx, Hid (ss[ss.length - 1 - e]'(by omega) = sx) := ⟨_, Lib.hid rfl⟩
                obtain ⟨sy, hsy⟩ : ∃ sy, Hid (ts[ts.length - 1 - e]'(by omega) = sy) := ⟨_, Lib.hid rfl⟩
                rw [hsx.out, hsy.out] at HP
                rw [hsx.out] at hca
                rw [hsy.out] at hcb
                by_cases he : sx = sy
                · have ht : (sx.toList == sy.toList) = true := by rw [he]; simp
                  have HA := Lib.hid (hq.out.trans (run_yes (by omega) (HP.out.trans (decide_eq_true he))))
                  clear hq he
                  go_wp2
                  go_quiet (fail)
                  go_wp2
                  go_roundw
                  case rel => exact ⟨e + 1, by omega, by omega, by go_num, HA.out, below_drewN HR.out _⟩
                  case measure => simp [intOf]; omega
                · have ht : (sx.toList == sy.toList) = false := by simp [bytes_toList, he]
                  have HA := Lib.hid (hq.out.trans (run_no (by omega) (HP.out.trans (decide_eq_false he))))
                  clear hq he
                  go_wp2
                  go_quiet (fail)
                  go_wp2_with fail
                  go_meet
                  exact ⟨e, he1, he2, HA, rfl, below_drewN HR.out _⟩
              · have HA := Lib.hid (hq.out.trans (run_no (by omega) (p2_out hlt)))
                have hlt2 : ¬ k + e < ss.length ∨ ¬ k + e < ts.length := by omega
                clear hq hlt
                by_cases hl1 : k + e < ss.length
                · have i1 : (k : Int) + e < (ss.length : Int) := by omega
                  have i2 : decide ((k : Int) + e < (ts.length : Int)) = false := decide_eq_false (by omega)
                  have i3 : decide (k + e < ts.length) = false := decide_eq_false (by omega)
                  go_wp2
                  go_quiet (fail)
                  go_wp2_with fail
                  go_meet
                  exact ⟨e, he1, he2, HA, rfl, below_drewN HR.out _⟩
                · have i1 : decide ((k : Int) + e < (ss.length : Int)) = false := decide_eq_false (by omega)
                  have i3 : decide (k + e < ss.length) = false := decide_eq_false (by omega)
                  clear hl1
                  go_wp2
                  go_quiet (fail)
                  go_wp2_with fail
                  go_meet
                  exact ⟨e, he1, he2, HA, rfl, below_drewN HR.out _⟩
          case rest =>
            obtain ⟨e, he1, he2, HET, rfl, hb⟩ := hcut
            have N2 := Lib.hid (N2.out.below hb hs)
            have HB := Lib.hid (HB.out.trans (hb.mono HB.out.size))
            have hs := Nat.lt_of_lt_of_le hs hb.size
            clear hb HEN
            generalize wc = V2 at *
            obtain ⟨N, hN⟩ : ∃ N : Int, (ss.length : Int) - e - k = N := ⟨_, rfl⟩
            have v1 : IntKind.i64.wrap ((ss.length : Int) - e) = (ss.length : Int) - e := by rw [IntKind.wrap_i64]; omega
            have v2 : IntKind.i64.wrap ((ss.length : Int) - e - k) = N := by rw [IntKind.wrap_i64]; omega
            have v3 : IntKind.i64.wrap ((ts.length : Int) - e) = (ts.length : Int) - e := by rw [IntKind.wrap_i64]; omega
            have v4 : ((ts.length : Int) - e).toNat = ts.length - e := by omega
            have v5 : (k : Int) ≤ (ts.length : Int) - e := by omega
            have v6 : (ts.length : Int) - e ≤ (d : Int) := by omega
            have v7 : (0 : Int) ≤ (ts.length : Int) - e := by omega
            have v8 : (e : Int) ≤ (ts.length : Int) := by omega
            have v9 : k ≤ ts.length - e := by omega
            have v0 : ts.length - e ≤ d := by omega
            obtain ⟨Q, e2⟩ : ∃ Q, (if d = k then B else B.map (·.add k)) = Q := ⟨_, rfl⟩
            have HMW := Lib.hid (show midW ss ts = (ts.drop k).take (ts.length - e - k) by unfold midW; rw [HAT.out, HET.out])
            have hmn : (midW ss ts).length = ts.length - e - k := by rw [HMW.out, List.length_take, List.length_drop]; omega
            have HCM := Lib.hid (show Cells V2 Q (strs (midW ss ts)) by rw [HMW.out, ← strs_cut]; exact (HC'.out.below HB.out).cut (fun h0 => by rw [← e2, if_neg (by omega)]))
            have HFM : Fit (midW ss ts) := ⟨by rw [hmn]; omega, fun s hs => by rw [HMW.out] at hs; exact hf'.2 s (List.mem_of_mem_drop (List.mem_of_mem_take hs))⟩
            have HSA := Lib.hid (show sgA ss ts = ⟨kindI N (midW ss ts), k, N, midW ss ts⟩ by unfold sgA; rw [HET.out, HAT.out, hN])
            rw [HSA.out] at HOK
            obtain ⟨n, hn⟩ : ∃ n, ts.length - e - k = n := ⟨_, rfl⟩
            rw [hn] at hmn
            clear HAT HET HMW
            go_wp2_with fail
            refine (l9Kind_n (k : Int) N Q n (d - k) (midW ss ts) V2 hmn.symm HCM.out (by omega)).mono ?_
            rintro e8 w4 ⟨O, dd, rfl, own, hb⟩
            simp only [hmn] at own ⊢
            have HO := Lib.hid (own_mono own (show w.heap.size + 1 ≤ V2.heap.size from hs))
            have N2 := Lib.hid (N2.out.below hb hs)
            have HB := Lib.hid (HB.out.trans (hb.mono HB.out.size))
            have hs := Nat.lt_of_lt_of_le hs hb.size
            clear own hb
            obtain ⟨kk, hkk⟩ : ∃ kk, kindI N (midW ss ts) = kk := ⟨_, rfl⟩
            rw [hkk]
            have HKI := Lib.hid hkk
            clear hkk
            go_wp2_with fail
            have N6 := Lib.hid (BoxF.new4 w4 (.int .i64 kk) (.int .i64 k) (.int .i64 N) (.slice O n dd) 40 w4.heap.size rfl)
            have hb := below1 w4 (.cells #[.int .i64 kk, .int .i64 k, .int .i64 N, .slice O n dd] 40)
            have hg6 : w4.heap.size < (w4.alloc (.cells #[.int .i64 kk, .int .i64 k, .int .i64 N, .slice O n dd] 40)).heap.size := by simp
            have N2 := Lib.hid (N2.out.below hb hs)
            have HB := Lib.hid (HB.out.trans (hb.mono HB.out.size))
            have hs := Nat.lt_of_lt_of_le hs hb.size
            have HO := Lib.hid (own_keep HO.out hb)
            clear hb
            generalize (w4.alloc (.cells #[.int .i64 kk, .int .i64 k, .int .i64 N, .slice O n dd] 40)) = X at *
            have hcall := l9Good_any O dd ⟨kk, k, N, midW ss ts⟩ X (Cells.of_own HO.out) HFM
            simp only [hmn] at hcall
            refine hcall.mono ?_
            clear hcall
            rintro e9 w9 ⟨rfl, hb⟩
            have HO := Lib.hid (own_keep HO.out hb)
            have N2 := Lib.hid (N2.out.below hb hs)
            have N6 := Lib.hid (N6.out.below hb (by omega))
            have HB := Lib.hid (HB.out.trans (hb.mono HB.out.size))
            have hs := Nat.lt_of_lt_of_le hs hb.size
            clear hb
            rcases Bool.eq_false_or_eq_true (vldA ⟨kk, k, N, midW ss ts⟩) with hq | hq
            · rw [hq]
              have hok : sgOk ss ts = true := by rw [HOK.out, HKI.out]; exact hq
              have HYES := Lib.hid ((sgR_yes hok).trans HSA.out)
              have e20 := N2.out.1 0 _ rfl
              have e21 := N2.out.1 1 _ rfl
              have e22 := N2.out.1 2 _ rfl
              have e23 := N2.out.1 3 _ rfl
              have f20 := N2.out.2 0
              have f21 := N2.out.2 1
              have f22 := N2.out.2 2
              have f23 := N2.out.2 3
              have e60 := N6.out.1 0 _ rfl
              have e61 := N6.out.1 1 _ rfl
              have e62 := N6.out.1 2 _ rfl
              have e63 := N6.out.1 3 _ rfl
              have f60 := N6.out.2 0
              have f61 := N6.out.2 1
              have f62 := N6.out.2 2
              have f63 := N6.out.2 3
              go_wp2
              have KS := N2.out.set4 (.int .i64 kk) (.int .i64 k) (.int .i64 N) (.slice O n dd)
              have k0 := KS.1 0 _ rfl
              have k1 := KS.1 1 _ rfl
              have k2 := KS.1 2 _ rfl
              have k3 := KS.1 3 _ rfl
              refine bodyPost_ret (v := .tuple #[.agg #[.int .i64 kk, .int .i64 k, .int .i64 N, .slice O n dd], .bool true]) (by simp [results, Try.results38, go_sem, k0, k1, k2, k3]) rfl ?_
              rw [HYES.out, hok, HKI.out]
              refine ⟨O, dd, by simp only [hmn], by simp only [hmn]; exact own_mono (own_off4 HO.out (fun e => by have := (HO.out.lt _ e).1; omega) _ _ _ _) (by omega), ?_⟩
              have hb9 := HB.out
              go_grown
            · rw [hq]
              have hok : sgOk ss ts = false := by rw [HOK.out, HKI.out]; exact hq
              have HNO := Lib.hid (sgR_no hok)
              have e20 := N2.out.1 0 _ rfl
              have e21 := N2.out.1 1 _ rfl
              have e22 := N2.out.1 2 _ rfl
              have e23 := N2.out.1 3 _ rfl
              have f20 := N2.out.2 0
              have f21 := N2.out.2 1
              have f22 := N2.out.2 2
              have f23 := N2.out.2 3
              go_wp2
              have KS := N2.out.set4 (.int .i64 0) (.int .i64 0) (.int .i64 0) (.slice none 0 0)
              have k0 := KS.1 0 _ rfl
              have k1 := KS.1 1 _ rfl
              have k2 := KS.1 2 _ rfl
              have k3 := KS.1 3 _ rfl
              refine bodyPost_ret (v := .tuple #[.agg #[.int .i64 0, .int .i64 0, .int .i64 0, .slice none 0 0], .bool false]) (by simp [results, Try.results38, go_sem, k0, k1, k2, k3]) rfl ?_
              refine madeAB_no HNO.out hok ?_
              have hb9 := HB.out
              go_grown
    · rw [hw2]
      have hok : sgOk ss ts = false := by unfold sgOk; rw [hw2]; simp
      have HNO := Lib.hid (sgR_no hok)
      have e20 := N2.out.1 0 _ rfl
      have e21 := N2.out.1 1 _ rfl
      have e22 := N2.out.1 2 _ rfl
      have e23 := N2.out.1 3 _ rfl
      have f20 := N2.out.2 0
      have f21 := N2.out.2 1
      have f22 := N2.out.2 2
      have f23 := N2.out.2 3
      go_wp2
      have KS := N2.out.set4 (.int .i64 0) (.int .i64 0) (.int .i64 0) (.slice none 0 0)
      have k0 := KS.1 0 _ rfl
      have k1 := KS.1 1 _ rfl
      have k2 := KS.1 2 _ rfl
      have k3 := KS.1 3 _ rfl
      refine bodyPost_ret (v := .tuple #[.agg #[.int .i64 0, .int .i64 0, .int .i64 0, .slice none 0 0], .bool false]) (by simp [results, Try.results38, go_sem, k0, k1, k2, k3]) rfl ?_
      refine madeAB_no HNO.out hok ?_
      have hb9 := HB.out
      go_grown
  · rw [hw1]
    have hok : sgOk ss ts = false := by unfold sgOk; rw [hw1]; rfl
    have HNO := Lib.hid (sgR_no hok)
    have e20 := N2.out.1 0 _ rfl
    have e21 := N2.out.1 1 _ rfl
    have e22 := N2.out.1 2 _ rfl
    have e23 := N2.out.1 3 _ rfl
    have f20 := N2.out.2 0
    have f21 := N2.out.2 1
    have f22 := N2.out.2 2
    have f23 := N2.out.2 3
    go_wp2
    have KS := N2.out.set4 (.int .i64 0) (.int .i64 0) (.int .i64 0) (.slice none 0 0)
    have k0 := KS.1 0 _ rfl
    have k1 := KS.1 1 _ rfl
    have k2 := KS.1 2 _ rfl
    have k3 := KS.1 3 _ rfl
    refine bodyPost_ret (v := .tuple #[.agg #[.int .i64 0, .int .i64 0, .int .i64 0, .slice none 0 0], .bool false]) (by simp [results, Try.results38, go_sem, k0, k1, k2, k3]) rfl ?_
    refine madeAB_no HNO.out hok ?_
    have hb9 := HB.out
    go_grown
end Go.Proofs.Ytgchbimjgdoifaa
