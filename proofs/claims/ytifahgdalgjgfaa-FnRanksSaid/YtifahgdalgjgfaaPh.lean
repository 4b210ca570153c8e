/- QuestionNames, in the program and in the reference. Conditions: the ranges named. -/
import Derived.Test.YtifahgdalgjgfaaAq
namespace Go.Proofs.Ytifahgdalgjgfaa
open Go.RowKit
set_option linter.unusedVariables false
def nmsK (xs : List Rul) (qs : List Qst) (k : Nat) : List ByteArray := (qs.take k).map (fun q => (ruleAt xs q).nm)
def nmsL (xs : List Rul) (qs : List Qst) : List ByteArray := if pendB xs qs then qs.map (fun q => (ruleAt xs q).nm) else []
theorem nms_len {xs : List Rul} {qs : List Qst} {k : Nat} (h : k ≤ qs.length) : (nmsK xs qs k).length = k := by unfold nmsK; rw [List.length_map, List.length_take]; omega
theorem nms_step {xs : List Rul} {qs : List Qst} {k : Nat} (h : k < qs.length) : StrK.row (nmsK xs qs k) ++ StrK.row [(ruleAt xs qs[k]).nm] = StrK.row (nmsK xs qs (k + 1)) := by
  rw [← StrK.row_append]
  unfold nmsK
  rw [List.take_succ_eq_append_getElem h, List.map_append]
  rfl
theorem ruleAt_fit {xs : List Rul} (h : ∀ x ∈ xs, RuleK.fit x) (q : Qst) : (ruleAt xs q).nm.size ≤ maxLen := by
  unfold ruleAt
  rw [List.getD_eq_getElem?_getD]
  cases hx : xs[(ixR xs q.r).toNat]? with
  | none => show ByteArray.empty.size ≤ maxLen; decide
  | some x => exact h x (List.mem_of_getElem? hx)
theorem nms_fit {xs : List Rul} {qs : List Qst} (h : ∀ x ∈ xs, RuleK.fit x) : ∀ s ∈ qs.map (fun q => (ruleAt xs q).nm), StrK.fit s := fun s hs => by
  obtain ⟨q, _, rfl⟩ := List.mem_map.1 hs
  exact ruleAt_fit h q
theorem fld_nm (v0 : Value) (s : ByteArray) (v2 v3 v4 v5 v6 : Value) (w : World) : (Instr.field 52 (.agg #[v0, .string s, v2, v3, v4, v5, v6]) 1).run Try.prog w = .ok (.string s) w := by kernel_rfl
set_option maxHeartbeats 2000000 in
theorem QuestionNames_any (A : Option Addr) (c : Nat) (xs : List Rul) (D : Option Addr) (d : Nat) (qs : List Qst) (w : World) (h : PA w A c xs D d qs) :
    Calls Try.prog 20 #[.slice A xs.length c, .slice D qs.length d] w (ToLB StrK 9 w (nmsL xs qs) (pendB xs qs)) := by
  have HP := Lib.hid h
  have hqm := h.qm
  clear h
  go_enter Try.func20, Try.ntmps20
  go_wp2_with fail
  refine (pend_any HP.out).mono ?_
  rintro e w1 ⟨rfl, hb⟩
  have HB := Lib.hid hb
  clear hb
  rcases Bool.eq_false_or_eq_true (pendB xs qs) with hr | hr
  all_goals have HRT := Lib.hid hr
  · rw [hr]
    have HD := Lib.hid (show nmsL xs qs = qs.map (fun q => (ruleAt xs q).nm) by unfold nmsL; rw [hr]; rfl)
    have HX := Lib.hid (fun (i : Nat) (hi : i < qs.length) => pend_ix hr hi)
    clear hr
    go_wp2
    go_loopw [6, 16] (fun u i wr => ∃ k : Nat, k ≤ qs.length ∧ i = .int .i64 k ∧ ∃ (O : Option Addr) (oc : Nat), u = .slice O k oc ∧ Hid (wr.ownsRow w.heap.size 9 1 (.slice O k oc) k (StrK.row (nmsK xs qs k))) ∧ Below w.heap.size w wr) (fun _ i _ => qs.length - (intOf i).toNat)
    case atStart => exact ⟨0, Nat.zero_le _, rfl, _, _, rfl, own_nil_lit _ _ _ _ _ (by simp) HB.out.size, HB.out.trans (((Below.refl _ _).alloc (Nat.le_refl _) _).mono HB.out.size)⟩
    case round =>
      obtain ⟨k, hk, rfl, O, oc, rfl, HO, hB⟩ := hrel
      have HBr := Lib.hid hB
      clear hB
      by_cases hlt : k < qs.length
      · obtain ⟨a, rfl, p0, p1, p2⟩ := question_at (HP.out.below HBr.out).qa hlt
        have i1 : (k : Int) < (qs.length : Int) := by omega
        have HIX := Lib.hid (HX.out k hlt)
        have HS := Lib.hid (nms_step (xs := xs) hlt)
        obtain ⟨q, hq⟩ : ∃ q, Hid (qs[k] = q) := ⟨_, Lib.hid rfl⟩
        rw [hq.out] at p0 p1 p2 HIX HS
        go_wp2_with fail
        refine (ruleOf_at A c xs q _ ((HP.out.below HBr.out).ra.alloc_ _) HP.out.rm HIX.out).mono ?_
        rintro e w2 ⟨rfl, hb⟩
        have HO2 := Lib.hid (own_keep HO.out (bmono hb))
        have HB2 := Lib.hid (HBr.out.trans ((bmono hb).mono HBr.out.size))
        have hfl := fld_nm
        clear hb p0 p1 p2
        go_wp2_with (at_builtin; go_must (refine list_append elStr _ rfl _ _ rfl w.heap.size O _ oc k 1 1 (StrK.row (nmsK xs qs k)) (StrK.row [(ruleAt xs q).nm]) rfl rfl rfl (own_keep HO2.out ((Below.refl _ _).alloc (Nat.le_refl _) _)) (cells_one _ _ _ _ (by simp)) str_one (by have := HB2.out.size; simp; omega) (by omega) ?_); intro O2 oc2 w4 own hb; have HO4 := Lib.hid own; have HB4 := Lib.hid (HB2.out.trans ((((Below.refl w2.heap.size w2).alloc (Nat.le_refl _) _).mono HB2.out.size).trans hb)); clear own hb)
        go_roundw
        case rel => exact ⟨k + 1, by omega, by go_num, O2, oc2, rfl, by rw [← HS.out]; exact HO4, HB4.out⟩
        case measure => simp [intOf]; omega
      · obtain rfl : k = qs.length := by omega
        have HE : nmsK xs qs qs.length = qs.map (fun q => (ruleAt xs q).nm) := by unfold nmsK; rw [List.take_length]
        rw [HE] at HO
        go_wp2
        go_ret2
        exact ToLB.own_ HO.out HD.out (by rw [List.length_map]) (by rw [List.length_map]; omega) (nms_fit HP.out.rf) HRT.out HBr.out
  · have HD := Lib.hid (show nmsL xs qs = [] by unfold nmsL; rw [hr]; rfl)
    rw [hr]
    go_wp2
    go_ret2
    exact ToLB.none_ HD.out HRT.out HB.out
set_option maxHeartbeats 2000000 in
theorem sQuestionNames_any (A : Option Addr) (c : Nat) (xs : List Rul) (D : Option Addr) (d : Nat) (qs : List Qst) (w : World) (h : PA w A c xs D d qs) :
    Calls Try.prog 21 #[.slice A xs.length c, .slice D qs.length d] w (ToLB StrK 9 w (nmsL xs qs) (pendB xs qs)) := by
  have HP := Lib.hid h
  have hqm := h.qm
  clear h
  go_enter Try.func21, Try.ntmps21
  go_wp2_with fail
  refine (good_any (HP.out.alloc_ _)).mono ?_
  rintro e w1 ⟨rfl, hb⟩
  have HB := Lib.hid (bmono hb)
  have HO1 := Lib.hid (own_keep (own_nil_lit w w.heap.size w.heap.size 9 1 rfl (Nat.le_refl _)) hb)
  clear hb
  rcases Bool.eq_false_or_eq_true (pendB xs qs) with hr | hr
  all_goals have HRT := Lib.hid hr
  · rw [hr]
    have HD := Lib.hid (show nmsL xs qs = qs.map (fun q => (ruleAt xs q).nm) by unfold nmsL; rw [hr]; rfl)
    have HX := Lib.hid (fun (i : Nat) (hi : i < qs.length) => pend_ix hr hi)
    clear hr
    go_wp2
    go_loopw [6, 7] (fun u i wr => ∃ k : Nat, k ≤ qs.length ∧ i = .int .i64 k ∧ ∃ (O : Option Addr) (oc : Nat), u = .slice O k oc ∧ Hid (wr.ownsRow w.heap.size 9 1 (.slice O k oc) k (StrK.row (nmsK xs qs k))) ∧ Below w.heap.size w wr) (fun _ i _ => qs.length - (intOf i).toNat)
    case atStart => exact ⟨0, Nat.zero_le _, rfl, _, _, rfl, HO1, HB.out⟩
    case round =>
      obtain ⟨k, hk, rfl, O, oc, rfl, HO, hB⟩ := hrel
      have HBr := Lib.hid hB
      clear hB
      by_cases hlt : k < qs.length
      · obtain ⟨a, rfl, p0, p1, p2⟩ := question_at (HP.out.below HBr.out).qa hlt
        have i1 : (k : Int) < (qs.length : Int) := by omega
        have hix := HX.out k hlt
        have HS := Lib.hid (nms_step (xs := xs) hlt)
        obtain ⟨q, hq⟩ : ∃ q, Hid (qs[k] = q) := ⟨_, Lib.hid rfl⟩
        rw [hq.out] at p0 p1 p2 hix HS
        go_wp2_with fail
        refine (l2Find_any A c xs q.r _ (HP.out.below HBr.out).ra HP.out.rm).mono ?_
        rintro e w2 ⟨rfl, hb⟩
        have HO2 := Lib.hid (own_keep HO.out hb)
        have HB2 := Lib.hid (HBr.out.trans (hb.mono HBr.out.size))
        obtain ⟨j, hj, hjl⟩ := ixR_at hix
        obtain ⟨b, rfl, x0, x1, x2, x3, x4, x5, x6⟩ := rule_at (HP.out.below HB2.out).ra hjl
        have j1 : (j : Int) < (xs.length : Int) := by omega
        have HRA := Lib.hid (ruleAt_of hj hjl)
        obtain ⟨x, hx⟩ : ∃ x, Hid (xs[j] = x) := ⟨_, Lib.hid rfl⟩
        rw [hx.out] at x1 HRA
        rw [HRA.out] at HS
        rw [hj]
        clear hb p0 p1 p2 x0 x2 x3 x4 x5 x6 hix
        go_wp2_with (at_builtin; go_must (refine list_append elStr _ rfl _ _ rfl w.heap.size O _ oc k 1 1 (StrK.row (nmsK (xs) qs k)) (StrK.row [x.nm]) rfl rfl rfl (own_keep HO2.out ((Below.refl _ _).alloc (Nat.le_refl _) _)) (cells_one _ _ _ _ (by simp)) str_one (by have := HB2.out.size; simp; omega) (by omega) ?_); intro O2 oc2 w4 own hb; have HO4 := Lib.hid own; have HB4 := Lib.hid (HB2.out.trans ((((Below.refl w2.heap.size w2).alloc (Nat.le_refl _) _).mono HB2.out.size).trans hb)); clear own hb)
        go_roundw
        case rel => exact ⟨k + 1, by omega, by go_num, O2, oc2, rfl, by rw [← HS.out]; exact HO4, HB4.out⟩
        case measure => simp [intOf]; omega
      · obtain rfl : k = qs.length := by omega
        have HE : nmsK xs qs qs.length = qs.map (fun q => (ruleAt xs q).nm) := by unfold nmsK; rw [List.take_length]
        rw [HE] at HO
        go_wp2
        go_ret2
        exact ToLB.own_ HO.out HD.out (by rw [List.length_map]) (by rw [List.length_map]; omega) (nms_fit HP.out.rf) HRT.out HBr.out
  · have HD := Lib.hid (show nmsL xs qs = [] by unfold nmsL; rw [hr]; rfl)
    rw [hr]
    go_wp2
    go_ret2
    exact ToLB.own_ (ys := []) HO1.out HD.out rfl (by simp) (by simp) HRT.out HB.out
end Go.Proofs.Ytifahgdalgjgfaa
