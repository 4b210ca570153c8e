/- Which motions may be moved, in the program and in the reference. Conditions: the ranges named. -/
import Derived.Test.YtifahgdalgjgfaaAq
import Derived.Deep.DrawnRows
namespace Go.Proofs.Ytifahgdalgjgfaa
open Go.RowKit
set_option linter.unusedVariables false
attribute [local go_sem ↓] Go.wp_at_zero Go.wp_at_succ
def mayP (xs : List Rul) (qs : List Qst) (x : Rul) : Bool := qs.length == 0 || (!lackB xs (qs.getD (qs.length - 1) noQst) && !(qs.length == 6) && decide ((ruleAt xs (qs.getD (qs.length - 1) noQst)).rk < x.rk))
def mayK (p : Rul → Bool) (xs : List Rul) (k : Nat) : List Int := ((xs.take k).filter p).map (·.id)
def mayL (xs : List Rul) (qs : List Qst) : List Int := (xs.filter (mayP xs qs)).map (·.id)
theorem mayK_zero (p : Rul → Bool) (xs : List Rul) : mayK p xs 0 = [] := rfl
theorem mayK_yes {p : Rul → Bool} {xs : List Rul} {k : Nat} (h : k < xs.length) (hp : p xs[k] = true) : mayK p xs (k + 1) = mayK p xs k ++ [xs[k].id] := by
  unfold mayK
  rw [List.take_succ_eq_append_getElem h, List.filter_append, List.map_append, List.filter_cons, hp]
  rfl
theorem mayK_no {p : Rul → Bool} {xs : List Rul} {k : Nat} (h : k < xs.length) (hp : p xs[k] = false) : mayK p xs (k + 1) = mayK p xs k := by
  unfold mayK
  rw [List.take_succ_eq_append_getElem h, List.filter_append, List.map_append, List.filter_cons, hp]
  simp
theorem mayK_le (p : Rul → Bool) (xs : List Rul) (k : Nat) : (mayK p xs k).length ≤ xs.length := by
  unfold mayK
  rw [List.length_map]
  exact Nat.le_trans (List.length_filter_le _ _) (by rw [List.length_take]; omega)
theorem mayK_all {xs : List Rul} {qs : List Qst} : mayK (mayP xs qs) xs xs.length = mayL xs qs := by unfold mayK mayL; rw [List.take_length]
theorem may_none {xs : List Rul} {qs : List Qst} (h : ∀ x, mayP xs qs x = false) : mayL xs qs = [] := by
  unfold mayL
  rw [List.filter_eq_nil_iff.2 (fun x _ => by rw [h x]; simp)]
  rfl
theorem may_le {xs : List Rul} {qs : List Qst} : (mayL xs qs).length ≤ xs.length := by
  unfold mayL
  rw [List.length_map]
  exact List.length_filter_le _ _
theorem pend_rk {xs : List Rul} {qs : List Qst} (h : pendB xs qs = true) {i : Nat} (hi : i < xs.length) : 0 ≤ xs[i].rk := by
  unfold pendB rulesB at h
  simp only [Bool.and_eq_true] at h
  have h2 := allN_yes.1 h.1.1.1 i hi
  rw [okRu_eq hi] at h2
  unfold sngB at h2
  simp only [Bool.and_eq_true] at h2
  exact (inB_iff.1 h2.1.1.1.2).1
theorem mayP_nil {xs : List Rul} {qs : List Qst} (h : qs.length = 0) (x : Rul) : mayP xs qs x = true := by unfold mayP; rw [h]; rfl
theorem mayP_pos {xs : List Rul} {qs : List Qst} (h : 0 < qs.length) (x : Rul) : mayP xs qs x = (!lackB xs (qs[qs.length - 1]'(by omega)) && !(qs.length == 6) && decide ((ruleAt xs (qs[qs.length - 1]'(by omega))).rk < x.rk)) := by
  unfold mayP
  rw [getD_lt (show qs.length - 1 < qs.length by omega), show (qs.length == 0) = false from (beq_eq_false_iff_ne).2 (by omega)]
  rfl
theorem pend_six {xs : List Rul} {qs : List Qst} (h : pendB xs qs = true) : qs.length ≤ 6 := by
  unfold pendB at h
  simp only [Bool.and_eq_true, decide_eq_true_eq] at h
  omega
theorem ToL.own_ {α : Type} {K : Kd α} {e : TypeId} {w w' : World} {xs ys : List α} {O : Option Addr} {n oc : Nat} (h : w'.ownsRow w.heap.size e K.sz (.slice O n oc) n (K.row ys)) (hx : xs = ys) (hn : n = ys.length) (hm : ys.length ≤ 1048576) (hf : ∀ x ∈ ys, K.fit x) (hb : Below w.heap.size w w') : ToL K e w xs (.returned (.slice O n oc)) w' := by
  subst hx hn
  exact ⟨O, oc, rfl, Ow.mk h hm hf, hb⟩
theorem fld_rk2 (v0 v1 : Value) (r : Int) (v3 v4 v5 v6 : Value) (w : World) : (Instr.field 52 (.agg #[v0, v1, .int .i64 r, v3, v4, v5, v6]) 2).run Try.prog w = .ok (.int .i64 r) w := by kernel_rfl
set_option maxHeartbeats 4000000 in
theorem mayBeMoved_any (A : Option Addr) (c : Nat) (xs : List Rul) (D : Option Addr) (d : Nat) (qs : List Qst) (w : World) (h : PA w A c xs D d qs) (hp : pendB xs qs = true) :
    Calls Try.prog 86 #[.slice A xs.length c, .slice D qs.length d] w (ToL IntK 3 w (mayL xs qs)) := by
  have HP := Lib.hid h
  have hqm := h.qm
  have hrm := h.rm
  have h6 := pend_six hp
  clear h
  by_cases h0 : 0 < qs.length
  · obtain ⟨a, rfl, p0, p1, p2⟩ := question_at (HP.out.alloc_ (.cells #[] 3)).qa (show qs.length - 1 < qs.length by omega)
    have t1 : IntKind.i64.wrap ((qs.length : Int) - 1) = (qs.length : Int) - 1 := by rw [IntKind.wrap_i64]; omega
    have t2 : ((qs.length : Int) - 1).toNat = qs.length - 1 := by omega
    have t3 : (0 : Int) ≤ (qs.length : Int) - 1 := by omega
    have t4 : (qs.length : Int) - 1 < (qs.length : Int) := by omega
    have t5 : decide (0 < qs.length) = true := decide_eq_true (by omega)
    have t7 : (1 : Int) ≤ (qs.length : Int) := by omega
    have HIX := Lib.hid (pend_ix hp (show qs.length - 1 < qs.length by omega))
    have HPO := Lib.hid (mayP_pos (xs := xs) h0)
    obtain ⟨p, hpp⟩ : ∃ p, Hid (qs[qs.length - 1] = p) := ⟨_, Lib.hid rfl⟩
    rw [hpp.out] at p0 p1 p2 HIX HPO
    have HO0 := Lib.hid (own_nil_lit w w.heap.size w.heap.size 3 1 rfl (Nat.le_refl _))
    clear hp
    go_enter Try.func86, Try.ntmps86
    go_wp2_with fail
    refine (lacksSecond_at A c xs p _ (HP.out.alloc_ _).ra HP.out.rm HIX.out).mono ?_
    rintro e w1 ⟨rfl, hb⟩
    have HO1 := Lib.hid (own_keep HO0.out hb)
    have HB1 := Lib.hid (bmono hb)
    have p0 := (hb.cell (World.block_lt_of_cell? _ _ p0)).trans p0
    have p1 := (hb.cell (World.block_lt_of_cell? _ _ p1)).trans p1
    have p2 := (hb.cell (World.block_lt_of_cell? _ _ p2)).trans p2
    clear hb
    rcases Bool.eq_false_or_eq_true (lackB xs p) with hl | hl
    · have HE := Lib.hid (may_none (fun x => show mayP xs qs x = false by rw [HPO.out, hl]; rfl))
      rw [hl]
      go_wp2
      go_ret
      exact ToL.own_ (ys := []) HO1.out HE.out rfl (by simp) (by simp) HB1.out
    · rw [hl]
      by_cases hs : qs.length = 6
      · have HE := Lib.hid (may_none (fun x => show mayP xs qs x = false by rw [HPO.out, hl, hs]; rfl))
        have hs2 : ((qs.length : Int) == 6) = true := by rw [hs]; rfl
        go_wp2
        go_ret
        exact ToL.own_ (ys := []) HO1.out HE.out rfl (by simp) (by simp) HB1.out
      · have HPP := Lib.hid (fun (k : Nat) (hk : k < xs.length) => show mayP xs qs xs[k] = decide ((ruleAt xs p).rk < xs[k].rk) by rw [HPO.out, hl, show (qs.length == 6) = false from (beq_eq_false_iff_ne).2 hs]; rfl)
        have hs2 : ((qs.length : Int) == 6) = false := by rw [beq_eq_false_iff_ne]; omega
        have hs3 : (qs.length : Int) ≠ 6 := by omega
        go_wp2_with fail
        refine (ruleOf_at A c xs p _ (HP.out.below HB1.out).ra HP.out.rm HIX.out).mono ?_
        rintro e w2 ⟨rfl, hb⟩
        have HO2 := Lib.hid (own_keep HO1.out hb)
        have HB2 := Lib.hid (HB1.out.trans (hb.mono HB1.out.size))
        have hfl := fld_rk2
        clear HO1 HB1 hb p0 p1 p2
        have HO1 := HO2
        have HB1 := HB2
        go_wp2
        clear hfl
        go_loopw [5, 37] (fun u i wr => ∃ k : Nat, k ≤ xs.length ∧ i = .int .i64 k ∧ ∃ (O : Option Addr) (oc n : Nat), u = .slice O n oc ∧ Hid (n = (mayK (mayP xs qs) xs k).length) ∧ Hid (wr.ownsRow w.heap.size 3 1 (.slice O n oc) n (IntK.row (mayK (mayP xs qs) xs k))) ∧ Below w.heap.size w wr) (fun _ i _ => xs.length - (intOf i).toNat)
        case atStart => exact ⟨0, Nat.zero_le _, rfl, _, _, 0, rfl, rfl, HO1.out, HB1.out⟩
        case round =>
          obtain ⟨k, hk, rfl, O, oc, n, rfl, HN, HO, hB⟩ := hrel
          have HBr := Lib.hid hB
          clear hB
          by_cases hlt : k < xs.length
          · obtain ⟨b, rfl, x0, x1, x2, x3, x4, x5, x6⟩ := rule_at (HP.out.below HBr.out).ra hlt
            have i1 : (k : Int) < (xs.length : Int) := by omega
            have hR := HPP.out k hlt
            have HYY := Lib.hid (mayK_yes (p := mayP xs qs) hlt)
            have HYN := Lib.hid (mayK_no (p := mayP xs qs) hlt)
            obtain ⟨x, hx⟩ : ∃ x, Hid (xs[k] = x) := ⟨_, Lib.hid rfl⟩
            rw [hx.out] at x0 x1 x2 x3 x4 x5 x6 hR HYY HYN
            have HX := Lib.hid (HBr.out.trans ((below1 wr (.cells #[.int .i64 x.id, .string x.nm, .int .i64 x.rk, .bool x.sc, .bool x.db, .bool x.am, .int .i64 x.nd] 52)).mono HBr.out.size))
            have HOX := Lib.hid (own_keep HO.out (below1 wr (.cells #[.int .i64 x.id, .string x.nm, .int .i64 x.rk, .bool x.sc, .bool x.db, .bool x.am, .int .i64 x.nd] 52)))
            by_cases hc : (ruleAt xs p).rk < x.rk
            · have HY := Lib.hid (HYY.out (hR.trans (decide_eq_true hc)))
              clear hR HYY HYN
              go_wp2_with (at_builtin; go_must (refine list_append elInt _ rfl _ _ rfl w.heap.size O _ oc n 1 1 (IntK.row (mayK (mayP xs qs) xs k)) (IntK.row [x.id]) rfl rfl rfl (own_keep HOX.out ((Below.refl _ _).alloc (Nat.le_refl _) _)) (cells_one _ _ _ _ (by simp)) int_one (by have hsx := HX.out.size; first | omega | (simp at hsx ⊢; omega)) (by have h1 := mayK_le (mayP xs qs) xs k; have h2 := HN.out; omega) ?_); intro O2 oc2 w4 own hb; have HO4 := Lib.hid own; have HB4 := Lib.hid (HX.out.trans ((((Below.refl _ _).alloc (Nat.le_refl _) _).mono HX.out.size).trans hb)); clear own hb)
              go_roundw
              case rel => exact ⟨k + 1, by omega, by go_num, O2, oc2, n + 1, rfl, by rw [HY.out, List.length_append, ← HN.out]; rfl, by rw [HY.out, IntK.row_append]; exact HO4, HB4.out⟩
              case measure => simp [intOf]; omega
            · have HY := Lib.hid (HYN.out (hR.trans (decide_eq_false hc)))
              clear hR HYY HYN
              go_wp2
              go_roundw
              case rel => exact ⟨k + 1, by omega, by go_num, O, oc, n, rfl, by rw [HY.out]; exact HN, by rw [HY.out]; exact HOX, HX.out⟩
              case measure => simp [intOf]; omega
          · obtain rfl : k = xs.length := by omega
            rw [mayK_all] at HN HO
            go_wp2
            go_ret
            exact ToL.own_ HO.out rfl HN.out (Nat.le_trans may_le HP.out.rm) (fun _ _ => trivial) HBr.out
  · have h1 : qs.length = 0 := by omega
    have HPP := Lib.hid (fun (k : Nat) (hk : k < xs.length) => show mayP xs qs xs[k] = decide ((-1 : Int) < xs[k].rk) by rw [mayP_nil h1, decide_eq_true (show (-1 : Int) < xs[k].rk by have := pend_rk hp hk; omega)])
    have HO1 := Lib.hid (own_nil_lit w w.heap.size w.heap.size 3 1 rfl (Nat.le_refl _))
    have HB1 := Lib.hid (below1 w (.cells #[] 3))
    clear hp h0 h6 hqm
    obtain rfl : qs = [] := List.eq_nil_of_length_eq_zero h1
    clear h1
    simp only [List.length_nil]
    go_enter Try.func86, Try.ntmps86
    go_wp2
    go_loopw [5, 37] (fun u i wr => ∃ k : Nat, k ≤ xs.length ∧ i = .int .i64 k ∧ ∃ (O : Option Addr) (oc n : Nat), u = .slice O n oc ∧ Hid (n = (mayK (mayP xs []) xs k).length) ∧ Hid (wr.ownsRow w.heap.size 3 1 (.slice O n oc) n (IntK.row (mayK (mayP xs []) xs k))) ∧ Below w.heap.size w wr) (fun _ i _ => xs.length - (intOf i).toNat)
    case atStart => exact ⟨0, Nat.zero_le _, rfl, _, _, 0, rfl, rfl, HO1.out, HB1.out⟩
    case round =>
      obtain ⟨k, hk, rfl, O, oc, n, rfl, HN, HO, hB⟩ := hrel
      have HBr := Lib.hid hB
      clear hB
      by_cases hlt : k < xs.length
      · obtain ⟨b, rfl, x0, x1, x2, x3, x4, x5, x6⟩ := rule_at (HP.out.below HBr.out).ra hlt
        have i1 : (k : Int) < (xs.length : Int) := by omega
        have hR := HPP.out k hlt
        have HYY := Lib.hid (mayK_yes (p := mayP xs []) hlt)
        have HYN := Lib.hid (mayK_no (p := mayP xs []) hlt)
        obtain ⟨x, hx⟩ : ∃ x, Hid (xs[k] = x) := ⟨_, Lib.hid rfl⟩
        rw [hx.out] at x0 x1 x2 x3 x4 x5 x6 hR HYY HYN
        have HX := Lib.hid (HBr.out.trans ((below1 wr (.cells #[.int .i64 x.id, .string x.nm, .int .i64 x.rk, .bool x.sc, .bool x.db, .bool x.am, .int .i64 x.nd] 52)).mono HBr.out.size))
        have HOX := Lib.hid (own_keep HO.out (below1 wr (.cells #[.int .i64 x.id, .string x.nm, .int .i64 x.rk, .bool x.sc, .bool x.db, .bool x.am, .int .i64 x.nd] 52)))
        by_cases hc : (-1 : Int) < x.rk
        · have HY := Lib.hid (HYY.out (hR.trans (decide_eq_true hc)))
          clear hR HYY HYN
          go_wp2_with (at_builtin; go_must (refine list_append elInt _ rfl _ _ rfl w.heap.size O _ oc n 1 1 (IntK.row (mayK (mayP xs []) xs k)) (IntK.row [x.id]) rfl rfl rfl (own_keep HOX.out ((Below.refl _ _).alloc (Nat.le_refl _) _)) (cells_one _ _ _ _ (by simp)) int_one (by have hsx := HX.out.size; first | omega | (simp at hsx ⊢; omega)) (by have h1 := mayK_le (mayP xs []) xs k; have h2 := HN.out; omega) ?_); intro O2 oc2 w4 own hb; have HO4 := Lib.hid own; have HB4 := Lib.hid (HX.out.trans ((((Below.refl _ _).alloc (Nat.le_refl _) _).mono HX.out.size).trans hb)); clear own hb)
          go_roundw
          case rel => exact ⟨k + 1, by omega, by go_num, O2, oc2, n + 1, rfl, by rw [HY.out, List.length_append, ← HN.out]; rfl, by rw [HY.out, IntK.row_append]; exact HO4, HB4.out⟩
          case measure => simp [intOf]; omega
        · have HY := Lib.hid (HYN.out (hR.trans (decide_eq_false hc)))
          clear hR HYY HYN
          go_wp2
          go_roundw
          case rel => exact ⟨k + 1, by omega, by go_num, O, oc, n, rfl, by rw [HY.out]; exact HN, by rw [HY.out]; exact HOX, HX.out⟩
          case measure => simp [intOf]; omega
      · obtain rfl : k = xs.length := by omega
        rw [mayK_all] at HN HO
        go_wp2
        go_ret
        exact ToL.own_ HO.out rfl HN.out (Nat.le_trans may_le HP.out.rm) (fun _ _ => trivial) HBr.out
set_option maxHeartbeats 4000000 in
set_option maxRecDepth 100000 in
theorem l7May_any (A : Option Addr) (c : Nat) (xs : List Rul) (D : Option Addr) (d : Nat) (qs : List Qst) (w : World) (h : PA w A c xs D d qs) (hp : pendB xs qs = true) :
    Calls Try.prog 82 #[.slice A xs.length c, .slice D qs.length d] w (ToL IntK 3 w (mayL xs qs)) := by
  have HP := Lib.hid h
  have hqm := h.qm
  have hrm := h.rm
  have h6 := pend_six hp
  clear h
  have HO1 := Lib.hid (own_nil_lit w w.heap.size w.heap.size 3 1 rfl (Nat.le_refl _))
  have HB1 := Lib.hid (below1 w (.cells #[] 3))
  by_cases h0 : 0 < qs.length
  · obtain ⟨a, rfl, p0, p1, p2⟩ := question_at HP.out.qa (show qs.length - 1 < qs.length by omega)
    have t1 : IntKind.i64.wrap ((qs.length : Int) - 1) = (qs.length : Int) - 1 := by rw [IntKind.wrap_i64]; omega
    have t2 : ((qs.length : Int) - 1).toNat = qs.length - 1 := by omega
    have t3 : (0 : Int) ≤ (qs.length : Int) - 1 := by omega
    have t4 : (qs.length : Int) - 1 < (qs.length : Int) := by omega
    have t5 : decide (0 < qs.length) = true := decide_eq_true (by omega)
    have t7 : (1 : Int) ≤ (qs.length : Int) := by omega
    have e0 : ((qs.length : Int) == 0) = false := by rw [beq_eq_false_iff_ne]; omega
    have e1 : (qs.length == 0) = false := by rw [beq_eq_false_iff_ne]; omega
    have HIX := Lib.hid (pend_ix hp (show qs.length - 1 < qs.length by omega))
    have HPO := Lib.hid (mayP_pos (xs := xs) h0)
    obtain ⟨p, hpp⟩ : ∃ p, Hid (qs[qs.length - 1] = p) := ⟨_, Lib.hid rfl⟩
    rw [hpp.out] at HIX HPO
    clear hp p0 p1 p2
    by_cases hs : qs.length = 6
    · have HE := Lib.hid (may_none (fun x => show mayP xs qs x = false by rw [HPO.out, show (qs.length == 6) = true by rw [hs]; rfl]; simp))
      have s1 : ¬ (qs.length : Int) < 6 := by omega
      go_enter Try.func82, Try.ntmps82
      go_wp2
      go_loopw [5, 7] (fun u i wr => u = .slice (some ⟨w.heap.size, 0, none⟩) 0 0 ∧ i = .int .i64 0 ∧ wr = w.alloc (.cells #[] 3)) (fun _ _ _ => 0)
      case atStart => exact ⟨rfl, rfl, rfl⟩
      case round =>
        obtain ⟨rfl, rfl, rfl⟩ := hrel
        by_cases hx0 : 0 < xs.length
        all_goals
          go_wp2
          go_ret
          exact ToL.own_ (ys := []) HO1.out HE.out rfl (by simp) (by simp) HB1.out
    · have s1 : (qs.length : Int) < 6 := by omega
      rcases Bool.eq_false_or_eq_true (lackB xs p) with hl | hl
      · have HPP := Lib.hid (fun (k : Nat) (hk : k < xs.length) => show mayP xs qs xs[k] = false by rw [HPO.out, hl]; rfl)
        go_enter Try.func82, Try.ntmps82
        go_wp2
        go_loopw [5, 7] (fun u i wr => ∃ k : Nat, k ≤ xs.length ∧ i = .int .i64 k ∧ ∃ (O : Option Addr) (oc n : Nat), u = .slice O n oc ∧ Hid (n = (mayK (mayP xs qs) xs k).length) ∧ Hid (wr.ownsRow w.heap.size 3 1 (.slice O n oc) n (IntK.row (mayK (mayP xs qs) xs k))) ∧ Below w.heap.size w wr) (fun _ i _ => xs.length - (intOf i).toNat)
        case atStart => exact ⟨0, Nat.zero_le _, rfl, _, _, 0, rfl, rfl, HO1.out, HB1.out⟩
        case round =>
          obtain ⟨k, hk, rfl, O, oc, n, rfl, HN, HO, hB⟩ := hrel
          have HBr := Lib.hid hB
          clear hB
          by_cases hlt : k < xs.length
          · obtain ⟨b, rfl, x0, x1, x2, x3, x4, x5, x6⟩ := rule_at (HP.out.below HBr.out).ra hlt
            have i1 : (k : Int) < (xs.length : Int) := by omega
            have hR := HPP.out k hlt
            have HYY := Lib.hid (mayK_yes (p := mayP xs qs) hlt)
            have HYN := Lib.hid (mayK_no (p := mayP xs qs) hlt)
            obtain ⟨x, hx⟩ : ∃ x, Hid (xs[k] = x) := ⟨_, Lib.hid rfl⟩
            rw [hx.out] at x0 x1 x2 x3 x4 x5 x6 hR HYY HYN
            have HY := Lib.hid (HYN.out hR)
            obtain ⟨a', ha', p0, p1, p2⟩ := question_at (HP.out.below HBr.out).qa (show qs.length - 1 < qs.length by omega)
            obtain rfl : a = a' := by simpa using ha'
            rw [hpp.out] at p0 p1 p2
            clear hR HYY HYN x0 x1 x3 x4 x5 x6 ha'
            go_wp2
            refine wp_region_noPanic ?_
            refine wp_region_held_drew (S := (fun w' => Below wr.heap.size wr w' ∧ w'.cell? (a.add ((qs.length - 1) * 3)) = some (.int .i64 p.r) ∧ w'.cell? ⟨(a.add ((qs.length - 1) * 3)).block, (a.add ((qs.length - 1) * 3)).off + 1, none⟩ = some (.int .i64 p.m) ∧ w'.cell? ⟨(a.add ((qs.length - 1) * 3)).block, (a.add ((qs.length - 1) * 3)).off + 2, none⟩ = some (.bool p.s) ∧ w'.cell? ⟨(b.add (k * 7)).block, (b.add (k * 7)).off + 2, none⟩ = some (.int .i64 x.rk))) (by kernel_rfl) ?_ (fun hHeld => ?_)
            · ((try dsimp only); (first | exact ⟨HB2.out, (HB2.out.cell (World.block_lt_of_cell? _ _ p0)).trans p0, (HB2.out.cell (World.block_lt_of_cell? _ _ p1)).trans p1, (HB2.out.cell (World.block_lt_of_cell? _ _ p2)).trans p2, (HB2.out.cell (World.block_lt_of_cell? _ _ x2)).trans x2⟩ | exact ⟨HB1.out, (HB1.out.cell (World.block_lt_of_cell? _ _ p0)).trans p0, (HB1.out.cell (World.block_lt_of_cell? _ _ p1)).trans p1, (HB1.out.cell (World.block_lt_of_cell? _ _ p2)).trans p2, (HB1.out.cell (World.block_lt_of_cell? _ _ x2)).trans x2⟩ | exact ⟨(Below.refl _ _).drew, p0, p1, p2, x2⟩))
            refine take_yes (i := 0) (d := 21) (v := ?_) rfl rfl (by kernel_rfl) (by kernel_rfl) (by kernel_rfl) (fun _ _ _ h => h) (by kernel_rfl) ?_ hHeld ?_
            rotate_left
            · (intro w hSw; (try dsimp only at hSw); go_simp; try (with_reducible rfl))
            try simp only [Act.put, List.setIfInBounds_toArray, List.set_cons_zero, List.set_cons_succ]
            refine take_yes (i := 1) (d := 22) (v := ?_) rfl rfl (by kernel_rfl) (by kernel_rfl) (by kernel_rfl) (fun _ _ _ h => h) (by kernel_rfl) ?_ hHeld ?_
            rotate_left
            · (intro w hSw; (try dsimp only at hSw); go_simp; try (with_reducible rfl))
            try simp only [Act.put, List.setIfInBounds_toArray, List.set_cons_zero, List.set_cons_succ]
            refine take_yes (i := 2) (d := 23) (v := ?_) rfl rfl (by kernel_rfl) (by kernel_rfl) (by kernel_rfl) (fun _ _ _ h => h) (by kernel_rfl) ?_ hHeld ?_
            rotate_left
            · (intro w hSw; (try dsimp only at hSw); go_simp; try (with_reducible rfl))
            try simp only [Act.put, List.setIfInBounds_toArray, List.set_cons_zero, List.set_cons_succ]
            refine take_yes (i := 3) (d := 24) (v := ?_) rfl rfl (by kernel_rfl) (by kernel_rfl) (by kernel_rfl) (fun _ _ _ h => h) (by kernel_rfl) ?_ hHeld ?_
            rotate_left
            · (intro w hSw; (try dsimp only at hSw); go_simp; try (with_reducible rfl))
            try simp only [Act.put, List.setIfInBounds_toArray, List.set_cons_zero, List.set_cons_succ]
            refine take_yes (i := 4) (d := 25) (v := ?_) rfl rfl (by kernel_rfl) (by kernel_rfl) (by kernel_rfl) (fun _ _ _ h => h) (by kernel_rfl) ?_ hHeld ?_
            rotate_left
            · (intro w hSw; (try dsimp only at hSw); go_simp; try (with_reducible rfl))
            try simp only [Act.put, List.setIfInBounds_toArray, List.set_cons_zero, List.set_cons_succ]
            refine take_yes (i := 5) (d := 26) (v := ?_) rfl rfl (by kernel_rfl) (by kernel_rfl) (by kernel_rfl) (fun _ _ _ h => h) (by kernel_rfl) ?_ hHeld ?_
            rotate_left
            · (intro w hSw; (try dsimp only at hSw); go_simp; try (with_reducible rfl))
            try simp only [Act.put, List.setIfInBounds_toArray, List.set_cons_zero, List.set_cons_succ]
            refine take_yes (i := 6) (d := 27) (v := ?_) rfl rfl (by kernel_rfl) (by kernel_rfl) (by kernel_rfl) (fun _ _ _ h => h) (by kernel_rfl) ?_ hHeld ?_
            rotate_left
            · (intro w hSw; (try dsimp only at hSw); go_simp; try (with_reducible rfl))
            try simp only [Act.put, List.setIfInBounds_toArray, List.set_cons_zero, List.set_cons_succ]
            refine take_yes (i := 7) (d := 28) (v := ?_) rfl rfl (by kernel_rfl) (by kernel_rfl) (by kernel_rfl) (fun _ _ _ h => h) (by kernel_rfl) ?_ hHeld ?_
            rotate_left
            · (intro w hSw; (try dsimp only at hSw); go_simp; try (with_reducible rfl))
            try simp only [Act.put, List.setIfInBounds_toArray, List.set_cons_zero, List.set_cons_succ]
            refine take_yes (i := 8) (d := 29) (v := ?_) rfl rfl (by kernel_rfl) (by kernel_rfl) (by kernel_rfl) (fun _ _ _ h => h) (by kernel_rfl) ?_ hHeld ?_
            rotate_left
            · (intro w hSw; (try dsimp only at hSw); go_simp; try (with_reducible rfl))
            try simp only [Act.put, List.setIfInBounds_toArray, List.set_cons_zero, List.set_cons_succ]
            refine wpAnyH_ready (rs := [9]) (by kernel_rfl) (by simp) ?_
            refine AllReadyH.cons rfl (fun K hK => ?_) AllReadyH.nil
            go_simp
            (go_at_call 74; refine (l7Lacks_at (some b) c xs p _ ((HP.out.below (HBr.out)).ra.below (below_drewN (Below.refl wr.heap.size wr) 1)) HP.out.rm HIX.out).mono ?_; rintro e w4 ⟨rfl, hb⟩; rw [hl]; have HB1 := Lib.hid ((below_drewN (Below.refl wr.heap.size wr) 1).trans hb); clear hb)
            (first | refine hK.out _ _ ?_ (fun hHeld1 => ?_) | (go_wp2_with fail; refine hK.out _ _ ?_ (fun hHeld1 => ?_)))
            · ((try dsimp only); (first | exact ⟨HB2.out, (HB2.out.cell (World.block_lt_of_cell? _ _ p0)).trans p0, (HB2.out.cell (World.block_lt_of_cell? _ _ p1)).trans p1, (HB2.out.cell (World.block_lt_of_cell? _ _ p2)).trans p2, (HB2.out.cell (World.block_lt_of_cell? _ _ x2)).trans x2⟩ | exact ⟨HB1.out, (HB1.out.cell (World.block_lt_of_cell? _ _ p0)).trans p0, (HB1.out.cell (World.block_lt_of_cell? _ _ p1)).trans p1, (HB1.out.cell (World.block_lt_of_cell? _ _ p2)).trans p2, (HB1.out.cell (World.block_lt_of_cell? _ _ x2)).trans x2⟩ | exact ⟨(Below.refl _ _).drew, p0, p1, p2, x2⟩))
            clear hK K hHeld
            have hHeld := hHeld1
            clear hHeld1
            try simp only [Act.put, List.setIfInBounds_toArray, List.set_cons_zero, List.set_cons_succ]
            refine take_yes (i := 10) (d := 31) (v := ?_) rfl rfl (by kernel_rfl) (by kernel_rfl) (by kernel_rfl) (fun _ _ _ h => h) (by kernel_rfl) ?_ hHeld ?_
            rotate_left
            · (intro w hSw; (try dsimp only at hSw); go_simp; try (with_reducible rfl))
            try simp only [Act.put, List.setIfInBounds_toArray, List.set_cons_zero, List.set_cons_succ]
            refine take_yes (i := 11) (d := 32) (v := ?_) rfl rfl (by kernel_rfl) (by kernel_rfl) (by kernel_rfl) (fun _ _ _ h => h) (by kernel_rfl) ?_ hHeld ?_
            rotate_left
            · (intro w hSw; (try dsimp only at hSw); go_simp; try (with_reducible rfl))
            try simp only [Act.put, List.setIfInBounds_toArray, List.set_cons_zero, List.set_cons_succ]
            refine take_no (i := 12) (d := 33) rfl rfl (by kernel_rfl) (by kernel_rfl) (by kernel_rfl) (fun _ _ _ h => h) (by kernel_rfl) hHeld ?_
            try simp only [Act.put, List.setIfInBounds_toArray, List.set_cons_zero, List.set_cons_succ]
            refine take_no (i := 13) (d := 34) rfl rfl (by kernel_rfl) (by kernel_rfl) (by kernel_rfl) (fun _ _ _ h => h) (by kernel_rfl) hHeld ?_
            try simp only [Act.put, List.setIfInBounds_toArray, List.set_cons_zero, List.set_cons_succ]
            refine take_no (i := 14) (d := 35) rfl rfl (by kernel_rfl) (by kernel_rfl) (by kernel_rfl) (fun _ _ _ h => h) (by kernel_rfl) hHeld ?_
            try simp only [Act.put, List.setIfInBounds_toArray, List.set_cons_zero, List.set_cons_succ]
            refine take_no (i := 15) (d := 36) rfl rfl (by kernel_rfl) (by kernel_rfl) (by kernel_rfl) (fun _ _ _ h => h) (by kernel_rfl) hHeld ?_
            try simp only [Act.put, List.setIfInBounds_toArray, List.set_cons_zero, List.set_cons_succ]
            refine take_no (i := 16) (d := 37) rfl rfl (by kernel_rfl) (by kernel_rfl) (by kernel_rfl) (fun _ _ _ h => h) (by kernel_rfl) hHeld ?_
            try simp only [Act.put, List.setIfInBounds_toArray, List.set_cons_zero, List.set_cons_succ]
            refine take_no (i := 17) (d := 38) rfl rfl (by kernel_rfl) (by kernel_rfl) (by kernel_rfl) (fun _ _ _ h => h) (by kernel_rfl) hHeld ?_
            try simp only [Act.put, List.setIfInBounds_toArray, List.set_cons_zero, List.set_cons_succ]
            refine take_no (i := 18) (d := 39) rfl rfl (by kernel_rfl) (by kernel_rfl) (by kernel_rfl) (fun _ _ _ h => h) (by kernel_rfl) hHeld ?_
            try simp only [Act.put, List.setIfInBounds_toArray, List.set_cons_zero, List.set_cons_succ]
            refine take_no (i := 19) (d := 40) rfl rfl (by kernel_rfl) (by kernel_rfl) (by kernel_rfl) (fun _ _ _ h => h) (by kernel_rfl) hHeld ?_
            try simp only [Act.put, List.setIfInBounds_toArray, List.set_cons_zero, List.set_cons_succ]
            refine take_no (i := 20) (d := 41) rfl rfl (by kernel_rfl) (by kernel_rfl) (by kernel_rfl) (fun _ _ _ h => h) (by kernel_rfl) hHeld ?_
            try simp only [Act.put, List.setIfInBounds_toArray, List.set_cons_zero, List.set_cons_succ]
            refine take_no (i := 21) (d := 42) rfl rfl (by kernel_rfl) (by kernel_rfl) (by kernel_rfl) (fun _ _ _ h => h) (by kernel_rfl) hHeld ?_
            try simp only [Act.put, List.setIfInBounds_toArray, List.set_cons_zero, List.set_cons_succ]
            refine take_no (i := 22) (d := 43) rfl rfl (by kernel_rfl) (by kernel_rfl) (by kernel_rfl) (fun _ _ _ h => h) (by kernel_rfl) hHeld ?_
            try simp only [Act.put, List.setIfInBounds_toArray, List.set_cons_zero, List.set_cons_succ]
            refine take_no (i := 23) (d := 44) rfl rfl (by kernel_rfl) (by kernel_rfl) (by kernel_rfl) (fun _ _ _ h => h) (by kernel_rfl) hHeld ?_
            try simp only [Act.put, List.setIfInBounds_toArray, List.set_cons_zero, List.set_cons_succ]
            refine take_no (i := 24) (d := 45) rfl rfl (by kernel_rfl) (by kernel_rfl) (by kernel_rfl) (fun _ _ _ h => h) (by kernel_rfl) hHeld ?_
            try simp only [Act.put, List.setIfInBounds_toArray, List.set_cons_zero, List.set_cons_succ]
            refine take_yes (i := 25) (d := 46) (v := ?_) rfl rfl (by kernel_rfl) (by kernel_rfl) (by kernel_rfl) (fun _ _ _ h => h) (by kernel_rfl) ?_ hHeld ?_
            rotate_left
            · (intro w hSw; (try dsimp only at hSw); go_simp; try (with_reducible rfl))
            try simp only [Act.put, List.setIfInBounds_toArray, List.set_cons_zero, List.set_cons_succ]
            refine take_yes (i := 26) (d := 47) (v := ?_) rfl rfl (by kernel_rfl) (by kernel_rfl) (by kernel_rfl) (fun _ _ _ h => h) (by kernel_rfl) ?_ hHeld ?_
            rotate_left
            · (intro w hSw; (try dsimp only at hSw); go_simp; try (with_reducible rfl))
            try simp only [Act.put, List.setIfInBounds_toArray, List.set_cons_zero, List.set_cons_succ]
            refine wpAnyH_done (by kernel_rfl) ?_ _
            refine NoPanic.normal ?_
            go_wp2
            go_roundw
            case rel => exact ⟨k + 1, by omega, by go_num, O, oc, n, rfl, by rw [HY.out]; exact HN, by rw [HY.out]; exact (Lib.hid (own_keep HO.out HB1.out)), HBr.out.trans (HB1.out.mono HBr.out.size)⟩
            case measure => simp [intOf]; omega
          · obtain rfl : k = xs.length := by omega
            rw [mayK_all] at HN HO
            go_wp2
            go_ret
            exact ToL.own_ HO.out rfl HN.out (Nat.le_trans may_le HP.out.rm) (fun _ _ => trivial) HBr.out
      · have HPP := Lib.hid (fun (k : Nat) (hk : k < xs.length) => show mayP xs qs xs[k] = decide ((ruleAt xs p).rk < xs[k].rk) by rw [HPO.out, hl, show (qs.length == 6) = false from (beq_eq_false_iff_ne).2 hs]; rfl)
        go_enter Try.func82, Try.ntmps82
        go_wp2
        go_loopw [5, 7] (fun u i wr => ∃ k : Nat, k ≤ xs.length ∧ i = .int .i64 k ∧ ∃ (O : Option Addr) (oc n : Nat), u = .slice O n oc ∧ Hid (n = (mayK (mayP xs qs) xs k).length) ∧ Hid (wr.ownsRow w.heap.size 3 1 (.slice O n oc) n (IntK.row (mayK (mayP xs qs) xs k))) ∧ Below w.heap.size w wr) (fun _ i _ => xs.length - (intOf i).toNat)
        case atStart => exact ⟨0, Nat.zero_le _, rfl, _, _, 0, rfl, rfl, HO1.out, HB1.out⟩
        case round =>
          obtain ⟨k, hk, rfl, O, oc, n, rfl, HN, HO, hB⟩ := hrel
          have HBr := Lib.hid hB
          clear hB
          by_cases hlt : k < xs.length
          · obtain ⟨b, rfl, x0, x1, x2, x3, x4, x5, x6⟩ := rule_at (HP.out.below HBr.out).ra hlt
            have i1 : (k : Int) < (xs.length : Int) := by omega
            have hR := HPP.out k hlt
            have HYY := Lib.hid (mayK_yes (p := mayP xs qs) hlt)
            have HYN := Lib.hid (mayK_no (p := mayP xs qs) hlt)
            obtain ⟨x, hx⟩ : ∃ x, Hid (xs[k] = x) := ⟨_, Lib.hid rfl⟩
            rw [hx.out] at x0 x1 x2 x3 x4 x5 x6 hR HYY HYN
            obtain ⟨a', ha', p0, p1, p2⟩ := question_at (HP.out.below HBr.out).qa (show qs.length - 1 < qs.length by omega)
            obtain rfl : a = a' := by simpa using ha'
            rw [hpp.out] at p0 p1 p2
            clear x1 x3 x4 x5 x6 ha'
            by_cases hc : (ruleAt xs p).rk < x.rk
            · have HY := Lib.hid (HYY.out (hR.trans (decide_eq_true hc)))
              have hg : decide ((ruleAt xs p).rk < x.rk) = true := decide_eq_true hc
              clear hR HYY HYN hc
              go_wp2
              refine wp_region_noPanic ?_
              refine wp_region_held_drew (S := (fun w' => Below wr.heap.size wr w' ∧ w'.cell? (a.add ((qs.length - 1) * 3)) = some (.int .i64 p.r) ∧ w'.cell? ⟨(a.add ((qs.length - 1) * 3)).block, (a.add ((qs.length - 1) * 3)).off + 1, none⟩ = some (.int .i64 p.m) ∧ w'.cell? ⟨(a.add ((qs.length - 1) * 3)).block, (a.add ((qs.length - 1) * 3)).off + 2, none⟩ = some (.bool p.s) ∧ w'.cell? ⟨(b.add (k * 7)).block, (b.add (k * 7)).off + 2, none⟩ = some (.int .i64 x.rk))) (by kernel_rfl) ?_ (fun hHeld => ?_)
              · ((try dsimp only); (first | exact ⟨HB2.out, (HB2.out.cell (World.block_lt_of_cell? _ _ p0)).trans p0, (HB2.out.cell (World.block_lt_of_cell? _ _ p1)).trans p1, (HB2.out.cell (World.block_lt_of_cell? _ _ p2)).trans p2, (HB2.out.cell (World.block_lt_of_cell? _ _ x2)).trans x2⟩ | exact ⟨HB1.out, (HB1.out.cell (World.block_lt_of_cell? _ _ p0)).trans p0, (HB1.out.cell (World.block_lt_of_cell? _ _ p1)).trans p1, (HB1.out.cell (World.block_lt_of_cell? _ _ p2)).trans p2, (HB1.out.cell (World.block_lt_of_cell? _ _ x2)).trans x2⟩ | exact ⟨(Below.refl _ _).drew, p0, p1, p2, x2⟩))
              refine take_yes (i := 0) (d := 21) (v := ?_) rfl rfl (by kernel_rfl) (by kernel_rfl) (by kernel_rfl) (fun _ _ _ h => h) (by kernel_rfl) ?_ hHeld ?_
              rotate_left
              · (intro w hSw; (try dsimp only at hSw); go_simp; try (with_reducible rfl))
              try simp only [Act.put, List.setIfInBounds_toArray, List.set_cons_zero, List.set_cons_succ]
              refine take_yes (i := 1) (d := 22) (v := ?_) rfl rfl (by kernel_rfl) (by kernel_rfl) (by kernel_rfl) (fun _ _ _ h => h) (by kernel_rfl) ?_ hHeld ?_
              rotate_left
              · (intro w hSw; (try dsimp only at hSw); go_simp; try (with_reducible rfl))
              try simp only [Act.put, List.setIfInBounds_toArray, List.set_cons_zero, List.set_cons_succ]
              refine take_yes (i := 2) (d := 23) (v := ?_) rfl rfl (by kernel_rfl) (by kernel_rfl) (by kernel_rfl) (fun _ _ _ h => h) (by kernel_rfl) ?_ hHeld ?_
              rotate_left
              · (intro w hSw; (try dsimp only at hSw); go_simp; try (with_reducible rfl))
              try simp only [Act.put, List.setIfInBounds_toArray, List.set_cons_zero, List.set_cons_succ]
              refine take_yes (i := 3) (d := 24) (v := ?_) rfl rfl (by kernel_rfl) (by kernel_rfl) (by kernel_rfl) (fun _ _ _ h => h) (by kernel_rfl) ?_ hHeld ?_
              rotate_left
              · (intro w hSw; (try dsimp only at hSw); go_simp; try (with_reducible rfl))
              try simp only [Act.put, List.setIfInBounds_toArray, List.set_cons_zero, List.set_cons_succ]
              refine take_yes (i := 4) (d := 25) (v := ?_) rfl rfl (by kernel_rfl) (by kernel_rfl) (by kernel_rfl) (fun _ _ _ h => h) (by kernel_rfl) ?_ hHeld ?_
              rotate_left
              · (intro w hSw; (try dsimp only at hSw); go_simp; try (with_reducible rfl))
              try simp only [Act.put, List.setIfInBounds_toArray, List.set_cons_zero, List.set_cons_succ]
              refine take_yes (i := 5) (d := 26) (v := ?_) rfl rfl (by kernel_rfl) (by kernel_rfl) (by kernel_rfl) (fun _ _ _ h => h) (by kernel_rfl) ?_ hHeld ?_
              rotate_left
              · (intro w hSw; (try dsimp only at hSw); go_simp; try (with_reducible rfl))
              try simp only [Act.put, List.setIfInBounds_toArray, List.set_cons_zero, List.set_cons_succ]
              refine take_yes (i := 6) (d := 27) (v := ?_) rfl rfl (by kernel_rfl) (by kernel_rfl) (by kernel_rfl) (fun _ _ _ h => h) (by kernel_rfl) ?_ hHeld ?_
              rotate_left
              · (intro w hSw; (try dsimp only at hSw); go_simp; try (with_reducible rfl))
              try simp only [Act.put, List.setIfInBounds_toArray, List.set_cons_zero, List.set_cons_succ]
              refine take_yes (i := 7) (d := 28) (v := ?_) rfl rfl (by kernel_rfl) (by kernel_rfl) (by kernel_rfl) (fun _ _ _ h => h) (by kernel_rfl) ?_ hHeld ?_
              rotate_left
              · (intro w hSw; (try dsimp only at hSw); go_simp; try (with_reducible rfl))
              try simp only [Act.put, List.setIfInBounds_toArray, List.set_cons_zero, List.set_cons_succ]
              refine take_yes (i := 8) (d := 29) (v := ?_) rfl rfl (by kernel_rfl) (by kernel_rfl) (by kernel_rfl) (fun _ _ _ h => h) (by kernel_rfl) ?_ hHeld ?_
              rotate_left
              · (intro w hSw; (try dsimp only at hSw); go_simp; try (with_reducible rfl))
              try simp only [Act.put, List.setIfInBounds_toArray, List.set_cons_zero, List.set_cons_succ]
              refine wpAnyH_ready (rs := [9]) (by kernel_rfl) (by simp) ?_
              refine AllReadyH.cons rfl (fun K hK => ?_) AllReadyH.nil
              go_simp
              (go_at_call 74; refine (l7Lacks_at (some b) c xs p _ ((HP.out.below (HBr.out)).ra.below (below_drewN (Below.refl wr.heap.size wr) 1)) HP.out.rm HIX.out).mono ?_; rintro e w4 ⟨rfl, hb⟩; rw [hl]; have HB1 := Lib.hid ((below_drewN (Below.refl wr.heap.size wr) 1).trans hb); clear hb)
              (first | refine hK.out _ _ ?_ (fun hHeld1 => ?_) | (go_wp2_with fail; refine hK.out _ _ ?_ (fun hHeld1 => ?_)))
              · ((try dsimp only); (first | exact ⟨HB2.out, (HB2.out.cell (World.block_lt_of_cell? _ _ p0)).trans p0, (HB2.out.cell (World.block_lt_of_cell? _ _ p1)).trans p1, (HB2.out.cell (World.block_lt_of_cell? _ _ p2)).trans p2, (HB2.out.cell (World.block_lt_of_cell? _ _ x2)).trans x2⟩ | exact ⟨HB1.out, (HB1.out.cell (World.block_lt_of_cell? _ _ p0)).trans p0, (HB1.out.cell (World.block_lt_of_cell? _ _ p1)).trans p1, (HB1.out.cell (World.block_lt_of_cell? _ _ p2)).trans p2, (HB1.out.cell (World.block_lt_of_cell? _ _ x2)).trans x2⟩ | exact ⟨(Below.refl _ _).drew, p0, p1, p2, x2⟩))
              clear hK K hHeld
              have hHeld := hHeld1
              clear hHeld1
              try simp only [Act.put, List.setIfInBounds_toArray, List.set_cons_zero, List.set_cons_succ]
              refine take_yes (i := 10) (d := 31) (v := ?_) rfl rfl (by kernel_rfl) (by kernel_rfl) (by kernel_rfl) (fun _ _ _ h => h) (by kernel_rfl) ?_ hHeld ?_
              rotate_left
              · (intro w hSw; (try dsimp only at hSw); go_simp; try (with_reducible rfl))
              try simp only [Act.put, List.setIfInBounds_toArray, List.set_cons_zero, List.set_cons_succ]
              refine take_yes (i := 11) (d := 32) (v := ?_) rfl rfl (by kernel_rfl) (by kernel_rfl) (by kernel_rfl) (fun _ _ _ h => h) (by kernel_rfl) ?_ hHeld ?_
              rotate_left
              · (intro w hSw; (try dsimp only at hSw); go_simp; try (with_reducible rfl))
              try simp only [Act.put, List.setIfInBounds_toArray, List.set_cons_zero, List.set_cons_succ]
              refine take_yes (i := 12) (d := 33) (v := ?_) rfl rfl (by kernel_rfl) (by kernel_rfl) (by kernel_rfl) (fun _ _ _ h => h) (by kernel_rfl) ?_ hHeld ?_
              rotate_left
              · (intro w hSw; (try dsimp only at hSw); go_simp; try (with_reducible rfl))
              try simp only [Act.put, List.setIfInBounds_toArray, List.set_cons_zero, List.set_cons_succ]
              refine take_yes (i := 13) (d := 34) (v := ?_) rfl rfl (by kernel_rfl) (by kernel_rfl) (by kernel_rfl) (fun _ _ _ h => h) (by kernel_rfl) ?_ hHeld ?_
              rotate_left
              · (intro w hSw; (try dsimp only at hSw); go_simp; try (with_reducible rfl))
              try simp only [Act.put, List.setIfInBounds_toArray, List.set_cons_zero, List.set_cons_succ]
              refine take_yes (i := 14) (d := 35) (v := ?_) rfl rfl (by kernel_rfl) (by kernel_rfl) (by kernel_rfl) (fun _ _ _ h => h) (by kernel_rfl) ?_ hHeld ?_
              rotate_left
              · (intro w hSw; (try dsimp only at hSw); go_simp; try (with_reducible rfl))
              try simp only [Act.put, List.setIfInBounds_toArray, List.set_cons_zero, List.set_cons_succ]
              refine take_yes (i := 15) (d := 36) (v := ?_) rfl rfl (by kernel_rfl) (by kernel_rfl) (by kernel_rfl) (fun _ _ _ h => h) (by kernel_rfl) ?_ hHeld ?_
              rotate_left
              · (intro w hSw; (try dsimp only at hSw); go_simp; try (with_reducible rfl))
              try simp only [Act.put, List.setIfInBounds_toArray, List.set_cons_zero, List.set_cons_succ]
              refine take_yes (i := 16) (d := 37) (v := ?_) rfl rfl (by kernel_rfl) (by kernel_rfl) (by kernel_rfl) (fun _ _ _ h => h) (by kernel_rfl) ?_ hHeld ?_
              rotate_left
              · (intro w hSw; (try dsimp only at hSw); go_simp; try (with_reducible rfl))
              try simp only [Act.put, List.setIfInBounds_toArray, List.set_cons_zero, List.set_cons_succ]
              refine take_yes (i := 17) (d := 38) (v := ?_) rfl rfl (by kernel_rfl) (by kernel_rfl) (by kernel_rfl) (fun _ _ _ h => h) (by kernel_rfl) ?_ hHeld ?_
              rotate_left
              · (intro w hSw; (try dsimp only at hSw); go_simp; try (with_reducible rfl))
              try simp only [Act.put, List.setIfInBounds_toArray, List.set_cons_zero, List.set_cons_succ]
              refine take_yes (i := 18) (d := 39) (v := ?_) rfl rfl (by kernel_rfl) (by kernel_rfl) (by kernel_rfl) (fun _ _ _ h => h) (by kernel_rfl) ?_ hHeld ?_
              rotate_left
              · (intro w hSw; (try dsimp only at hSw); go_simp; try (with_reducible rfl))
              try simp only [Act.put, List.setIfInBounds_toArray, List.set_cons_zero, List.set_cons_succ]
              refine take_yes (i := 19) (d := 40) (v := ?_) rfl rfl (by kernel_rfl) (by kernel_rfl) (by kernel_rfl) (fun _ _ _ h => h) (by kernel_rfl) ?_ hHeld ?_
              rotate_left
              · (intro w hSw; (try dsimp only at hSw); go_simp; try (with_reducible rfl))
              try simp only [Act.put, List.setIfInBounds_toArray, List.set_cons_zero, List.set_cons_succ]
              refine take_yes (i := 20) (d := 41) (v := ?_) rfl rfl (by kernel_rfl) (by kernel_rfl) (by kernel_rfl) (fun _ _ _ h => h) (by kernel_rfl) ?_ hHeld ?_
              rotate_left
              · (intro w hSw; (try dsimp only at hSw); go_simp; try (with_reducible rfl))
              try simp only [Act.put, List.setIfInBounds_toArray, List.set_cons_zero, List.set_cons_succ]
              refine take_yes (i := 21) (d := 42) (v := ?_) rfl rfl (by kernel_rfl) (by kernel_rfl) (by kernel_rfl) (fun _ _ _ h => h) (by kernel_rfl) ?_ hHeld ?_
              rotate_left
              · (intro w hSw; (try dsimp only at hSw); go_simp; try (with_reducible rfl))
              try simp only [Act.put, List.setIfInBounds_toArray, List.set_cons_zero, List.set_cons_succ]
              refine take_yes (i := 22) (d := 43) (v := ?_) rfl rfl (by kernel_rfl) (by kernel_rfl) (by kernel_rfl) (fun _ _ _ h => h) (by kernel_rfl) ?_ hHeld ?_
              rotate_left
              · (intro w hSw; (try dsimp only at hSw); go_simp; try (with_reducible rfl))
              try simp only [Act.put, List.setIfInBounds_toArray, List.set_cons_zero, List.set_cons_succ]
              refine wpAnyH_ready (rs := [23]) (by kernel_rfl) (by simp) ?_
              refine AllReadyH.cons rfl (fun K hK => ?_) AllReadyH.nil
              go_simp
              (go_at_call 124; refine (l7Rank_at (some b) c xs p _ ((HP.out.below HBr.out).ra.below HB1.out) HP.out.rm HIX.out).mono ?_; rintro e w5 ⟨rfl, hb⟩; have HB2 := Lib.hid (HB1.out.trans (hb.mono HB1.out.size)); clear hb)
              (first | refine hK.out _ _ ?_ (fun hHeld1 => ?_) | (go_wp2_with fail; refine hK.out _ _ ?_ (fun hHeld1 => ?_)))
              · ((try dsimp only); (first | exact ⟨HB2.out, (HB2.out.cell (World.block_lt_of_cell? _ _ p0)).trans p0, (HB2.out.cell (World.block_lt_of_cell? _ _ p1)).trans p1, (HB2.out.cell (World.block_lt_of_cell? _ _ p2)).trans p2, (HB2.out.cell (World.block_lt_of_cell? _ _ x2)).trans x2⟩ | exact ⟨HB1.out, (HB1.out.cell (World.block_lt_of_cell? _ _ p0)).trans p0, (HB1.out.cell (World.block_lt_of_cell? _ _ p1)).trans p1, (HB1.out.cell (World.block_lt_of_cell? _ _ p2)).trans p2, (HB1.out.cell (World.block_lt_of_cell? _ _ x2)).trans x2⟩ | exact ⟨(Below.refl _ _).drew, p0, p1, p2, x2⟩))
              clear hK K hHeld
              have hHeld := hHeld1
              clear hHeld1
              try simp only [Act.put, List.setIfInBounds_toArray, List.set_cons_zero, List.set_cons_succ]
              refine take_yes (i := 24) (d := 45) (v := ?_) rfl rfl (by kernel_rfl) (by kernel_rfl) (by kernel_rfl) (fun _ _ _ h => h) (by kernel_rfl) ?_ hHeld ?_
              rotate_left
              · (intro w hSw; (try dsimp only at hSw); go_simp; try (with_reducible rfl))
              try simp only [Act.put, List.setIfInBounds_toArray, List.set_cons_zero, List.set_cons_succ]
              refine take_yes (i := 25) (d := 46) (v := ?_) rfl rfl (by kernel_rfl) (by kernel_rfl) (by kernel_rfl) (fun _ _ _ h => h) (by kernel_rfl) ?_ hHeld ?_
              rotate_left
              · (intro w hSw; (try dsimp only at hSw); go_simp; try (with_reducible rfl))
              try simp only [Act.put, List.setIfInBounds_toArray, List.set_cons_zero, List.set_cons_succ]
              refine take_yes (i := 26) (d := 47) (v := ?_) rfl rfl (by kernel_rfl) (by kernel_rfl) (by kernel_rfl) (fun _ _ _ h => h) (by kernel_rfl) ?_ hHeld ?_
              rotate_left
              · (intro w hSw; (try dsimp only at hSw); go_simp; try (with_reducible rfl))
              try simp only [Act.put, List.setIfInBounds_toArray, List.set_cons_zero, List.set_cons_succ]
              refine wpAnyH_done (by kernel_rfl) ?_ _
              refine NoPanic.normal ?_
              have x0 := (HB2.out.cell (World.block_lt_of_cell? _ _ x0)).trans x0
              have HX := Lib.hid (HBr.out.trans (HB2.out.mono HBr.out.size))
              have HOX := Lib.hid (own_keep HO.out HB2.out)
              go_wp2_with (at_builtin; go_must (refine list_append elInt _ rfl _ _ rfl w.heap.size O _ oc n 1 1 (IntK.row (mayK (mayP xs qs) xs k)) (IntK.row [x.id]) rfl rfl rfl (own_keep HOX.out ((Below.refl _ _).alloc (Nat.le_refl _) _)) (cells_one _ _ _ _ (by simp)) int_one (by have hsx := HX.out.size; first | omega | (simp at hsx ⊢; omega)) (by have h1 := mayK_le (mayP xs qs) xs k; have h2 := HN.out; omega) ?_); intro O2 oc2 w4 own hb; have HO4 := Lib.hid own; have HB4 := Lib.hid (HX.out.trans ((((Below.refl _ _).alloc (Nat.le_refl _) _).mono HX.out.size).trans hb)); clear own hb)
              go_roundw
              case rel => exact ⟨k + 1, by omega, by go_num, O2, oc2, n + 1, rfl, by rw [HY.out, List.length_append, ← HN.out]; rfl, by rw [HY.out, IntK.row_append]; exact HO4, HB4.out⟩
              case measure => simp [intOf]; omega
            · have HY := Lib.hid (HYN.out (hR.trans (decide_eq_false hc)))
              have hg : decide ((ruleAt xs p).rk < x.rk) = false := decide_eq_false hc
              clear hR HYY HYN hc
              go_wp2
              refine wp_region_noPanic ?_
              refine wp_region_held_drew (S := (fun w' => Below wr.heap.size wr w' ∧ w'.cell? (a.add ((qs.length - 1) * 3)) = some (.int .i64 p.r) ∧ w'.cell? ⟨(a.add ((qs.length - 1) * 3)).block, (a.add ((qs.length - 1) * 3)).off + 1, none⟩ = some (.int .i64 p.m) ∧ w'.cell? ⟨(a.add ((qs.length - 1) * 3)).block, (a.add ((qs.length - 1) * 3)).off + 2, none⟩ = some (.bool p.s) ∧ w'.cell? ⟨(b.add (k * 7)).block, (b.add (k * 7)).off + 2, none⟩ = some (.int .i64 x.rk))) (by kernel_rfl) ?_ (fun hHeld => ?_)
              · ((try dsimp only); (first | exact ⟨HB2.out, (HB2.out.cell (World.block_lt_of_cell? _ _ p0)).trans p0, (HB2.out.cell (World.block_lt_of_cell? _ _ p1)).trans p1, (HB2.out.cell (World.block_lt_of_cell? _ _ p2)).trans p2, (HB2.out.cell (World.block_lt_of_cell? _ _ x2)).trans x2⟩ | exact ⟨HB1.out, (HB1.out.cell (World.block_lt_of_cell? _ _ p0)).trans p0, (HB1.out.cell (World.block_lt_of_cell? _ _ p1)).trans p1, (HB1.out.cell (World.block_lt_of_cell? _ _ p2)).trans p2, (HB1.out.cell (World.block_lt_of_cell? _ _ x2)).trans x2⟩ | exact ⟨(Below.refl _ _).drew, p0, p1, p2, x2⟩))
              refine take_yes (i := 0) (d := 21) (v := ?_) rfl rfl (by kernel_rfl) (by kernel_rfl) (by kernel_rfl) (fun _ _ _ h => h) (by kernel_rfl) ?_ hHeld ?_
              rotate_left
              · (intro w hSw; (try dsimp only at hSw); go_simp; try (with_reducible rfl))
              try simp only [Act.put, List.setIfInBounds_toArray, List.set_cons_zero, List.set_cons_succ]
              refine take_yes (i := 1) (d := 22) (v := ?_) rfl rfl (by kernel_rfl) (by kernel_rfl) (by kernel_rfl) (fun _ _ _ h => h) (by kernel_rfl) ?_ hHeld ?_
              rotate_left
              · (intro w hSw; (try dsimp only at hSw); go_simp; try (with_reducible rfl))
              try simp only [Act.put, List.setIfInBounds_toArray, List.set_cons_zero, List.set_cons_succ]
              refine take_yes (i := 2) (d := 23) (v := ?_) rfl rfl (by kernel_rfl) (by kernel_rfl) (by kernel_rfl) (fun _ _ _ h => h) (by kernel_rfl) ?_ hHeld ?_
              rotate_left
              · (intro w hSw; (try dsimp only at hSw); go_simp; try (with_reducible rfl))
              try simp only [Act.put, List.setIfInBounds_toArray, List.set_cons_zero, List.set_cons_succ]
              refine take_yes (i := 3) (d := 24) (v := ?_) rfl rfl (by kernel_rfl) (by kernel_rfl) (by kernel_rfl) (fun _ _ _ h => h) (by kernel_rfl) ?_ hHeld ?_
              rotate_left
              · (intro w hSw; (try dsimp only at hSw); go_simp; try (with_reducible rfl))
              try simp only [Act.put, List.setIfInBounds_toArray, List.set_cons_zero, List.set_cons_succ]
              refine take_yes (i := 4) (d := 25) (v := ?_) rfl rfl (by kernel_rfl) (by kernel_rfl) (by kernel_rfl) (fun _ _ _ h => h) (by kernel_rfl) ?_ hHeld ?_
              rotate_left
              · (intro w hSw; (try dsimp only at hSw); go_simp; try (with_reducible rfl))
              try simp only [Act.put, List.setIfInBounds_toArray, List.set_cons_zero, List.set_cons_succ]
              refine take_yes (i := 5) (d := 26) (v := ?_) rfl rfl (by kernel_rfl) (by kernel_rfl) (by kernel_rfl) (fun _ _ _ h => h) (by kernel_rfl) ?_ hHeld ?_
              rotate_left
              · (intro w hSw; (try dsimp only at hSw); go_simp; try (with_reducible rfl))
              try simp only [Act.put, List.setIfInBounds_toArray, List.set_cons_zero, List.set_cons_succ]
              refine take_yes (i := 6) (d := 27) (v := ?_) rfl rfl (by kernel_rfl) (by kernel_rfl) (by kernel_rfl) (fun _ _ _ h => h) (by kernel_rfl) ?_ hHeld ?_
              rotate_left
              · (intro w hSw; (try dsimp only at hSw); go_simp; try (with_reducible rfl))
              try simp only [Act.put, List.setIfInBounds_toArray, List.set_cons_zero, List.set_cons_succ]
              refine take_yes (i := 7) (d := 28) (v := ?_) rfl rfl (by kernel_rfl) (by kernel_rfl) (by kernel_rfl) (fun _ _ _ h => h) (by kernel_rfl) ?_ hHeld ?_
              rotate_left
              · (intro w hSw; (try dsimp only at hSw); go_simp; try (with_reducible rfl))
              try simp only [Act.put, List.setIfInBounds_toArray, List.set_cons_zero, List.set_cons_succ]
              refine take_yes (i := 8) (d := 29) (v := ?_) rfl rfl (by kernel_rfl) (by kernel_rfl) (by kernel_rfl) (fun _ _ _ h => h) (by kernel_rfl) ?_ hHeld ?_
              rotate_left
              · (intro w hSw; (try dsimp only at hSw); go_simp; try (with_reducible rfl))
              try simp only [Act.put, List.setIfInBounds_toArray, List.set_cons_zero, List.set_cons_succ]
              refine wpAnyH_ready (rs := [9]) (by kernel_rfl) (by simp) ?_
              refine AllReadyH.cons rfl (fun K hK => ?_) AllReadyH.nil
              go_simp
              (go_at_call 74; refine (l7Lacks_at (some b) c xs p _ ((HP.out.below (HBr.out)).ra.below (below_drewN (Below.refl wr.heap.size wr) 1)) HP.out.rm HIX.out).mono ?_; rintro e w4 ⟨rfl, hb⟩; rw [hl]; have HB1 := Lib.hid ((below_drewN (Below.refl wr.heap.size wr) 1).trans hb); clear hb)
              (first | refine hK.out _ _ ?_ (fun hHeld1 => ?_) | (go_wp2_with fail; refine hK.out _ _ ?_ (fun hHeld1 => ?_)))
              · ((try dsimp only); (first | exact ⟨HB2.out, (HB2.out.cell (World.block_lt_of_cell? _ _ p0)).trans p0, (HB2.out.cell (World.block_lt_of_cell? _ _ p1)).trans p1, (HB2.out.cell (World.block_lt_of_cell? _ _ p2)).trans p2, (HB2.out.cell (World.block_lt_of_cell? _ _ x2)).trans x2⟩ | exact ⟨HB1.out, (HB1.out.cell (World.block_lt_of_cell? _ _ p0)).trans p0, (HB1.out.cell (World.block_lt_of_cell? _ _ p1)).trans p1, (HB1.out.cell (World.block_lt_of_cell? _ _ p2)).trans p2, (HB1.out.cell (World.block_lt_of_cell? _ _ x2)).trans x2⟩ | exact ⟨(Below.refl _ _).drew, p0, p1, p2, x2⟩))
              clear hK K hHeld
              have hHeld := hHeld1
              clear hHeld1
              try simp only [Act.put, List.setIfInBounds_toArray, List.set_cons_zero, List.set_cons_succ]
              refine take_yes (i := 10) (d := 31) (v := ?_) rfl rfl (by kernel_rfl) (by kernel_rfl) (by kernel_rfl) (fun _ _ _ h => h) (by kernel_rfl) ?_ hHeld ?_
              rotate_left
              · (intro w hSw; (try dsimp only at hSw); go_simp; try (with_reducible rfl))
              try simp only [Act.put, List.setIfInBounds_toArray, List.set_cons_zero, List.set_cons_succ]
              refine take_yes (i := 11) (d := 32) (v := ?_) rfl rfl (by kernel_rfl) (by kernel_rfl) (by kernel_rfl) (fun _ _ _ h => h) (by kernel_rfl) ?_ hHeld ?_
              rotate_left
              · (intro w hSw; (try dsimp only at hSw); go_simp; try (with_reducible rfl))
              try simp only [Act.put, List.setIfInBounds_toArray, List.set_cons_zero, List.set_cons_succ]
              refine take_yes (i := 12) (d := 33) (v := ?_) rfl rfl (by kernel_rfl) (by kernel_rfl) (by kernel_rfl) (fun _ _ _ h => h) (by kernel_rfl) ?_ hHeld ?_
              rotate_left
              · (intro w hSw; (try dsimp only at hSw); go_simp; try (with_reducible rfl))
              try simp only [Act.put, List.setIfInBounds_toArray, List.set_cons_zero, List.set_cons_succ]
              refine take_yes (i := 13) (d := 34) (v := ?_) rfl rfl (by kernel_rfl) (by kernel_rfl) (by kernel_rfl) (fun _ _ _ h => h) (by kernel_rfl) ?_ hHeld ?_
              rotate_left
              · (intro w hSw; (try dsimp only at hSw); go_simp; try (with_reducible rfl))
              try simp only [Act.put, List.setIfInBounds_toArray, List.set_cons_zero, List.set_cons_succ]
              refine take_yes (i := 14) (d := 35) (v := ?_) rfl rfl (by kernel_rfl) (by kernel_rfl) (by kernel_rfl) (fun _ _ _ h => h) (by kernel_rfl) ?_ hHeld ?_
              rotate_left
              · (intro w hSw; (try dsimp only at hSw); go_simp; try (with_reducible rfl))
              try simp only [Act.put, List.setIfInBounds_toArray, List.set_cons_zero, List.set_cons_succ]
              refine take_yes (i := 15) (d := 36) (v := ?_) rfl rfl (by kernel_rfl) (by kernel_rfl) (by kernel_rfl) (fun _ _ _ h => h) (by kernel_rfl) ?_ hHeld ?_
              rotate_left
              · (intro w hSw; (try dsimp only at hSw); go_simp; try (with_reducible rfl))
              try simp only [Act.put, List.setIfInBounds_toArray, List.set_cons_zero, List.set_cons_succ]
              refine take_yes (i := 16) (d := 37) (v := ?_) rfl rfl (by kernel_rfl) (by kernel_rfl) (by kernel_rfl) (fun _ _ _ h => h) (by kernel_rfl) ?_ hHeld ?_
              rotate_left
              · (intro w hSw; (try dsimp only at hSw); go_simp; try (with_reducible rfl))
              try simp only [Act.put, List.setIfInBounds_toArray, List.set_cons_zero, List.set_cons_succ]
              refine take_yes (i := 17) (d := 38) (v := ?_) rfl rfl (by kernel_rfl) (by kernel_rfl) (by kernel_rfl) (fun _ _ _ h => h) (by kernel_rfl) ?_ hHeld ?_
              rotate_left
              · (intro w hSw; (try dsimp only at hSw); go_simp; try (with_reducible rfl))
              try simp only [Act.put, List.setIfInBounds_toArray, List.set_cons_zero, List.set_cons_succ]
              refine take_yes (i := 18) (d := 39) (v := ?_) rfl rfl (by kernel_rfl) (by kernel_rfl) (by kernel_rfl) (fun _ _ _ h => h) (by kernel_rfl) ?_ hHeld ?_
              rotate_left
              · (intro w hSw; (try dsimp only at hSw); go_simp; try (with_reducible rfl))
              try simp only [Act.put, List.setIfInBounds_toArray, List.set_cons_zero, List.set_cons_succ]
              refine take_yes (i := 19) (d := 40) (v := ?_) rfl rfl (by kernel_rfl) (by kernel_rfl) (by kernel_rfl) (fun _ _ _ h => h) (by kernel_rfl) ?_ hHeld ?_
              rotate_left
              · (intro w hSw; (try dsimp only at hSw); go_simp; try (with_reducible rfl))
              try simp only [Act.put, List.setIfInBounds_toArray, List.set_cons_zero, List.set_cons_succ]
              refine take_yes (i := 20) (d := 41) (v := ?_) rfl rfl (by kernel_rfl) (by kernel_rfl) (by kernel_rfl) (fun _ _ _ h => h) (by kernel_rfl) ?_ hHeld ?_
              rotate_left
              · (intro w hSw; (try dsimp only at hSw); go_simp; try (with_reducible rfl))
              try simp only [Act.put, List.setIfInBounds_toArray, List.set_cons_zero, List.set_cons_succ]
              refine take_yes (i := 21) (d := 42) (v := ?_) rfl rfl (by kernel_rfl) (by kernel_rfl) (by kernel_rfl) (fun _ _ _ h => h) (by kernel_rfl) ?_ hHeld ?_
              rotate_left
              · (intro w hSw; (try dsimp only at hSw); go_simp; try (with_reducible rfl))
              try simp only [Act.put, List.setIfInBounds_toArray, List.set_cons_zero, List.set_cons_succ]
              refine take_yes (i := 22) (d := 43) (v := ?_) rfl rfl (by kernel_rfl) (by kernel_rfl) (by kernel_rfl) (fun _ _ _ h => h) (by kernel_rfl) ?_ hHeld ?_
              rotate_left
              · (intro w hSw; (try dsimp only at hSw); go_simp; try (with_reducible rfl))
              try simp only [Act.put, List.setIfInBounds_toArray, List.set_cons_zero, List.set_cons_succ]
              refine wpAnyH_ready (rs := [23]) (by kernel_rfl) (by simp) ?_
              refine AllReadyH.cons rfl (fun K hK => ?_) AllReadyH.nil
              go_simp
              (go_at_call 124; refine (l7Rank_at (some b) c xs p _ ((HP.out.below HBr.out).ra.below HB1.out) HP.out.rm HIX.out).mono ?_; rintro e w5 ⟨rfl, hb⟩; have HB2 := Lib.hid (HB1.out.trans (hb.mono HB1.out.size)); clear hb)
              (first | refine hK.out _ _ ?_ (fun hHeld1 => ?_) | (go_wp2_with fail; refine hK.out _ _ ?_ (fun hHeld1 => ?_)))
              · ((try dsimp only); (first | exact ⟨HB2.out, (HB2.out.cell (World.block_lt_of_cell? _ _ p0)).trans p0, (HB2.out.cell (World.block_lt_of_cell? _ _ p1)).trans p1, (HB2.out.cell (World.block_lt_of_cell? _ _ p2)).trans p2, (HB2.out.cell (World.block_lt_of_cell? _ _ x2)).trans x2⟩ | exact ⟨HB1.out, (HB1.out.cell (World.block_lt_of_cell? _ _ p0)).trans p0, (HB1.out.cell (World.block_lt_of_cell? _ _ p1)).trans p1, (HB1.out.cell (World.block_lt_of_cell? _ _ p2)).trans p2, (HB1.out.cell (World.block_lt_of_cell? _ _ x2)).trans x2⟩ | exact ⟨(Below.refl _ _).drew, p0, p1, p2, x2⟩))
              clear hK K hHeld
              have hHeld := hHeld1
              clear hHeld1
              try simp only [Act.put, List.setIfInBounds_toArray, List.set_cons_zero, List.set_cons_succ]
              refine take_yes (i := 24) (d := 45) (v := ?_) rfl rfl (by kernel_rfl) (by kernel_rfl) (by kernel_rfl) (fun _ _ _ h => h) (by kernel_rfl) ?_ hHeld ?_
              rotate_left
              · (intro w hSw; (try dsimp only at hSw); go_simp; try (with_reducible rfl))
              try simp only [Act.put, List.setIfInBounds_toArray, List.set_cons_zero, List.set_cons_succ]
              refine take_yes (i := 25) (d := 46) (v := ?_) rfl rfl (by kernel_rfl) (by kernel_rfl) (by kernel_rfl) (fun _ _ _ h => h) (by kernel_rfl) ?_ hHeld ?_
              rotate_left
              · (intro w hSw; (try dsimp only at hSw); go_simp; try (with_reducible rfl))
              try simp only [Act.put, List.setIfInBounds_toArray, List.set_cons_zero, List.set_cons_succ]
              refine take_yes (i := 26) (d := 47) (v := ?_) rfl rfl (by kernel_rfl) (by kernel_rfl) (by kernel_rfl) (fun _ _ _ h => h) (by kernel_rfl) ?_ hHeld ?_
              rotate_left
              · (intro w hSw; (try dsimp only at hSw); go_simp; try (with_reducible rfl))
              try simp only [Act.put, List.setIfInBounds_toArray, List.set_cons_zero, List.set_cons_succ]
              refine wpAnyH_done (by kernel_rfl) ?_ _
              refine NoPanic.normal ?_
              go_wp2
              go_roundw
              case rel => exact ⟨k + 1, by omega, by go_num, O, oc, n, rfl, by rw [HY.out]; exact HN, by rw [HY.out]; exact (Lib.hid (own_keep HO.out HB2.out)), HBr.out.trans (HB2.out.mono HBr.out.size)⟩
              case measure => simp [intOf]; omega
          · obtain rfl : k = xs.length := by omega
            rw [mayK_all] at HN HO
            go_wp2
            go_ret
            exact ToL.own_ HO.out rfl HN.out (Nat.le_trans may_le HP.out.rm) (fun _ _ => trivial) HBr.out
  · have h1 : qs.length = 0 := by omega
    have HPP := Lib.hid (fun (k : Nat) (hk : k < xs.length) => mayP_nil (xs := xs) h1 xs[k])
    clear hp h0 h6 hqm
    obtain rfl : qs = [] := List.eq_nil_of_length_eq_zero h1
    clear h1
    simp only [List.length_nil]
    go_enter Try.func82, Try.ntmps82
    go_wp2
    go_loopw [5, 7] (fun u i wr => ∃ k : Nat, k ≤ xs.length ∧ i = .int .i64 k ∧ ∃ (O : Option Addr) (oc n : Nat), u = .slice O n oc ∧ Hid (n = (mayK (mayP xs []) xs k).length) ∧ Hid (wr.ownsRow w.heap.size 3 1 (.slice O n oc) n (IntK.row (mayK (mayP xs []) xs k))) ∧ Below w.heap.size w wr) (fun _ i _ => xs.length - (intOf i).toNat)
    case atStart => exact ⟨0, Nat.zero_le _, rfl, _, _, 0, rfl, rfl, HO1.out, HB1.out⟩
    case round =>
      obtain ⟨k, hk, rfl, O, oc, n, rfl, HN, HO, hB⟩ := hrel
      have HBr := Lib.hid hB
      clear hB
      by_cases hlt : k < xs.length
      · obtain ⟨b, rfl, x0, x1, x2, x3, x4, x5, x6⟩ := rule_at (HP.out.below HBr.out).ra hlt
        have i1 : (k : Int) < (xs.length : Int) := by omega
        have hR := HPP.out k hlt
        have HYY := Lib.hid (mayK_yes (p := mayP xs []) hlt)
        have HYN := Lib.hid (mayK_no (p := mayP xs []) hlt)
        obtain ⟨x, hx⟩ : ∃ x, Hid (xs[k] = x) := ⟨_, Lib.hid rfl⟩
        rw [hx.out] at x0 x1 x2 x3 x4 x5 x6 hR HYY HYN
        have HY := Lib.hid (HYY.out hR)
        clear hR HYY HYN x1 x2 x3 x4 x5 x6
        go_wp2
        refine wp_region_noPanic ?_
        refine wp_region_held_drew (S := (fun w' => Below wr.heap.size wr w')) (by kernel_rfl) ?_ (fun hHeld => ?_)
        · ((try dsimp only); (exact (Below.refl _ _).drew))
        refine take_yes (i := 0) (d := 21) (v := ?_) rfl rfl (by kernel_rfl) (by kernel_rfl) (by kernel_rfl) (fun _ _ _ h => h) (by kernel_rfl) ?_ hHeld ?_
        rotate_left
        · (intro w hSw; (try dsimp only at hSw); go_simp; try (with_reducible rfl))
        try simp only [Act.put, List.setIfInBounds_toArray, List.set_cons_zero, List.set_cons_succ]
        refine take_yes (i := 1) (d := 22) (v := ?_) rfl rfl (by kernel_rfl) (by kernel_rfl) (by kernel_rfl) (fun _ _ _ h => h) (by kernel_rfl) ?_ hHeld ?_
        rotate_left
        · (intro w hSw; (try dsimp only at hSw); go_simp; try (with_reducible rfl))
        try simp only [Act.put, List.setIfInBounds_toArray, List.set_cons_zero, List.set_cons_succ]
        refine take_yes (i := 2) (d := 23) (v := ?_) rfl rfl (by kernel_rfl) (by kernel_rfl) (by kernel_rfl) (fun _ _ _ h => h) (by kernel_rfl) ?_ hHeld ?_
        rotate_left
        · (intro w hSw; (try dsimp only at hSw); go_simp; try (with_reducible rfl))
        try simp only [Act.put, List.setIfInBounds_toArray, List.set_cons_zero, List.set_cons_succ]
        refine take_no (i := 3) (d := 24) rfl rfl (by kernel_rfl) (by kernel_rfl) (by kernel_rfl) (fun _ _ _ h => h) (by kernel_rfl) hHeld ?_
        try simp only [Act.put, List.setIfInBounds_toArray, List.set_cons_zero, List.set_cons_succ]
        refine take_no (i := 4) (d := 25) rfl rfl (by kernel_rfl) (by kernel_rfl) (by kernel_rfl) (fun _ _ _ h => h) (by kernel_rfl) hHeld ?_
        try simp only [Act.put, List.setIfInBounds_toArray, List.set_cons_zero, List.set_cons_succ]
        refine take_no (i := 5) (d := 26) rfl rfl (by kernel_rfl) (by kernel_rfl) (by kernel_rfl) (fun _ _ _ h => h) (by kernel_rfl) hHeld ?_
        try simp only [Act.put, List.setIfInBounds_toArray, List.set_cons_zero, List.set_cons_succ]
        refine take_no (i := 6) (d := 27) rfl rfl (by kernel_rfl) (by kernel_rfl) (by kernel_rfl) (fun _ _ _ h => h) (by kernel_rfl) hHeld ?_
        try simp only [Act.put, List.setIfInBounds_toArray, List.set_cons_zero, List.set_cons_succ]
        refine take_no (i := 7) (d := 28) rfl rfl (by kernel_rfl) (by kernel_rfl) (by kernel_rfl) (fun _ _ _ h => h) (by kernel_rfl) hHeld ?_
        try simp only [Act.put, List.setIfInBounds_toArray, List.set_cons_zero, List.set_cons_succ]
        refine take_no (i := 8) (d := 29) rfl rfl (by kernel_rfl) (by kernel_rfl) (by kernel_rfl) (fun _ _ _ h => h) (by kernel_rfl) hHeld ?_
        try simp only [Act.put, List.setIfInBounds_toArray, List.set_cons_zero, List.set_cons_succ]
        refine take_no (i := 9) (d := 30) rfl rfl (by kernel_rfl) (by kernel_rfl) (by kernel_rfl) (fun _ _ _ h => h) (by kernel_rfl) hHeld ?_
        try simp only [Act.put, List.setIfInBounds_toArray, List.set_cons_zero, List.set_cons_succ]
        refine take_no (i := 10) (d := 31) rfl rfl (by kernel_rfl) (by kernel_rfl) (by kernel_rfl) (fun _ _ _ h => h) (by kernel_rfl) hHeld ?_
        try simp only [Act.put, List.setIfInBounds_toArray, List.set_cons_zero, List.set_cons_succ]
        refine take_no (i := 11) (d := 32) rfl rfl (by kernel_rfl) (by kernel_rfl) (by kernel_rfl) (fun _ _ _ h => h) (by kernel_rfl) hHeld ?_
        try simp only [Act.put, List.setIfInBounds_toArray, List.set_cons_zero, List.set_cons_succ]
        refine take_no (i := 12) (d := 33) rfl rfl (by kernel_rfl) (by kernel_rfl) (by kernel_rfl) (fun _ _ _ h => h) (by kernel_rfl) hHeld ?_
        try simp only [Act.put, List.setIfInBounds_toArray, List.set_cons_zero, List.set_cons_succ]
        refine take_no (i := 13) (d := 34) rfl rfl (by kernel_rfl) (by kernel_rfl) (by kernel_rfl) (fun _ _ _ h => h) (by kernel_rfl) hHeld ?_
        try simp only [Act.put, List.setIfInBounds_toArray, List.set_cons_zero, List.set_cons_succ]
        refine take_no (i := 14) (d := 35) rfl rfl (by kernel_rfl) (by kernel_rfl) (by kernel_rfl) (fun _ _ _ h => h) (by kernel_rfl) hHeld ?_
        try simp only [Act.put, List.setIfInBounds_toArray, List.set_cons_zero, List.set_cons_succ]
        refine take_no (i := 15) (d := 36) rfl rfl (by kernel_rfl) (by kernel_rfl) (by kernel_rfl) (fun _ _ _ h => h) (by kernel_rfl) hHeld ?_
        try simp only [Act.put, List.setIfInBounds_toArray, List.set_cons_zero, List.set_cons_succ]
        refine take_no (i := 16) (d := 37) rfl rfl (by kernel_rfl) (by kernel_rfl) (by kernel_rfl) (fun _ _ _ h => h) (by kernel_rfl) hHeld ?_
        try simp only [Act.put, List.setIfInBounds_toArray, List.set_cons_zero, List.set_cons_succ]
        refine take_no (i := 17) (d := 38) rfl rfl (by kernel_rfl) (by kernel_rfl) (by kernel_rfl) (fun _ _ _ h => h) (by kernel_rfl) hHeld ?_
        try simp only [Act.put, List.setIfInBounds_toArray, List.set_cons_zero, List.set_cons_succ]
        refine take_no (i := 18) (d := 39) rfl rfl (by kernel_rfl) (by kernel_rfl) (by kernel_rfl) (fun _ _ _ h => h) (by kernel_rfl) hHeld ?_
        try simp only [Act.put, List.setIfInBounds_toArray, List.set_cons_zero, List.set_cons_succ]
        refine take_no (i := 19) (d := 40) rfl rfl (by kernel_rfl) (by kernel_rfl) (by kernel_rfl) (fun _ _ _ h => h) (by kernel_rfl) hHeld ?_
        try simp only [Act.put, List.setIfInBounds_toArray, List.set_cons_zero, List.set_cons_succ]
        refine take_no (i := 20) (d := 41) rfl rfl (by kernel_rfl) (by kernel_rfl) (by kernel_rfl) (fun _ _ _ h => h) (by kernel_rfl) hHeld ?_
        try simp only [Act.put, List.setIfInBounds_toArray, List.set_cons_zero, List.set_cons_succ]
        refine take_no (i := 21) (d := 42) rfl rfl (by kernel_rfl) (by kernel_rfl) (by kernel_rfl) (fun _ _ _ h => h) (by kernel_rfl) hHeld ?_
        try simp only [Act.put, List.setIfInBounds_toArray, List.set_cons_zero, List.set_cons_succ]
        refine take_no (i := 22) (d := 43) rfl rfl (by kernel_rfl) (by kernel_rfl) (by kernel_rfl) (fun _ _ _ h => h) (by kernel_rfl) hHeld ?_
        try simp only [Act.put, List.setIfInBounds_toArray, List.set_cons_zero, List.set_cons_succ]
        refine take_no (i := 23) (d := 44) rfl rfl (by kernel_rfl) (by kernel_rfl) (by kernel_rfl) (fun _ _ _ h => h) (by kernel_rfl) hHeld ?_
        try simp only [Act.put, List.setIfInBounds_toArray, List.set_cons_zero, List.set_cons_succ]
        refine take_no (i := 24) (d := 45) rfl rfl (by kernel_rfl) (by kernel_rfl) (by kernel_rfl) (fun _ _ _ h => h) (by kernel_rfl) hHeld ?_
        try simp only [Act.put, List.setIfInBounds_toArray, List.set_cons_zero, List.set_cons_succ]
        refine take_no (i := 25) (d := 46) rfl rfl (by kernel_rfl) (by kernel_rfl) (by kernel_rfl) (fun _ _ _ h => h) (by kernel_rfl) hHeld ?_
        try simp only [Act.put, List.setIfInBounds_toArray, List.set_cons_zero, List.set_cons_succ]
        refine take_yes (i := 26) (d := 47) (v := ?_) rfl rfl (by kernel_rfl) (by kernel_rfl) (by kernel_rfl) (fun _ _ _ h => h) (by kernel_rfl) ?_ hHeld ?_
        rotate_left
        · (intro w hSw; (try dsimp only at hSw); go_simp; try (with_reducible rfl))
        try simp only [Act.put, List.setIfInBounds_toArray, List.set_cons_zero, List.set_cons_succ]
        refine wpAnyH_done (by kernel_rfl) ?_ _
        refine NoPanic.normal ?_
        have x0 := (hHeld.cell (World.block_lt_of_cell? _ _ x0)).trans x0
        have HX := Lib.hid (HBr.out.trans (hHeld.mono HBr.out.size))
        have HOX := Lib.hid (own_keep HO.out hHeld)
        go_wp2_with (at_builtin; go_must (refine list_append elInt _ rfl _ _ rfl w.heap.size O _ oc n 1 1 (IntK.row (mayK (mayP xs []) xs k)) (IntK.row [x.id]) rfl rfl rfl (own_keep HOX.out ((Below.refl _ _).alloc (Nat.le_refl _) _)) (cells_one _ _ _ _ (by simp)) int_one (by have hsx := HX.out.size; first | omega | (simp at hsx ⊢; omega)) (by have h1 := mayK_le (mayP xs []) xs k; have h2 := HN.out; omega) ?_); intro O2 oc2 w4 own hb; have HO4 := Lib.hid own; have HB4 := Lib.hid (HX.out.trans ((((Below.refl _ _).alloc (Nat.le_refl _) _).mono HX.out.size).trans hb)); clear own hb)
        go_roundw
        case rel => exact ⟨k + 1, by omega, by go_num, O2, oc2, n + 1, rfl, by rw [HY.out, List.length_append, ← HN.out]; rfl, by rw [HY.out, IntK.row_append]; exact HO4, HB4.out⟩
        case measure => simp [intOf]; omega
      · obtain rfl : k = xs.length := by omega
        rw [mayK_all] at HN HO
        go_wp2
        go_ret
        exact ToL.own_ HO.out rfl HN.out (Nat.le_trans may_le HP.out.rm) (fun _ _ => trivial) HBr.out
def mayO (xs : List Rul) (qs : List Qst) : List Int := if pendB xs qs then mayL xs qs else []
theorem MayBeMoved_any (A : Option Addr) (c : Nat) (xs : List Rul) (D : Option Addr) (d : Nat) (qs : List Qst) (w : World) (h : PA w A c xs D d qs) :
    Calls Try.prog 27 #[.slice A xs.length c, .slice D qs.length d] w (ToLB IntK 3 w (mayO xs qs) (pendB xs qs)) := by
  have HP := Lib.hid h
  clear h
  go_enter Try.func27, Try.ntmps27
  go_wp2_with fail
  refine (pend_any HP.out).mono ?_
  rintro e w1 ⟨rfl, hb⟩
  have HB := Lib.hid hb
  clear hb
  rcases Bool.eq_false_or_eq_true (pendB xs qs) with hr | hr
  all_goals have HRT := Lib.hid hr
  · have HD := Lib.hid (show mayO xs qs = mayL xs qs by unfold mayO; rw [hr]; rfl)
    rw [hr]
    clear hr
    go_wp2_with fail
    refine (mayBeMoved_any A c xs D d qs _ (HP.out.below HB.out) HRT.out).mono ?_
    rintro e w2 ⟨O, oc, rfl, own, hb⟩
    have HO := Lib.hid (own.low HB.out.size)
    have HB2 := Lib.hid (HB.out.trans (hb.mono HB.out.size))
    clear own hb
    go_wp2
    go_ret2
    exact ⟨O, oc, by rw [HD.out, HRT.out]; rfl, by rw [HD.out]; exact HO.out, HB2.out⟩
  · have HD := Lib.hid (show mayO xs qs = [] by unfold mayO; rw [hr]; rfl)
    rw [hr]
    clear hr
    go_wp2
    go_ret2
    exact ToLB.none_ HD.out HRT.out HB.out
theorem sMayBeMoved_any (A : Option Addr) (c : Nat) (xs : List Rul) (D : Option Addr) (d : Nat) (qs : List Qst) (w : World) (h : PA w A c xs D d qs) :
    Calls Try.prog 28 #[.slice A xs.length c, .slice D qs.length d] w (ToLB IntK 3 w (mayO xs qs) (pendB xs qs)) := by
  have HP := Lib.hid h
  clear h
  go_enter Try.func28, Try.ntmps28
  go_wp2_with fail
  refine (good_any HP.out).mono ?_
  rintro e w1 ⟨rfl, hb⟩
  have HB := Lib.hid hb
  clear hb
  rcases Bool.eq_false_or_eq_true (pendB xs qs) with hr | hr
  all_goals have HRT := Lib.hid hr
  · have HD := Lib.hid (show mayO xs qs = mayL xs qs by unfold mayO; rw [hr]; rfl)
    rw [hr]
    clear hr
    go_wp2_with fail
    refine (l7May_any A c xs D d qs _ (HP.out.below HB.out) HRT.out).mono ?_
    rintro e w2 ⟨O, oc, rfl, own, hb⟩
    have HO := Lib.hid (own.low HB.out.size)
    have HB2 := Lib.hid (HB.out.trans (hb.mono HB.out.size))
    clear own hb
    go_wp2
    go_ret2
    exact ⟨O, oc, by rw [HD.out, HRT.out]; rfl, by rw [HD.out]; exact HO.out, HB2.out⟩
  · have HD := Lib.hid (show mayO xs qs = [] by unfold mayO; rw [hr]; rfl)
    rw [hr]
    clear hr
    go_wp2
    go_ret2
    refine ToLB.own_ (ys := []) (own_nil_lit _ _ _ _ _ (by simp) HB.out.size) HD.out rfl (by simp) (by simp) HRT.out (HB.out.trans (((Below.refl _ _).alloc (Nat.le_refl _) _).mono HB.out.size))
end Go.Proofs.Ytifahgdalgjgfaa
