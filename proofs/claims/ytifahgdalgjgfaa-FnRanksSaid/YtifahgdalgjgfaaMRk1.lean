/- A rule's rank that changes, in the program and in the reference; a rule by its name, in the reference. Conditions: the ranges named. -/
import Derived.Test.YtifahgdalgjgfaaRa3
import Derived.Test.YtifahgdalgjgfaaAq
import Derived.Test.YtifahgdalgjgfaaSk3
import Derived.Test.YtifahgdalgjgfaaIb
import Derived.Test.YtifahgdalgjgfaaAgr
import Derived.Test.YtifahgdalgjgfaaAr1
import Derived.Shelf.Spec.SlicesInsert
namespace Go.Proofs.Ytifahgdalgjgfaa
open Go.RowKit
set_option linter.unusedVariables false
set_option linter.unusedSimpArgs false
attribute [local go_sem ↓] Go.wp_at_zero Go.wp_at_succ
theorem insRA_any (base oc : Nat) (E : Option Addr) (xs : List Rul) (w0 w : World) (own : OwD RuleK 52 base w E oc xs) (hm : xs.length ≤ 1000000) (hB : Below base w0 w) (hb0 : base ≤ w.heap.size) :
    Calls Try.prog 155 #[.slice E xs.length oc, .int .i64 0, .int .i64 xs.length, .func (.func 103) #[] #[]] w fun e w' => e = .returned (.tuple #[]) ∧ OwD RuleK 52 base w' E oc (isortG key xs) ∧ Below base w0 w' ∧ base ≤ w'.heap.size := by
  rcases own.1.2 with ⟨hv, hn0⟩ | ⟨g, cap, cur, hv, _⟩
  · obtain ⟨rfl, _, rfl⟩ : E = none ∧ xs.length = 0 ∧ oc = 0 := by simpa using hv
    obtain rfl : xs = [] := List.eq_nil_of_length_eq_zero hn0
    have HO := Lib.hid own
    have HB := Lib.hid hB
    clear own hB hv hn0
    go_enter Try.func155, Try.ntmps155
    go_wp2
    go_loop [8] (fun vi => vi = .int .i64 1) (fun _ => 0)
    case atStart => rfl
    case round =>
      subst hrel
      go_wp2
      go_end0
      exact ⟨rfl, HO.out, HB.out, hb0⟩
  · obtain ⟨rfl, _, rfl⟩ : E = some ⟨g, 0, none⟩ ∧ xs.length = xs.length ∧ oc = cap := by simpa using hv
    exact insR_any base g oc xs.length xs w0 w rfl own hm hB hb0
set_option maxHeartbeats 2000000 in
theorem stableR_any (base oc : Nat) (E : Option Addr) (xs : List Rul) (w0 w : World) (own : OwD RuleK 52 base w E oc xs) (hm : xs.length ≤ 19) (hB : Below base w0 w) (hb0 : base ≤ w.heap.size) :
    Calls Try.prog 137 #[.slice E xs.length oc, .int .i64 xs.length, .func (.func 103) #[] #[]] w fun e w' => e = .returned (.tuple #[]) ∧ OwD RuleK 52 base w' E oc (isortG key xs) ∧ Below base w0 w' ∧ base ≤ w'.heap.size := by
  have HO := Lib.hid own
  have HB := Lib.hid hB
  have t1 : ¬ (20 : Int) ≤ (xs.length : Int) := by omega
  have t2 : ¬ (20 : Int) < (xs.length : Int) := by omega
  clear own hB
  go_enter Try.func137, Try.ntmps137
  go_wp2
  go_loop [7, 8] (fun va vb => va = .int .i64 0 ∧ vb = .int .i64 20) (fun _ _ => 0)
  case atStart => exact ⟨rfl, rfl⟩
  case round =>
    obtain ⟨rfl, rfl⟩ := hrel
    go_wp2_with (go_at_call 155; refine (insRA_any base oc E xs w0 _ HO.out (by omega) HB.out hb0).mono ?_; rintro e w1 ⟨rfl, o1, b1, b2⟩; have HO1 := Lib.hid o1; have HB1 := Lib.hid (And.intro b1 b2); clear o1 b1 b2)
    go_loop [6] (fun v6 => v6 = .int .i64 20) (fun _ => 0)
    case atStart => rfl
    case round =>
      subst hrel
      go_wp2
      go_end0
      exact ⟨rfl, HO1.out, HB1.out⟩
theorem sortR_any (base oc : Nat) (E : Option Addr) (xs : List Rul) (w0 w : World) (own : OwD RuleK 52 base w E oc xs) (hm : xs.length ≤ 19) (hB : Below base w0 w) (hb0 : base ≤ w.heap.size) :
    Calls Try.prog 102 #[.slice E xs.length oc, .func (.func 103) #[] #[]] w fun e w' => e = .returned (.tuple #[]) ∧ OwD RuleK 52 base w' E oc (isortG key xs) ∧ Below base w0 w' ∧ base ≤ w'.heap.size := by
  have HO := Lib.hid own
  have HB := Lib.hid hB
  have hcap := own_cap own.1
  clear own hB
  go_enter Try.func102, Try.ntmps102
  go_wp2_with (go_at_call 137; refine (stableR_any base oc E xs w0 _ HO.out hm HB.out hb0).mono ?_; rintro e w1 ⟨rfl, o1, b1⟩; have HO1 := Lib.hid o1; have HB1 := Lib.hid b1; clear o1 b1)
  go_end0
  exact ⟨rfl, HO1.out, HB1.out⟩
/-! ### The rules above a rank -/
def ats (m : Nat) : List Int := (List.range m).map fun i : Nat => (9 : Int) - (i : Int)
theorem ats_step (m : Nat) : ats (m + 1) = ats m ++ [9 - (m : Int)] := by unfold ats; rw [List.range_succ, List.map_append]; rfl
theorem ats_mem {m : Nat} {a : Int} : a ∈ ats m ↔ 9 - (m : Int) < a ∧ a ≤ 9 := by
  unfold ats
  rw [List.mem_map]
  constructor
  · rintro ⟨i, hi, rfl⟩
    rw [List.mem_range] at hi
    omega
  · rintro ⟨h1, h2⟩
    exact ⟨(9 - a).toNat, List.mem_range.2 (by omega), by omega⟩
theorem ats_desc : ∀ m : Nat, (ats m).Pairwise (fun a b => b < a)
  | 0 => by simp [ats]
  | m + 1 => by
    rw [ats_step, List.pairwise_append]
    refine ⟨ats_desc m, by simp, fun a ha b hb => ?_⟩
    have h1 := (ats_mem.1 ha).1
    simp at hb
    omega
def raB (xs : List Rul) (k : Int) : Bool := rulesB xs && inB k (-1) 9
def raL (xs : List Rul) (k : Int) : List Int := if raB xs k = true then (buck Rul.rk (ats (9 - k).toNat) xs).map Rul.id else []
theorem ra_no {xs : List Rul} {k : Int} (h : raB xs k = false) : raL xs k = [] ∧ raB xs k = false := ⟨by unfold raL; rw [h]; rfl, h⟩
theorem rules_rk {xs : List Rul} (h : rulesB xs = true) {x : Rul} (hx : x ∈ xs) : 0 ≤ x.rk ∧ x.rk ≤ 9 := by
  obtain ⟨i, hi, rfl⟩ := List.getElem_of_mem hx
  have h1 := ru_at h hi
  unfold okRu sngB at h1
  rw [getD_lt hi] at h1
  simp only [Bool.and_eq_true] at h1
  exact inB_iff.1 h1.1.1.1.2
theorem ra_sorted {xs : List Rul} {k : Int} (h : rulesB xs = true) (hk : inB k (-1) 9 = true) : isortG key (xs.filter (abv k)) = buck Rul.rk (ats (9 - k).toNat) xs := by
  obtain ⟨k1, k2⟩ := inB_iff.1 hk
  rw [← isort_buck (r := Rul.rk) (ats_desc _) rfl]
  have e : xs.filter (abv k) = xs.filter (fun x => decide (x.rk ∈ ats (9 - k).toNat)) := List.filter_congr fun x hx => by
    have h1 := rules_rk h hx
    unfold abv
    rw [decide_eq_decide, ats_mem]
    omega
  rw [e]
  rfl
theorem ra_yes {xs : List Rul} {k : Int} (h : rulesB xs = true) (hk : inB k (-1) 9 = true) : raL xs k = (isortG key (xs.filter (abv k))).map Rul.id ∧ raB xs k = true := by
  have e : raB xs k = true := by unfold raB; rw [h, hk]; rfl
  exact ⟨by unfold raL; rw [if_pos e, ra_sorted h hk], e⟩
theorem lst_app {α : Type} {K : Kd α} {e : TypeId} {lo c n : Nat} {O : Option Addr} {w : World} {xs : List α} {x : α} (h : w.ownsRow lo e K.sz (.slice O (n + 1) c) (n + 1) (K.row xs ++ K.row [x])) (hn : n = xs.length) (hm : xs.length < 1048576) (hf : ∀ y ∈ xs, K.fit y) (hx : K.fit x) : OwD K e lo w O c (xs ++ [x]) := by
  subst hn
  refine Ow.mk (by rw [List.length_append, List.length_singleton, Kd.row_append]; exact h) (by simp; omega) (fun y hy => ?_)
  rcases List.mem_append.1 hy with h1 | h1
  · exact hf y h1
  · simp at h1; subst h1; exact hx
set_option maxHeartbeats 8000000 in
set_option maxRecDepth 100000 in
theorem RulesAbove_any (A : Option Addr) (c : Nat) (xs : List Rul) (k : Int) (w : World) (ha : Cells w A (RuleK.row xs)) (hcc : xs.length ≤ c) (hm : xs.length ≤ 1000000) (hf : ∀ y ∈ xs, RuleK.fit y) :
    Calls Try.prog 44 #[.slice A xs.length c, .int .i64 k] w (ToLB IntK 3 w (raL xs k) (raB xs k)) := by
  have HA := Lib.hid ha
  have HF := Lib.hid hf
  have N0 := Lib.hid (BT.new w #[.int .i64 k] 3 w.heap.size rfl)
  have HB := Lib.hid (below1 w (.cells #[.int .i64 k] 3))
  have hs : w.heap.size + 1 ≤ (w.alloc (.cells #[.int .i64 k] 3)).heap.size := by simp
  clear ha hf
  go_enter Try.func44, Try.ntmps44
  go_upto_region 1 with fail
  generalize (w.alloc (.cells #[.int .i64 k] 3)) = W at *
  go_wp2_with fail
  refine (IsValidRules_any A c xs W (HA.out.below HB.out) (by omega) hcc HF.out).mono ?_
  rintro e w1 ⟨rfl, hb⟩
  replace N0 := Lib.hid (N0.out.call hb)
  replace HB := Lib.hid (HB.out.trans (hb.mono HB.out.size))
  replace hs := Nat.le_trans hs hb.size
  clear hb
  rcases Bool.eq_false_or_eq_true (rulesB xs) with hv | hv
  · rw [hv]
    have x0 := N0.out.box.1 0 _ rfl
    go_wp2_with fail
    refine (inside_any _ _ _ _).mono ?_
    rintro e w' ⟨rfl, hw⟩
    rw [← hw]
    clear hw
    rcases Bool.eq_false_or_eq_true (inB k (-1) 9) with hi | hi
    · rw [hi]
      have HD := Lib.hid (ra_yes hv hi)
      have h8 := rules_le8 hv
      clear hv hi
      go_wp2_with fail
      refine (Clone_any A c xs _ (HA.out.below HB.out) hm HF.out).mono ?_
      rintro e w2 ⟨O, oc, rfl, ow, hb⟩
      have O1 := Lib.hid (OwD.low (show OwD RuleK 52 _ w2 O oc xs from ow) hs)
      replace x0 := (hb.cell (World.block_lt_of_cell? _ _ x0)).trans x0
      replace HB := Lib.hid (HB.out.trans (hb.mono HB.out.size))
      replace hs := Nat.le_trans hs hb.size
      clear hb ow N0
      go_wp2_with fail
      refine (deleteAb_any (w.heap.size + 1) O oc w.heap.size xs k w2 O1.out hm x0 (by omega) hs).mono ?_
      rintro e w3 ⟨m, P, p, rfl, hmm, ow, hb⟩
      have O2 := Lib.hid ow
      replace HB := Lib.hid (HB.out.trans (hb.mono (by omega)))
      have hs3 : w.heap.size + 1 ≤ w3.heap.size := Nat.le_trans hs hb.size
      have hfl : (xs.filter (abv k)).length ≤ 8 := Nat.le_trans (List.length_filter_le _ _) h8
      obtain ⟨fs, hfs⟩ : ∃ fs, Hid (xs.filter (abv k) = fs) := ⟨_, Lib.hid rfl⟩
      rw [hfs.out] at O2 HD hmm hfl
      subst hmm
      clear hb ow O1 x0 hs
      go_wp2_with fail
      refine (sortR_any (w.heap.size + 1) p P fs w3 w3 O2.out (by omega) (Below.refl _ _) hs3).mono ?_
      rintro e w4 ⟨rfl, ow, hb, hs4⟩
      have O3 := Lib.hid ow
      replace HB := Lib.hid (HB.out.trans (hb.mono (by omega)))
      have hgl := isortG_len key fs
      rw [← hgl] at hfl
      obtain ⟨gs, hgs⟩ : ∃ gs, Hid (isortG key fs = gs) := ⟨_, Lib.hid rfl⟩
      rw [hgs.out] at O3 HD hgl hfl
      rw [← hgl]
      clear hb ow O2 hgl
      have O4 := Lib.hid (show OwD IntK 3 w.heap.size (w4.alloc (.cells #[] 3)) (some ⟨w4.heap.size, 0, none⟩) 0 [] from Ow.mk (K := IntK) (own_nil_lit w4 w.heap.size w4.heap.size 3 1 rfl (by omega)) (by simp) (by simp))
      have hbl := below1 w4 (.cells #[] 3)
      replace O3 := Lib.hid (O3.out.call hbl)
      replace HB := Lib.hid (HB.out.trans (hbl.mono (by omega)))
      replace hs4 := Nat.le_trans hs4 hbl.size
      clear hbl
      go_upto_region 6 with fail
      generalize (w4.alloc (.cells #[] 3)) = v0 at *
      go_wp2
      go_loopw [7, 27] (fun vo vi wr => ∃ (i : Nat) (Q : Option Addr) (q : Nat), i ≤ gs.length ∧ vi = .int .i64 i ∧ vo = .slice Q i q ∧ Hid (OwD IntK 3 w.heap.size wr Q q ((gs.take i).map Rul.id)) ∧ Hid (OwD RuleK 52 (w.heap.size + 1) wr P p gs) ∧ Hid (Below w.heap.size w wr) ∧ w.heap.size + 1 ≤ wr.heap.size) (fun _ vi _ => gs.length - (intOf vi).toNat)
      case atStart => exact ⟨0, _, 0, Nat.zero_le _, rfl, rfl, O4, O3, HB, hs4⟩
      case round =>
        clear O4 O3 HB hs4
        obtain ⟨i, Q, q, hil, rfl, rfl, OI, OR, HB, hsr⟩ := hrel
        obtain ⟨wq, hwq⟩ : ∃ x : World, x = wr := ⟨_, rfl⟩
        subst hwq
        have q1 : IntKind.i64.wrap ((i : Int) + 1) = ((i + 1 : Nat) : Int) := by rw [IntKind.wrap_i64]; omega
        by_cases hlt : i < gs.length
        · have i1 : (i : Int) < (gs.length : Int) := by omega
          obtain ⟨a, ha, hc0, hc1, hc2, hc3, hc4, hc5, hc6⟩ := rule_at OR.out.rd.cells hlt
          have HST := Lib.hid (show (gs.take i).map Rul.id ++ [gs[i].id] = (gs.take (i + 1)).map Rul.id by rw [List.take_succ_eq_append_getElem hlt, List.map_append]; rfl)
          have HLI := Lib.hid (show i = ((gs.take i).map Rul.id).length by rw [List.length_map, List.length_take]; omega)
          obtain ⟨x, hx⟩ : ∃ x, gs[i] = x := ⟨_, rfl⟩
          rw [hx] at hc0 hc1 hc2 hc3 hc4 hc5 hc6 HST
          subst ha
          have X := Lib.hid (BT.new wq #[.int .i64 x.id, .string x.nm, .int .i64 x.rk, .bool x.sc, .bool x.db, .bool x.am, .int .i64 x.nd] 52 wq.heap.size rfl)
          have hbl := below1 wq (.cells #[.int .i64 x.id, .string x.nm, .int .i64 x.rk, .bool x.sc, .bool x.db, .bool x.am, .int .i64 x.nd] 52)
          replace OI := Lib.hid (OI.out.call hbl)
          replace OR := Lib.hid (OR.out.call hbl)
          replace HB := Lib.hid (HB.out.trans (hbl.mono (by omega)))
          replace hsr := Nat.le_trans hsr hbl.size
          clear hbl hx
          go_upto_region 9 with fail
          generalize (wq.alloc (.cells #[.int .i64 x.id, .string x.nm, .int .i64 x.rk, .bool x.sc, .bool x.db, .bool x.am, .int .i64 x.nd] 52)) = v1 at *
          generalize wq.heap.size = qx at *
          clear hc0 hc1 hc2 hc3 hc4 hc5 hc6
          have x0 := X.out.box.1 0 _ rfl
          have HLC := Lib.hid (show Cells _ _ (IntK.row [x.id]) from cells_arr v1 #[.int .i64 x.id] 3 v1.heap.size rfl)
          have hbl := below1 v1 (.cells #[.int .i64 x.id] 3)
          replace OI := Lib.hid (OI.out.call hbl)
          replace OR := Lib.hid (OR.out.call hbl)
          replace HB := Lib.hid (HB.out.trans (hbl.mono (by omega)))
          replace hsr := Nat.le_trans hsr hbl.size
          clear hbl
          have hlz : w.heap.size ≤ (v1.alloc (.cells #[.int .i64 x.id] 3)).heap.size := by omega
          have own9 := OI.out.1
          rw [← HLI.out] at own9
          have HO9 := Lib.hid own9
          clear own9
          go_wp2_with (at_builtin; go_must (refine list_append_gr elInt _ rfl _ _ rfl w.heap.size Q _ q i 1 1 (IntK.row ((gs.take i).map Rul.id)) (IntK.row [x.id]) rfl rfl rfl HO9.out HLC.out int_one hlz (by omega) ?_); intro Q3 q3 v2 own hb hg; have HG := Lib.hid hg; have HW := Lib.hid own; have HBB := Lib.hid hb; clear own hb hg)
          have N3 := Lib.hid (lst_app HW.out HLI.out (by rw [← HLI.out]; omega) OI.out.2.2.2 trivial)
          rw [HST.out] at N3
          replace OR := Lib.hid (OR.out.grow HO9.out (by decide) HG.out)
          replace HB := Lib.hid (HB.out.trans HBB.out)
          replace hsr := Nat.le_trans hsr HG.out.size
          clear HG HW HBB OI HO9 HLC hlz x0 X
          go_roundw
          case rel => exact ⟨i + 1, Q3, q3, hlt, by go_num, rfl, N3, OR, HB, hsr⟩
          case measure => simp [intOf]; omega
        · obtain rfl : i = gs.length := by omega
          have HE := Lib.hid (show (gs.take gs.length).map Rul.id = raL xs k by rw [List.take_length, HD.out.1])
          have HEL := Lib.hid (show gs.length = ((gs.take gs.length).map Rul.id).length by rw [List.take_length, List.length_map])
          go_wp2
          go_ret2
          have own9 := OI.out.1
          rw [← HEL.out] at own9
          exact ToLB.own_ own9 HE.out.symm HEL.out (by rw [← HEL.out]; omega) (fun _ _ => trivial) HD.out.2 HB.out
    · rw [hi]
      have HNO := Lib.hid (ra_no (show raB xs k = false by unfold raB; rw [hi]; simp))
      clear hv hi
      go_wp2_with (go_ret2; exact ToLB.none_ HNO.out.1 HNO.out.2 HB.out)
  · rw [hv]
    have HNO := Lib.hid (ra_no (k := k) (show raB xs k = false by unfold raB; rw [hv]; rfl))
    clear hv
    go_wp2_with (go_ret2; exact ToLB.none_ HNO.out.1 HNO.out.2 HB.out)
end Go.Proofs.Ytifahgdalgjgfaa
namespace Go.Proofs.Ytifahgdalgjgfaa
open Go.RowKit
set_option linter.unusedVariables false
set_option linter.unusedSimpArgs false
attribute [local go_sem ↓] Go.wp_at_zero Go.wp_at_succ
theorem buck_next {r : Rul → Int} {m : Nat} {xs : List Rul} : buck r (ats (m + 1)) xs = buck r (ats m) xs ++ xs.filter (fun x => r x == 9 - (m : Int)) := by
  unfold buck
  rw [ats_step, List.flatMap_append]
  simp
set_option maxHeartbeats 8000000 in
set_option maxRecDepth 100000 in
theorem sRulesAbove_any (A : Option Addr) (c : Nat) (xs : List Rul) (k : Int) (w : World) (ha : Cells w A (RuleK.row xs)) (hcc : xs.length ≤ c) (hm : xs.length ≤ 1000000) (hf : ∀ y ∈ xs, RuleK.fit y) :
    Calls Try.prog 45 #[.slice A xs.length c, .int .i64 k] w (ToLB IntK 3 w (raL xs k) (raB xs k)) := by
  have HA := Lib.hid ha
  have HF := Lib.hid hf
  have O1 := Lib.hid (show OwD IntK 3 w.heap.size (w.alloc (.cells #[] 3)) (some ⟨w.heap.size, 0, none⟩) 0 [] from Ow.mk (K := IntK) (own_nil_lit w w.heap.size w.heap.size 3 1 rfl (Nat.le_refl _)) (by simp) (by simp))
  have HB := Lib.hid (below1 w (.cells #[] 3))
  clear ha hf
  go_enter Try.func45, Try.ntmps45
  go_upto_region 2 with fail
  generalize (w.alloc (.cells #[] 3)) = W at *
  go_wp2_with fail
  refine (l2Good_any A c xs W (HA.out.below HB.out) (by omega) hcc HF.out).mono ?_
  rintro e w1 ⟨rfl, hb⟩
  replace O1 := Lib.hid (O1.out.call hb)
  replace HB := Lib.hid (HB.out.trans (hb.mono HB.out.size))
  clear hb
  rcases Bool.eq_false_or_eq_true (rulesB xs) with hv | hv
  · rw [hv]
    go_wp2_with fail
    refine (l1In_any _ _ _ _).mono ?_
    rintro e w' ⟨rfl, hw⟩
    rw [← hw]
    clear hw
    rcases Bool.eq_false_or_eq_true (inB k (-1) 9) with hi | hi
    · rw [hi]
      obtain ⟨k1, k2⟩ := inB_iff.1 hi
      have hab : raB xs k = true := by unfold raB; rw [hv, hi]; rfl
      have HD := Lib.hid (show raL xs k = (buck Rul.rk (ats (9 - k).toNat) xs).map Rul.id ∧ raB xs k = true from ⟨by unfold raL; rw [if_pos hab], hab⟩)
      have h8 := rules_le8 hv
      clear hv hi hab
      go_wp2
      go_loopw [6, 7] (fun vo va wr => ∃ (m n : Nat) (Q : Option Addr) (q : Nat), (m : Int) ≤ 9 - k ∧ va = .int .i64 (9 - (m : Int)) ∧ vo = .slice Q n q ∧ n ≤ 8 * m ∧ Hid (n = ((buck Rul.rk (ats m) xs).map Rul.id).length) ∧ Hid (OwD IntK 3 w.heap.size wr Q q ((buck Rul.rk (ats m) xs).map Rul.id)) ∧ Hid (Below w.heap.size w wr)) (fun _ va _ => (intOf va - k).toNat)
      case atStart => exact ⟨0, 0, _, 0, by omega, by first | rfl | simp, rfl, by omega, Lib.hid rfl, O1, HB⟩
      case round =>
        clear O1 HB
        obtain ⟨m, n, Q, q, hm9, rfl, rfl, hn8, HN, O1, HB⟩ := hrel
        by_cases hlt : k < 9 - (m : Int)
        · have hml : m ≤ 9 := by omega
          have qa : IntKind.i64.wrap (9 - (m : Int) - 1) = 9 - ((m + 1 : Nat) : Int) := by rw [IntKind.wrap_i64]; omega
          have HNX := Lib.hid (buck_next (r := Rul.rk) (m := m) (xs := xs))
          obtain ⟨av, hav⟩ : ∃ av, Hid (9 - (m : Int) = av) := ⟨_, Lib.hid rfl⟩
          rw [hav.out] at qa HNX hlt ⊢
          go_wp2
          go_loopw [6, 8] (fun vo vi wr => ∃ (i n : Nat) (Q : Option Addr) (q : Nat), i ≤ xs.length ∧ vi = .int .i64 i ∧ vo = .slice Q n q ∧ n ≤ 8 * m + i ∧ Hid (n = ((buck Rul.rk (ats m) xs ++ (xs.take i).filter (fun x => x.rk == av)).map Rul.id).length) ∧ Hid (OwD IntK 3 w.heap.size wr Q q ((buck Rul.rk (ats m) xs ++ (xs.take i).filter (fun x => x.rk == av)).map Rul.id)) ∧ Hid (Below w.heap.size w wr)) (fun _ vi _ => xs.length - (intOf vi).toNat)
          case atStart => exact ⟨0, n, Q, q, Nat.zero_le _, rfl, rfl, by omega, by simpa using HN, by simpa using O1, HB⟩
          case round =>
            clear O1 HB HN hn8
            obtain ⟨i, n, Q, q, hil, rfl, rfl, hn8, HN, O1, HB⟩ := hrel
            obtain ⟨wq, hwq⟩ : ∃ x : World, x = wr := ⟨_, rfl⟩
            subst hwq
            have q1 : IntKind.i64.wrap ((i : Int) + 1) = ((i + 1 : Nat) : Int) := by rw [IntKind.wrap_i64]; omega
            by_cases hlx : i < xs.length
            · have i1 : (i : Int) < (xs.length : Int) := by omega
              obtain ⟨a, ha, hc0, _, hc2, _, _, _, _⟩ := rule_at (HA.out.below HB.out) hlx
              have HT := Lib.hid (List.take_succ_eq_append_getElem hlx)
              obtain ⟨x, hx⟩ : ∃ x, xs[i] = x := ⟨_, rfl⟩
              rw [hx] at hc0 hc2 HT
              subst ha
              clear hx
              rcases Bool.eq_false_or_eq_true (x.rk == av) with he | he
              · have HST := Lib.hid (show (buck Rul.rk (ats m) xs ++ (xs.take i).filter (fun x => x.rk == av)).map Rul.id ++ [x.id] = (buck Rul.rk (ats m) xs ++ (xs.take (i + 1)).filter (fun x => x.rk == av)).map Rul.id by rw [HT.out, List.filter_append]; simp [he])
                obtain ⟨l, hl⟩ : ∃ l, Hid ((buck Rul.rk (ats m) xs ++ (xs.take i).filter (fun x => x.rk == av)).map Rul.id = l) := ⟨_, Lib.hid rfl⟩
                rw [hl.out] at HST O1 HN
                have HLC := Lib.hid (show Cells _ _ (IntK.row [x.id]) from cells_arr wq #[.int .i64 x.id] 3 wq.heap.size rfl)
                have hbl := below1 wq (.cells #[.int .i64 x.id] 3)
                have hbs := HB.out.size
                replace O1 := Lib.hid (O1.out.call hbl)
                replace HB := Lib.hid (HB.out.trans (hbl.mono hbs))
                have hlz : w.heap.size ≤ (wq.alloc (.cells #[.int .i64 x.id] 3)).heap.size := Nat.le_trans hbs hbl.size
                have own9 := O1.out.1
                rw [← HN.out] at own9
                have HO9 := Lib.hid own9
                clear own9 hbl hbs
                go_wp2_with (at_builtin; go_must (refine list_append_gr elInt _ rfl _ _ rfl w.heap.size Q _ q n 1 1 (IntK.row l) (IntK.row [x.id]) rfl rfl rfl HO9.out HLC.out int_one hlz (by omega) ?_); intro Q3 q3 v2 own hb hg; have HG := Lib.hid hg; have HW := Lib.hid own; have HBB := Lib.hid hb; clear own hb hg)
                have N3 := Lib.hid (lst_app HW.out HN.out (by rw [← HN.out]; omega) O1.out.2.2.2 trivial)
                have HN3 := Lib.hid (show n + 1 = (l ++ [x.id]).length by rw [List.length_append, ← HN.out]; rfl)
                rw [HST.out] at N3 HN3
                replace HB := Lib.hid (HB.out.trans HBB.out)
                clear HG HW HBB O1 HO9 HLC hlz
                go_roundw
                case rel => exact ⟨i + 1, n + 1, Q3, q3, hlx, by go_num, rfl, by omega, HN3, N3, HB⟩
                case measure => simp [intOf]; omega
              · have HST := Lib.hid (show (buck Rul.rk (ats m) xs ++ (xs.take i).filter (fun x => x.rk == av)) = (buck Rul.rk (ats m) xs ++ (xs.take (i + 1)).filter (fun x => x.rk == av)) by rw [HT.out, List.filter_append]; simp [he])
                rw [HST.out] at O1 HN
                clear HST HT
                go_wp2
                go_roundw
                case rel => exact ⟨i + 1, n, Q, q, hlx, by go_num, rfl, by omega, HN, O1, HB⟩
                case measure => simp [intOf]; omega
            · obtain rfl : i = xs.length := by omega
              have HST := Lib.hid (show (buck Rul.rk (ats m) xs ++ (xs.take xs.length).filter (fun x => x.rk == av)) = buck Rul.rk (ats (m + 1)) xs by rw [List.take_length, HNX.out])
              rw [HST.out] at O1 HN
              clear HST HNX
              go_wp2
              go_roundw
              case rel => exact ⟨m + 1, n, Q, q, by have := hav.out; omega, by first | rfl | (rw [qa]; done) | go_num, rfl, by omega, HN, O1, HB⟩
              case measure => have := hav.out; simp [intOf]; omega
        · have HE := Lib.hid (show m = (9 - k).toNat by omega)
          have i9 : ¬ k < 9 - (m : Int) := hlt
          go_wp2
          go_ret2
          have own9 := O1.out.1
          rw [← HN.out] at own9
          exact ToLB.own_ own9 (by rw [HD.out.1, ← HE.out]) HN.out (by rw [← HN.out]; omega) (fun _ _ => trivial) HD.out.2 HB.out
    · rw [hi]
      have HNO := Lib.hid (ra_no (show raB xs k = false by unfold raB; rw [hi]; simp))
      clear hv hi
      go_wp2_with (go_ret2; exact ToLB.own_ (ys := []) O1.out.1 HNO.out.1 rfl (by simp) (fun _ _ => trivial) HNO.out.2 HB.out)
  · rw [hv]
    have HNO := Lib.hid (ra_no (k := k) (show raB xs k = false by unfold raB; rw [hv]; rfl))
    clear hv
    go_wp2_with (go_ret2; exact ToLB.own_ (ys := []) O1.out.1 HNO.out.1 rfl (by simp) (fun _ _ => trivial) HNO.out.2 HB.out)
end Go.Proofs.Ytifahgdalgjgfaa
namespace Go.Proofs.Ytifahgdalgjgfaa
open Go.RowKit
set_option linter.unusedVariables false
set_option linter.unusedSimpArgs false
/-- What an insertion returns. -/
def InsRule (base : Nat) (w : World) (O : Option Addr) (n oc : Nat) (ys : List Rul) (e : Ending) (w' : World) : Prop := ∃ (O' : Option Addr) (d : Nat), e = .returned (.slice O' (n + 1) d) ∧ w'.ownsRow base 52 7 (.slice O' (n + 1) d) (n + 1) (RuleK.row ys) ∧ w.grownBy w' (Value.slice O n oc).ownBlock
theorem insRule_row (xs : List Rul) (x : Rul) (i : Nat) : RuleK.row (xs.take i ++ x :: xs.drop i) = RuleK.row (xs.take i) ++ RuleK.enc x ++ RuleK.row (xs.drop i) := by
  rw [RuleK.row_append, show x :: xs.drop i = [x] ++ xs.drop i from rfl, RuleK.row_append, RuleK.row_one, List.append_assoc]
set_option maxHeartbeats 2000000 in
theorem insRule_end (base : Nat) (O : Option Addr) (n oc vb : Nat) (xs : List Rul) (x : Rul) (w : World) (hn : n = xs.length) (own : w.ownsRow base 52 7 (.slice O n oc) n (RuleK.row xs)) (hm : xs.length ≤ 1000000) (hv : Cells w (some ⟨vb, 0, none⟩) (RuleK.enc x)) (hb0 : base ≤ w.heap.size) :
    Calls Try.prog 96 #[.slice O n oc, .int .i64 n, .slice (some ⟨vb, 0, none⟩) 1 1] w (InsRule base w O n oc (xs.take n ++ x :: xs.drop n)) := by
  have HOWN := Lib.hid own
  have HV := Lib.hid hv
  have HX : Hid (RuleK.row xs ++ RuleK.enc x = RuleK.row (xs.take n ++ x :: xs.drop n)) := Lib.hid (by rw [insRule_row, hn, List.take_length, List.drop_length, Kd.row_nil, List.append_nil])
  have HN := Lib.hid hn
  have hcap := own_cap own
  obtain ⟨Q, e2⟩ : ∃ Q, (if oc = n then O else O.map (·.add (n * 7))) = Q := ⟨_, rfl⟩
  have t1 : (n : Int) ≤ (oc : Int) := by omega
  clear own hv hn
  go_enter Try.func96, Try.ntmps96
  go_wp2_with (at_builtin; refine list_append_gr elRul _ rfl _ _ rfl base O (some ⟨vb, 0, none⟩) oc n 1 1 (RuleK.row xs) (RuleK.enc x) rfl rfl rfl HOWN.out HV.out (fun u hu => rul_one (xs := [x]) u (by rw [RuleK.row_one]; exact hu)) hb0 (by have := HN.out; omega) ?_; intro O' d w' g1 g2 g3; have H1 := Lib.hid g1; have H2 := Lib.hid g2; have H3 := Lib.hid g3; clear g1 g2 g3)
  go_ret
  exact ⟨O', d, rfl, by rw [← HX.out]; exact H1.out, H3.out⟩
set_option maxHeartbeats 4000000 in
set_option maxRecDepth 100000 in
theorem insRule_shift (base g n oc i vb : Nat) (xs : List Rul) (x : Rul) (w : World) (hn : n = xs.length) (own : w.ownsRow base 52 7 (.slice (some ⟨g, 0, none⟩) n oc) n (RuleK.row xs)) (hi : i < n) (hroom : n + 1 ≤ oc) (hv : w.heap[vb]? = some (.cells (RuleK.enc x).toArray 52 (0, 0))) (hne : vb ≠ g) (hm : n ≤ 1000000) :
    Calls Try.prog 96 #[.slice (some ⟨g, 0, none⟩) n oc, .int .i64 i, .slice (some ⟨vb, 0, none⟩) 1 1] w (InsRule base w (some ⟨g, 0, none⟩) n oc (xs.take i ++ x :: xs.drop i)) := by
  obtain ⟨ys, hyl, hnc, hcm, hshg, hfull⟩ := own_full own
  have hfit : ∀ u ∈ RuleK.row xs ++ RuleK.enc x, u.oneCell' = true := fun u hu => rul_one (xs := xs ++ [x]) u (by rw [RuleK.row_snoc]; exact hu)
  have hsz : (Try.prog.info? 52).map (·.size) = some 7 := by
    obtain ⟨i0, hi0, h0, h1, h2⟩ := info_parts infoRul
    rw [hi0]; simp [h1]
  have hshv : w.shape? vb = some (52, 7) := by simp [World.shape?, hv]; rfl
  have hfv : ∀ j, w.frozen? ⟨vb, j, none⟩ = false := fun j => frozen_of_row w vb j _ _ hv
  have hfg : ∀ j, w.frozen? ⟨g, j, none⟩ = false := fun j => own.frozenAt j
  have hov : ∀ q lb cb, (callFunc 134 #[.slice (some ⟨vb, 0, none⟩) 1 1, .slice (some ⟨g, q, none⟩) lb cb]).run Try.prog w = .ok (.value (.bool false)) w := fun q lb cb => by
    rw [run_callFunc_extern Try.func134 (by kernel_rfl) (by kernel_rfl) (by kernel_rfl) (e := Extern.SlicesOverlaps.overlaps #[24, 24] #[4]) (by kernel_rfl),
      Lib.run_overlaps_apart w 24 4 52 Try.underlying24 7 (fun w => by kernel_rfl) ⟨vb, 0, none⟩ ⟨g, q, none⟩ 1 1 lb cb hne 52 52 7 (oc * 7) hshv hshg (by omega) (hfv 0) (hfv _)]
    rfl
  have hRl : (RuleK.row (xs.drop i)).length = (n - i) * 7 := by rw [Kd.row_len, List.length_drop, hn]; rfl
  have hPl : (RuleK.row (xs.take i)).length = i * 7 := by rw [Kd.row_len, List.length_take, Nat.min_eq_left (by omega)]; rfl
  have hsp : ∀ j, j < oc * 7 → (w.cell? ⟨g, j, none⟩).isSome = true := fun j hj => by
    obtain ⟨u, hu⟩ := own_cell hfull hj
    rw [hu]; rfl
  have hRs : ∀ j v, (RuleK.row (xs.drop i))[j]? = some v → w.cell? ⟨g, i * 7 + j, none⟩ = some v := fun j v hj => by
    rw [Kd.row_drop, List.getElem?_drop] at hj
    have hlt : i * 7 + j < n * 7 := by
      have := (List.getElem?_eq_some_iff.1 hj).1
      rw [Kd.row_len, ← hn] at this
      exact this
    rw [own.cellAt _ hlt]; exact hj
  have hw1 : IntKind.i64.wrap ((i : Int) + 1) = (i : Int) + 1 := by rw [IntKind.wrap_i64]; omega
  have hw2 : IntKind.i64.wrap ((n : Int) + 1) = (n : Int) + 1 := by rw [IntKind.wrap_i64]; omega
  have hcp1 : ∀ ty dc sc, (Builtin.copy_ #[24, 24] ty #[.slice (some ⟨g, (i + 1) * 7, none⟩) (n + 1 - (i + 1)) dc, .slice (some ⟨g, i * 7, none⟩) (n + 1 - i) sc]).run Try.prog w.drew = .ok (goInt (Nat.min (n + 1 - i) (n + 1 - (i + 1)))) (w.drew.setCells g ((i + 1) * 7) (RuleK.row (xs.drop i))) := fun ty dc sc =>
    run_copy_k w.drew _ _ ty 52 7 g ((i + 1) * 7) (n + 1 - (i + 1)) dc ⟨g, i * 7, none⟩ (n + 1 - i) sc _ Try.underlying24 hsz (by rw [hRl]; congr 1; simp only [Nat.min_def]; split <;> omega)
      (fun j v hj => by rw [Addr.add_lit]; exact hRs j v hj)
      (fun j hj => hsp _ (by rw [hRl] at hj; omega)) (fun j hj => hfg _) (fun v hv => hfit v (List.mem_append_left _ (by rw [Kd.row_drop] at hv; exact List.mem_of_mem_drop hv)))
  obtain ⟨W1, hW1⟩ : ∃ W1, W1 = w.drew.setCells g ((i + 1) * 7) (RuleK.row (xs.drop i)) := ⟨_, rfl⟩
  have hown1 := own_setCells (RuleK.row (xs.drop i)) ((i + 1) * 7) hfull.drew
  rw [← hW1] at hcp1 hown1
  have hvs : ∀ j v, (RuleK.enc x)[j]? = some v → W1.cell? ⟨vb, j, none⟩ = some v := fun j v hj => by
    rw [hW1, World.cell?_setCells_out g _ _ _ _ (fun h _ => absurd h hne)]
    exact (cell_of_row w vb j _ _ _ hv).trans (by simpa using hj)
  have hcp2 : ∀ (W : World), (∀ x, W.cell? x = W1.cell? x) → (∀ x, W.frozen? x = W1.frozen? x) → ∀ ty dc, (Builtin.copy_ #[24, 24] ty #[.slice (some ⟨g, i * 7, none⟩) (n + 1 - i) dc, .slice (some ⟨vb, 0, none⟩) 1 1]).run Try.prog W = .ok (goInt (Nat.min 1 (n + 1 - i))) (W.setCells g (i * 7) (RuleK.enc x)) := fun W hWc hWf ty dc =>
    run_copy_k W _ _ ty 52 7 g (i * 7) (n + 1 - i) dc ⟨vb, 0, none⟩ 1 1 _ Try.underlying24 hsz (by rw [RuleK.len, show Nat.min 1 (n + 1 - i) = 1 from Nat.min_eq_left (by omega)]; rfl)
      (fun j v hj => by rw [Addr.add_lit, hWc, Nat.zero_add]; exact hvs j v hj)
      (fun j hj => by
        rw [hWc]
        obtain ⟨u, hu⟩ := own_cell hown1.1 (j := i * 7 + j) (by rw [RuleK.len] at hj; simp only [RuleK] at hj; omega)
        rw [hu]; rfl) (fun j hj => by rw [hWf]; exact hown1.1.frozenAt _) (fun v hv => hfit v (List.mem_append_right _ hv))
  have HFIN : Hid (InsRule base w (some ⟨g, 0, none⟩) n oc (xs.take i ++ x :: xs.drop i) (.returned (.slice (some ⟨g, 0, none⟩) (n + 1) oc)) (W1.setCells g (i * 7) (RuleK.enc x))) := Lib.hid (by
    have hown2 := own_setCells (RuleK.enc x) (i * 7) hown1.1
    have h3 := own_less hown2.1 hroom
    have h4 := shift_cells (RuleK.row (xs.take i)) (RuleK.row (xs.drop i)) ys (RuleK.enc x) (by rw [hyl, RuleK.len]; simp only [RuleK]; omega)
    have h5 : RuleK.row xs = RuleK.row (xs.take i) ++ RuleK.row (xs.drop i) := by rw [← Kd.row_append, List.take_append_drop]
    have h6 : (RuleK.enc x).length = 7 := rfl
    rw [hPl, hRl, h6] at h4
    rw [h5, show (i + 1) * 7 = i * 7 + 7 by omega, show (n + 1) * 7 = i * 7 + 7 + (n - i) * 7 by omega, h4, ← insRule_row] at h3
    have h7 := grownBy_trans hown1.2 hown2.2
    exact ⟨_, _, rfl, h3, ⟨h7.os, h7.tape, h7.output, h7.size, h7.block⟩⟩)
  have hz2 : ¬ ((i : Int) = (n : Int)) := by omega
  have hb1 : (0 : Int) ≤ (i : Int) + 1 := by omega
  have hin : i ≤ n := by omega
  have htn : ((i : Int) + 1).toNat = i + 1 := by omega
  have htn2 : ((n : Int) + 1).toNat = n + 1 := by omega
  have hb2 : ¬ (oc = i + 1) := by omega
  have hb3 : (i : Int) ≤ (n : Int) + 1 := by omega
  have hb4 : ¬ (oc = i) := by omega
  have hb5 : ¬ ((oc : Int) < (n : Int) + 1) := by omega
  have hc63 : oc ≤ 9223372036854775807 := by unfold maxLen at hcm; omega
  have mixed : Try.prog.follows Departure.mixedOrders = true := by kernel_rfl
  clear hfull hown1 hRs hsp hvs hfit hyl hshg own hRl hPl hn hW1
  go_enter Try.func96, Try.ntmps96
  go_wp2_with (simp only [hov])
  go_region_law_o (refine step_copy_runI rfl _ _ 24 24 rfl (.slice (some ⟨g, (i + 1) * 7, none⟩) (n + 1 - (i + 1)) (oc - (i + 1))) (.slice (some ⟨g, i * 7, none⟩) (n + 1 - i) (oc - i)) (by simp [Act.eval, Act.put]) (by simp [Act.eval, Act.put]) (hcp1 _ _ _) ?_)
  go_wp2_with (at_builtin; refine wpList_copy_runI _ rfl _ _ 24 24 rfl _ _ rfl rfl (hcp2 _ (fun _ => rfl) (fun _ => rfl) _ _) ?_)
  go_ret
  exact HFIN.out
set_option maxHeartbeats 4000000 in
set_option maxRecDepth 100000 in
theorem insRule_grow (base g n oc i vb : Nat) (xs : List Rul) (x : Rul) (w : World) (hn : n = xs.length) (own : w.ownsRow base 52 7 (.slice (some ⟨g, 0, none⟩) n oc) n (RuleK.row xs)) (hi : i < n) (hroom : oc < n + 1) (hv : w.heap[vb]? = some (.cells (RuleK.enc x).toArray 52 (0, 0))) (hm : n ≤ 1000000) (hb0 : base ≤ w.heap.size) :
    Calls Try.prog 96 #[.slice (some ⟨g, 0, none⟩) n oc, .int .i64 i, .slice (some ⟨vb, 0, none⟩) 1 1] w (InsRule base w (some ⟨g, 0, none⟩) n oc (xs.take i ++ x :: xs.drop i)) := by
  have hnc := own_cap own
  have hfit : ∀ u ∈ RuleK.row xs ++ RuleK.enc x, u.oneCell' = true := fun u hu => rul_one (xs := xs ++ [x]) u (by rw [RuleK.row_snoc]; exact hu)
  obtain ⟨i0, hi0, hz0, hzs, hzb⟩ := info_parts infoRul
  have hsz : (Try.prog.info? 52).map (·.size) = some 7 := by rw [hi0]; simp [hzs]
  have hgw : g < w.heap.size := (own.lt g rfl).2
  have hvw : vb < w.heap.size := by
    rcases Nat.lt_or_ge vb w.heap.size with h | h
    · exact h
    · rw [Array.getElem?_eq_none h] at hv; cases hv
  have hRl : (RuleK.row (xs.drop i)).length = (n - i) * 7 := by rw [Kd.row_len, List.length_drop, hn]; rfl
  have hPl : (RuleK.row (xs.take i)).length = i * 7 := by rw [Kd.row_len, List.length_take, Nat.min_eq_left (by omega)]; rfl
  have hxs : ∀ j v, (RuleK.row xs)[j]? = some v → w.cell? ⟨g, j, none⟩ = some v := fun j v hj => by
    have hlt : j < n * 7 := by
      have := (List.getElem?_eq_some_iff.1 hj).1
      rw [Kd.row_len, ← hn] at this
      exact this
    rw [own.cellAt _ hlt]; exact hj
  have hold : (Builtin.firstCells i0.size i (.slice (some ⟨g, 0, none⟩) i oc)).run Try.prog w.drew = .ok (RuleK.row (xs.take i)).toArray w.drew := by
    rw [hzs]
    exact run_firstCells_some w.drew 7 i ⟨g, 0, none⟩ i oc (RuleK.row (xs.take i)) hPl (fun j v hj => by
      rw [Addr.add_lit, Nat.zero_add]
      rw [show xs.take i = xs.take i from rfl, Kd.row_take, List.getElem?_take] at hj
      split at hj
      · exact hxs j v hj
      · cases hj)
  have hik : i + (n + 1 - i) = n + 1 := by omega
  have hkk : (n : Int) + 1 - (i : Int) = ((n + 1 - i : Nat) : Int) := by omega
  obtain ⟨G, hG⟩ : ∃ G, G = grownCap w (n + 1) oc 52 := ⟨_, rfl⟩
  obtain ⟨Z, hZ⟩ : ∃ Z : List Value, Z = (Builtin.zeroCells (Value.cells (.agg #[.int .i64 0, .string ByteArray.empty, .int .i64 0, .bool false, .bool false, .bool false, .int .i64 0])) (n + 1 - i) ++ Builtin.zeroCells (Value.cells (.agg #[.int .i64 0, .string ByteArray.empty, .int .i64 0, .bool false, .bool false, .bool false, .int .i64 0])) (G - (n + 1))).toList := ⟨_, rfl⟩
  have hGn : n + 1 ≤ G := by rw [hG]; exact grownCap_ge w _ _ _
  have hGm : G ≤ maxLen := by rw [hG]; exact grownCap_le_maxLen w _ _ _ (by unfold maxLen; omega)
  have hZl : Z.length = (G - i) * 7 := by
    rw [hZ, Array.length_toList, Array.size_append, size_zeroCells, size_zeroCells]
    show (n + 1 - i) * 7 + (G - (n + 1)) * 7 = _
    omega
  have hrz : ∀ ty, (Builtin.append_ #[24, 3] ty #[.slice (some ⟨g, 0, none⟩) i oc, .int .i64 ((n : Int) + 1 - (i : Int))]).run Try.prog w =
      .ok (.slice (some ⟨w.heap.size, 0, none⟩) (n + 1) G) (w.drew.alloc (.cells (RuleK.row (xs.take i) ++ Z).toArray 52)) := fun ty => by
    have h := Lib.run_append_grow_zeros w 24 3 ty 52 i0 _ .i64 .i64 Try.underlying24 Try.underlying3 hi0 hz0 (some ⟨g, 0, none⟩) i oc (RuleK.row (xs.take i)) hold (n + 1 - i) (by omega) (by omega) (by omega) (by omega) (by rw [hzb]; omega) (by rw [hzb, hik]; exact growslice_fits hroom (by omega))
    rw [hik, ← hG] at h
    rw [hkk, h, hZ]
    congr 3
    apply Array.ext'
    simp
  obtain ⟨W1, hW1⟩ : ∃ W1, W1 = w.drew.alloc (.cells (RuleK.row (xs.take i) ++ Z).toArray 52) := ⟨_, rfl⟩
  have hown0 : W1.ownsRow base 52 7 (.slice (some ⟨w.heap.size, 0, none⟩) G G) G (RuleK.row (xs.take i) ++ Z) := by
    refine ⟨by rw [List.length_append, hPl, hZl]; omega, .inr ⟨w.heap.size, G, (RuleK.row (xs.take i) ++ Z).toArray, rfl, hb0, ?_, Nat.le_refl _, hGm, ?_, ?_⟩⟩
    · rw [hW1]; exact heap_alloc_new w.drew _
    · rw [List.size_toArray, List.length_append, hPl, hZl]; omega
    · exact List.take_of_length_le (by rw [List.length_append, hPl, hZl]; omega)
  have hB1 : Below w.heap.size w W1 := by rw [hW1]; exact (Below.refl w.heap.size w).drew.alloc (Nat.le_refl _) _
  rw [← hW1] at hrz
  have hvs : ∀ j v, (RuleK.enc x)[j]? = some v → W1.cell? ⟨vb, j, none⟩ = some v := fun j v hj => by
    rw [hB1.cell (p := ⟨vb, j, none⟩) hvw]
    exact (cell_of_row w vb j _ _ _ hv).trans (by simpa using hj)
  have hRs : ∀ j v, (RuleK.row (xs.drop i))[j]? = some v → W1.cell? ⟨g, i * 7 + j, none⟩ = some v := fun j v hj => by
    rw [hB1.cell (p := ⟨g, i * 7 + j, none⟩) hgw]
    rw [Kd.row_drop, List.getElem?_drop] at hj
    exact hxs _ v hj
  have hcpA : ∀ (W : World), (∀ x, W.cell? x = W1.cell? x) → (∀ x, W.frozen? x = W1.frozen? x) → ∀ ty dc, (Builtin.copy_ #[24, 24] ty #[.slice (some ⟨w.heap.size, i * 7, none⟩) (n + 1 - i) dc, .slice (some ⟨vb, 0, none⟩) 1 1]).run Try.prog W = .ok (goInt (Nat.min 1 (n + 1 - i))) (W.setCells w.heap.size (i * 7) (RuleK.enc x)) := fun W hWc hWf ty dc =>
    run_copy_k W _ _ ty 52 7 w.heap.size (i * 7) (n + 1 - i) dc ⟨vb, 0, none⟩ 1 1 _ Try.underlying24 hsz (by rw [RuleK.len, show Nat.min 1 (n + 1 - i) = 1 from Nat.min_eq_left (by omega)]; rfl)
      (fun j v hj => by rw [Addr.add_lit, hWc, Nat.zero_add]; exact hvs j v hj)
      (fun j hj => by
        rw [hWc]
        obtain ⟨u, hu⟩ := own_cell hown0 (j := i * 7 + j) (by rw [RuleK.len] at hj; simp only [RuleK] at hj; omega)
        rw [hu]; rfl) (fun j hj => by rw [hWf]; exact hown0.frozenAt _) (fun v hv => hfit v (List.mem_append_right _ hv))
  have hown1 := own_setCells (RuleK.enc x) (i * 7) hown0
  have hcpB : ∀ (W : World), (∀ y, W.cell? y = (W1.setCells w.heap.size (i * 7) (RuleK.enc x)).cell? y) → (∀ y, W.frozen? y = (W1.setCells w.heap.size (i * 7) (RuleK.enc x)).frozen? y) → ∀ ty dc sc, (Builtin.copy_ #[24, 24] ty #[.slice (some ⟨w.heap.size, (i + 1) * 7, none⟩) (n + 1 - (i + 1)) dc, .slice (some ⟨g, i * 7, none⟩) (n - i) sc]).run Try.prog W = .ok (goInt (Nat.min (n - i) (n + 1 - (i + 1)))) (W.setCells w.heap.size ((i + 1) * 7) (RuleK.row (xs.drop i))) := fun W hWc hWf ty dc sc =>
    run_copy_k W _ _ ty 52 7 w.heap.size ((i + 1) * 7) (n + 1 - (i + 1)) dc ⟨g, i * 7, none⟩ (n - i) sc _ Try.underlying24 hsz (by rw [hRl]; congr 1; simp only [Nat.min_def]; split <;> omega)
      (fun j v hj => by
        rw [Addr.add_lit, hWc, World.cell?_setCells_out _ _ _ _ _ (fun h _ => absurd h (by show g ≠ w.heap.size; omega))]
        exact hRs j v hj)
      (fun j hj => by
        rw [hWc]
        obtain ⟨u, hu⟩ := own_cell hown1.1 (j := (i + 1) * 7 + j) (by rw [hRl] at hj; omega)
        rw [hu]; rfl) (fun j hj => by rw [hWf]; exact hown1.1.frozenAt _) (fun v hv => hfit v (List.mem_append_left _ (by rw [Kd.row_drop] at hv; exact List.mem_of_mem_drop hv)))
  obtain ⟨W2, hW2⟩ : ∃ W2, W2 = W1.setCells w.heap.size (i * 7) (RuleK.enc x) := ⟨_, rfl⟩
  have HFIN : Hid (InsRule base w (some ⟨g, 0, none⟩) n oc (xs.take i ++ x :: xs.drop i) (.returned (.slice (some ⟨w.heap.size, 0, none⟩) (n + 1) G)) ((W1.setCells w.heap.size (i * 7) (RuleK.enc x)).drew.setCells w.heap.size ((i + 1) * 7) (RuleK.row (xs.drop i)))) := Lib.hid (by
    rw [← hW2] at hown1 ⊢
    have hown2 := own_setCells (RuleK.row (xs.drop i)) ((i + 1) * 7) hown1.1.drew
    have h3 := own_less hown2.1 hGn
    have h4 := fill_cells (RuleK.row (xs.take i)) (RuleK.row (xs.drop i)) Z (RuleK.enc x) (by rw [hZl, hRl, RuleK.len]; simp only [RuleK]; omega)
    have h6 : (RuleK.enc x).length = 7 := rfl
    rw [hPl, hRl, h6] at h4
    rw [show (i + 1) * 7 = i * 7 + 7 by omega, show (n + 1) * 7 = i * 7 + 7 + (n - i) * 7 by omega, h4, ← insRule_row] at h3
    have h7 := hown2.2
    rw [show (i + 1) * 7 = i * 7 + 7 by omega] at h7 ⊢
    refine ⟨_, _, rfl, h3, ⟨h7.os.trans (hown1.2.os.trans hB1.os), h7.tape.trans (hown1.2.tape.trans hB1.tape), h7.output.trans (hown1.2.output.trans hB1.output), Nat.le_trans hB1.size (Nat.le_trans hown1.2.size h7.size), fun k hk hne => ?_⟩⟩
    have hk1 := Nat.lt_of_lt_of_le hk hB1.size
    have hnk : some k ≠ some w.heap.size := by simp; omega
    exact (h7.block k (Nat.lt_of_lt_of_le hk1 hown1.2.size) hnk).trans ((hown1.2.block k hk1 hnk).trans (hB1.block k hk)))
  have hz2 : ¬ ((i : Int) = (n : Int)) := by omega
  have hz3 : (oc : Int) < (n : Int) + 1 := by omega
  have hw1 : IntKind.i64.wrap ((i : Int) + 1) = (i : Int) + 1 := by rw [IntKind.wrap_i64]; omega
  have hw2 : IntKind.i64.wrap ((n : Int) + 1) = (n : Int) + 1 := by rw [IntKind.wrap_i64]; omega
  have hb1 : (0 : Int) ≤ (i : Int) + 1 := by omega
  have hin : i ≤ n := by omega
  have htn : ((i : Int) + 1).toNat = i + 1 := by omega
  have hb3 : (i : Int) ≤ (n : Int) := by omega
  have hGi : ¬ (G = i) := by omega
  have hGim : ¬ (G = i + 1) := by omega
  have hci : ¬ (oc = i) := by omega
  have hG63 : G ≤ 9223372036854775807 := by unfold maxLen at hGm; omega
  have hF1 : ∀ y, ((W1.setCells w.heap.size (i * 7) (RuleK.enc x)).drew).cell? y = (W1.setCells w.heap.size (i * 7) (RuleK.enc x)).cell? y := by rw [← hW2]; exact fun _ => rfl
  have hF2 : ∀ y, ((W1.setCells w.heap.size (i * 7) (RuleK.enc x)).drew).frozen? y = (W1.setCells w.heap.size (i * 7) (RuleK.enc x)).frozen? y := by rw [← hW2]; exact fun _ => rfl
  have mixed : Try.prog.follows Departure.mixedOrders = true := by kernel_rfl
  clear hRs hvs hfit hxs own hown0 hown1 hW2 hRl hPl hZl hn hB1 hW1 hkk hik hold hi0 hz0 hzs hzb hgw hvw hG hZ
  go_enter Try.func96, Try.ntmps96
  go_wp2_with (first
    | (at_builtin; refine Lib.wpList_append_run _ rfl _ _ _ _ rfl _ _ rfl rfl _ _ (hrz _) ?_)
    | (at_builtin; refine wpList_copy_runI _ rfl _ _ 24 24 rfl _ _ rfl rfl (hcpA _ (fun _ => rfl) (fun _ => rfl) _ _) ?_))
  go_region_law_o (refine step_copy_runI rfl _ _ 24 24 rfl (.slice (some ⟨w.heap.size, (i + 1) * 7, none⟩) (n + 1 - (i + 1)) (G - (i + 1))) (.slice (some ⟨g, i * 7, none⟩) (n - i) (oc - i)) (by simp [Act.eval, Act.put]) (by simp [Act.eval, Act.put]) (hcpB _ hF1 hF2 _ _ _) ?_)
  go_wp2
  go_ret
  exact HFIN.out
end Go.Proofs.Ytifahgdalgjgfaa
namespace Go.Proofs.Ytifahgdalgjgfaa
open Go.RowKit
set_option linter.unusedVariables false
set_option linter.unusedSimpArgs false
attribute [local go_sem ↓] Go.wp_at_zero Go.wp_at_succ
theorem heap_lt_ {w : World} {g : Nat} {o : Obj} (h : w.heap[g]? = some o) : g < w.heap.size := by
  rcases Nat.lt_or_ge g w.heap.size with h1 | h1
  · exact h1
  · rw [Array.getElem?_eq_none h1] at h; cases h
theorem heap_below {w w' : World} {g : Nat} {o : Obj} (h : w.heap[g]? = some o) (hb : Below w.heap.size w w') : w'.heap[g]? = some o := (hb.block g (heap_lt_ h)).trans h
theorem insRule_any (base : Nat) (O : Option Addr) (n oc i vb : Nat) (xs : List Rul) (x : Rul) (w : World) (hn : n = xs.length) (own : w.ownsRow base 52 7 (.slice O n oc) n (RuleK.row xs)) (hi : i ≤ n) (hv : w.heap[vb]? = some (.cells (RuleK.enc x).toArray 52 (0, 0))) (hne : (Value.slice O n oc).ownBlock ≠ some vb) (hm : n ≤ 1000000) (hb0 : base ≤ w.heap.size) :
    Calls Try.prog 96 #[.slice O n oc, .int .i64 i, .slice (some ⟨vb, 0, none⟩) 1 1] w (InsRule base w O n oc (xs.take i ++ x :: xs.drop i)) := by
  rcases Nat.lt_or_ge i n with h | h
  · obtain ⟨g, cap, hvv, _, _⟩ := own.form (by omega)
    obtain ⟨rfl, _, rfl⟩ : O = some ⟨g, 0, none⟩ ∧ n = n ∧ oc = cap := (by simpa using hvv)
    rcases Nat.lt_or_ge oc (n + 1) with hr | hr
    · exact insRule_grow base g n oc i vb xs x w hn own h hr hv hm hb0
    · exact insRule_shift base g n oc i vb xs x w hn own h hr hv (fun e => hne (by rw [e]; rfl)) hm
  · obtain rfl : i = n := by omega
    exact insRule_end base O i oc vb xs x w hn own (by omega) (fun j u hj => ⟨_, rfl, by rw [add_head]; exact (cell_of_row w vb j _ _ _ hv).trans (by simpa using hj)⟩) hb0
def rkL (ys : List Rul) : List Rul := if rulesB ys = true then ys else []
theorem rkL_len {ys : List Rul} : (rkL ys).length ≤ ys.length := by unfold rkL; split <;> simp
theorem rkL_fit {ys : List Rul} (hf : ∀ y ∈ ys, RuleK.fit y) : ∀ y ∈ rkL ys, RuleK.fit y := fun y hy => by
  unfold rkL at hy
  split at hy
  · exact hf y hy
  · cases hy
theorem asRules_any (base : Nat) (O : Option Addr) (oc : Nat) (ys : List Rul) (n : Nat) (w : World) (hn : n = ys.length) (h : w.ownsRow base 52 7 (.slice O n oc) n (RuleK.row ys)) (hm : ys.length ≤ 1048576) (hf : ∀ x ∈ ys, RuleK.fit x) (hb0 : base ≤ w.heap.size) :
    Calls Try.prog 95 #[.slice O n oc] w fun e w' => ∃ (P : Option Addr) (m p : Nat), e = .returned (.tuple #[.slice P m p, .bool (rulesB ys)]) ∧ m = (rkL ys).length ∧ w'.ownsRow base 52 7 (.slice P m p) m (RuleK.row (rkL ys)) ∧ Below w.heap.size w w' := by
  have H := Lib.hid h
  have HF := Lib.hid hf
  have HN := Lib.hid hn
  have HC := Lib.hid (show ys.length ≤ oc by rw [← hn]; exact own_cap h)
  clear h hf hn
  go_enter Try.func95, Try.ntmps95
  go_wp2_with fail
  refine (by have h := IsValidRules_any O oc ys w (Cells.of_own H.out) hm HC.out HF.out; rw [← HN.out] at h; exact h : Calls Try.prog 76 #[.slice O n oc] w fun e w' => e = .returned (.bool (rulesB ys)) ∧ Below w.heap.size w w').mono ?_
  rintro e w1 ⟨rfl, hb⟩
  have HO := Lib.hid (own_keep H.out hb)
  have HB := Lib.hid hb
  clear hb
  rcases Bool.eq_false_or_eq_true (rulesB ys) with hd | hd
  · have HD := Lib.hid (show rkL ys = ys ∧ rulesB ys = true from ⟨by unfold rkL; rw [if_pos hd], hd⟩)
    rw [hd]
    clear hd
    go_wp2
    go_ret2
    exact ⟨O, n, oc, by rw [HD.out.2]; rfl, by rw [HD.out.1]; exact HN.out, by rw [HD.out.1]; exact HO.out, HB.out⟩
  · have HD := Lib.hid (show rkL ys = [] ∧ rulesB ys = false from ⟨by unfold rkL; rw [hd]; rfl, hd⟩)
    rw [hd]
    clear hd
    go_wp2
    go_ret2
    exact ⟨none, 0, 0, by rw [HD.out.2]; rfl, by rw [HD.out.1]; rfl, by rw [HD.out.1]; exact World.ownsRow_nil _ _ _ _, HB.out⟩
theorem insR_fit {x : Rul} {xs : List Rul} (hf : ∀ y ∈ xs, RuleK.fit y) (hx : RuleK.fit x) : ∀ y ∈ insR x xs, RuleK.fit y := fun y hy => by
  rcases insR_mem hy with h | h
  · rw [h]; exact hx
  · exact hf y h
set_option maxHeartbeats 8000000 in
set_option maxRecDepth 100000 in
theorem AddRule_any (A : Option Addr) (c : Nat) (xs : List Rul) (x : Rul) (w : World) (ha : Cells w A (RuleK.row xs)) (hcc : xs.length ≤ c) (hm : xs.length ≤ 1000000) (hf : ∀ y ∈ xs, RuleK.fit y) (hfx : RuleK.fit x) :
    Calls Try.prog 39 #[.slice A xs.length c, .agg #[.int .i64 x.id, .string x.nm, .int .i64 x.rk, .bool x.sc, .bool x.db, .bool x.am, .int .i64 x.nd]] w (ToLB RuleK 52 w (adL xs x) (adB xs x)) := by
  have HA := Lib.hid ha
  have HF := Lib.hid hf
  have HFX := Lib.hid hfx
  clear ha hf hfx
  have N0 := Lib.hid (BT.new w #[.int .i64 x.id, .string x.nm, .int .i64 x.rk, .bool x.sc, .bool x.db, .bool x.am, .int .i64 x.nd] 52 w.heap.size rfl)
  have HB := Lib.hid (below1 w (.cells #[.int .i64 x.id, .string x.nm, .int .i64 x.rk, .bool x.sc, .bool x.db, .bool x.am, .int .i64 x.nd] 52))
  have hs : w.heap.size < (w.alloc (.cells #[.int .i64 x.id, .string x.nm, .int .i64 x.rk, .bool x.sc, .bool x.db, .bool x.am, .int .i64 x.nd] 52)).heap.size := by simp
  go_enter Try.func39, Try.ntmps39
  go_upto_region 1 with fail
  generalize (w.alloc (.cells #[.int .i64 x.id, .string x.nm, .int .i64 x.rk, .bool x.sc, .bool x.db, .bool x.am, .int .i64 x.nd] 52)) = W at *
  go_wp2_with fail
  refine (IsValidRules_any A c xs W (HA.out.below HB.out) (by omega) hcc HF.out).mono ?_
  rintro e w1 ⟨rfl, hb⟩
  replace N0 := Lib.hid (N0.out.call hb)
  replace HB := Lib.hid (HB.out.trans (hb.mono HB.out.size))
  replace hs := Nat.lt_of_lt_of_le hs hb.size
  clear hb
  rcases Bool.eq_false_or_eq_true (rulesB xs) with hv | hv
  · rw [hv]
    have h88 := rules_le8 hv
    have HV := Lib.hid hv
    clear hv
    go_upto_block 0 with fail
    go_cut [6] (fun i wx => i = .int .i64 ((cntR x.id xs : Nat) : Int) ∧ ∃ m, wx = w1.drewN m)
    case first =>
      have b0 := N0.out.box.1 0 _ rfl
      go_wp2_with fail
      go_loopw [6] (fun i wr => ∃ k : Nat, k ≤ xs.length ∧ i = .int .i64 k ∧ Hid (cntR x.id xs = k + cntR x.id (xs.drop k)) ∧ ∃ m, wr = w1.drewN m) (fun i _ => xs.length - (intOf i).toNat)
      case atStart => exact ⟨0, Nat.zero_le _, rfl, Lib.hid (by rw [List.drop_zero, Nat.zero_add]), 0, rfl⟩
      case round =>
        obtain ⟨k, hk, rfl, hq, m, rfl⟩ := hrel
        by_cases hlt : k < xs.length
        · obtain ⟨a, ha2, hc0, _, _, _, _, _, _⟩ := rule_at (HA.out.below HB.out) hlt
          subst ha2
          have i1 : (k : Int) < (xs.length : Int) := by omega
          have HY := Lib.hid (cntR_yes (i := x.id) hlt)
          have HN := Lib.hid (cntR_no (i := x.id) hlt)
          obtain ⟨y, hy⟩ : ∃ y, Hid (xs[k].id = y) := ⟨_, Lib.hid rfl⟩
          rw [hy.out] at hc0 HY HN
          clear hy
          by_cases hl : y < x.id
          · have HA2 := Lib.hid (hq.out.trans (HY.out hl))
            have hd : decide (y < x.id) = true := decide_eq_true hl
            clear hq HY HN
            go_wp2
            go_quiet (fail)
            go_wp2
            go_roundw
            case rel => exact ⟨k + 1, by omega, by go_num, HA2, by first | exact ⟨_, rfl⟩ | exact ⟨_, World.drewN_drewN _ _ _⟩⟩
            case measure => simp [intOf]; omega
          · have HA2 := Lib.hid (hq.out.trans (HN.out hl))
            have hd : decide (y < x.id) = false := decide_eq_false hl
            clear hq HY HN
            go_wp2
            go_quiet (fail)
            go_wp2_with fail
            go_meet
            exact ⟨by rw [HA2.out], by first | exact ⟨_, rfl⟩ | exact ⟨_, World.drewN_drewN _ _ _⟩⟩
        · obtain rfl : k = xs.length := by omega
          have HA2 := Lib.hid (hq.out.trans cntR_end)
          clear hq
          go_wp2
          go_quiet (fail)
          go_wp2_with fail
          go_meet
          exact ⟨by rw [HA2.out], by first | exact ⟨_, rfl⟩ | exact ⟨_, World.drewN_drewN _ _ _⟩⟩
    case rest =>
      obtain ⟨rfl, m, hwc⟩ := hcut
      have hwd : Below w1.heap.size w1 wc := by rw [hwc]; exact below_drewN (Below.refl _ _) m
      clear hwc
      obtain ⟨ws, hws⟩ : ∃ ws, ws = wc := ⟨_, rfl⟩
      subst hws
      replace N0 := Lib.hid (N0.out.call hwd)
      replace HB := Lib.hid (HB.out.trans (hwd.mono HB.out.size))
      replace hs := Nat.lt_of_lt_of_le hs hwd.size
      clear hwd
      have hnl := cntR_le x.id xs
      have HIL := Lib.hid (insR_len x xs)
      obtain ⟨n, hK⟩ : ∃ ct, Hid (cntR x.id xs = ct) := ⟨_, Lib.hid rfl⟩
      rw [hK.out] at hnl ⊢
      have HINS := Lib.hid (show xs.take n ++ x :: xs.drop n = insR x xs by unfold insR; rw [hK.out])
      clear hK
      have KS2 : ∀ {w' : World}, Below ws.heap.size ws w' → (Below ws.heap.size ws w' ∧ (∀ o, w'.cell? ⟨w.heap.size, o, none⟩ = ws.cell? ⟨w.heap.size, o, none⟩)) := fun h => ⟨h, fun o => h.cell (p := ⟨w.heap.size, o, none⟩) hs⟩
      have x0 := N0.out.box.1 0 _ rfl
      have x1 := N0.out.box.1 1 _ rfl
      have x2 := N0.out.box.1 2 _ rfl
      have x3 := N0.out.box.1 3 _ rfl
      have x4 := N0.out.box.1 4 _ rfl
      have x5 := N0.out.box.1 5 _ rfl
      have x6 := N0.out.box.1 6 _ rfl
      go_upto_region 6 with fail
      refine wp_region_noPanic ?_
      refine wp_region_held_drew (S := (fun w' => Below ws.heap.size ws w' ∧ (∀ o, w'.cell? ⟨w.heap.size, o, none⟩ = ws.cell? ⟨w.heap.size, o, none⟩))) (by kernel_rfl) ?_ (fun hHeld => ?_)
      · ((try dsimp only); exact KS2 (Below.refl _ _).drew)
      have HX := Lib.hid (show Below ws.heap.size ws ws.drew from (Below.refl _ _).drew)
      generalize ws.drew = ud at *
      refine take_yes (i := 1) (d := 27) (v := ?_) rfl rfl (by kernel_rfl) (by kernel_rfl) (by kernel_rfl) (fun _ _ _ h => h) (by kernel_rfl) ?_ hHeld ?_
      rotate_left
      · (intro w hSw; (try dsimp only at hSw); go_simp; try (with_reducible rfl))
      try simp only [Act.put, List.setIfInBounds_toArray, List.set_cons_zero, List.set_cons_succ]
      refine take_yes (i := 3) (d := 29) (v := ?_) rfl rfl (by kernel_rfl) (by kernel_rfl) (by kernel_rfl) (fun _ _ _ h => h) (by kernel_rfl) ?_ hHeld ?_
      rotate_left
      · (intro w hSw; (try dsimp only at hSw); go_simp; try (with_reducible rfl))
      try simp only [Act.put, List.setIfInBounds_toArray, List.set_cons_zero, List.set_cons_succ]
      refine take_yes (i := 4) (d := 30) (v := ?_) rfl rfl (by kernel_rfl) (by kernel_rfl) (by kernel_rfl) (fun _ _ _ h => h) (by kernel_rfl) ?_ hHeld ?_
      rotate_left
      · (intro w hSw; (try dsimp only at hSw); go_simp; try (with_reducible rfl))
      try simp only [Act.put, List.setIfInBounds_toArray, List.set_cons_zero, List.set_cons_succ]
      refine wpAnyH_ready (rs := [0, 5]) (by kernel_rfl) (by simp) ?_
      refine AllReadyH.cons rfl (fun K hK => ?_) (AllReadyH.cons rfl (fun K hK => ?_) (AllReadyH.nil))
      · try go_simp
        (first | refine hK.out _ _ ?_ (fun hHeld1 => ?_) | (go_wp2_with fail; refine hK.out _ _ ?_ (fun hHeld1 => ?_)))
        · ((try dsimp only); exact KS2 (HX.out.trans ((below1 ud _).mono HX.out.size)))
        clear hK K hHeld
        have hHeld := hHeld1
        clear hHeld1
        try simp only [Act.put, List.setIfInBounds_toArray, List.set_cons_zero, List.set_cons_succ]
        have hsz := HX.out.size
        have hb := below1 ud (.cells #[] 52)
        have HZ := Lib.hid (own_nil_lit ud ws.heap.size ud.heap.size 52 7 rfl hsz)
        replace hb := hb.mono hsz
        replace HX := Lib.hid (HX.out.trans hb)
        clear hb hsz
        generalize (ud.alloc (.cells #[] 52)) = y1 at *
        generalize ud.heap.size = gz at *
        refine wpAnyH_ready (rs := [2, 5]) (by kernel_rfl) (by simp) ?_
        refine AllReadyH.cons rfl (fun K hK => ?_) (AllReadyH.cons rfl (fun K hK => ?_) (AllReadyH.nil))
        · have hsz := HX.out.size
          refine step_append_lit elRul _ (by rfl) _ _ (by rfl) ws.heap.size gz A xs.length c (RuleK.row xs) (by rfl) (by rfl) (RuleK.row_len xs) HZ.out (HA.out.below (HB.out.trans (HX.out.mono HB.out.size))) rul_one hsz (by omega) ?_
          intro O1 d1 y2 own1 hb hq1
          have HO1 := Lib.hid own1
          have HF1 := Lib.hid hb
          have HBN := Lib.hid (HX.out.trans (hb.mono hsz))
          clear own1 hb hq1
          (first | refine hK.out _ _ ?_ (fun hHeld1 => ?_) | (go_wp2_with fail; refine hK.out _ _ ?_ (fun hHeld1 => ?_)))
          · ((try dsimp only); exact KS2 HBN.out)
          clear hK K hHeld
          have hHeld := hHeld1
          clear hHeld1
          try simp only [Act.put, List.setIfInBounds_toArray, List.set_cons_zero, List.set_cons_succ]
          replace HX := Lib.hid (HX.out.trans (HF1.out.mono hsz))
          clear hsz HF1
          refine wpAnyH_ready (rs := [5]) (by kernel_rfl) (by simp) ?_
          refine AllReadyH.cons rfl (fun K hK => ?_) (AllReadyH.nil)
          try go_simp
          (first | refine hK.out _ _ ?_ (fun hHeld1 => ?_) | (go_wp2_with fail; refine hK.out _ _ ?_ (fun hHeld1 => ?_)))
          · ((try dsimp only); exact KS2 (HX.out.trans ((below1 y2 _).mono HX.out.size)))
          clear hK K hHeld
          have hHeld := hHeld1
          clear hHeld1
          try simp only [Act.put, List.setIfInBounds_toArray, List.set_cons_zero, List.set_cons_succ]
          have hsz := HX.out.size
          have hb := below1 y2 (.cells #[.int .i64 x.id, .string x.nm, .int .i64 x.rk, .bool x.sc, .bool x.db, .bool x.am, .int .i64 x.nd] 52)
          have HNE := Lib.hid (show (Value.slice O1 xs.length d1).ownBlock ≠ some y2.heap.size from fun e => absurd (HO1.out.lt _ e).2 (by omega))
          replace HO1 := Lib.hid (own_keep HO1.out hb)
          have HXC := Lib.hid (show ((y2.alloc (.cells #[.int .i64 x.id, .string x.nm, .int .i64 x.rk, .bool x.sc, .bool x.db, .bool x.am, .int .i64 x.nd] 52))).heap[y2.heap.size]? = some (.cells (RuleK.enc x).toArray 52 (0, 0)) from heap_alloc_new y2 _)
          replace hb := hb.mono hsz
          replace HX := Lib.hid (HX.out.trans hb)
          clear hb hsz
          generalize (y2.alloc (.cells #[.int .i64 x.id, .string x.nm, .int .i64 x.rk, .bool x.sc, .bool x.db, .bool x.am, .int .i64 x.nd] 52)) = y3 at *
          generalize y2.heap.size = gx at *
          refine wpAnyH_ready (rs := [6]) (by kernel_rfl) (by simp) ?_
          refine AllReadyH.cons rfl (fun K hK => ?_) (AllReadyH.nil)
          go_simp
          (go_at_call 96; refine (insRule_any ws.heap.size O1 xs.length d1 n gx xs x _ rfl HO1.out hnl HXC.out HNE.out (by omega) HX.out.size).mono ?_; rintro e y4 ⟨O3, d3, rfl, own, hg⟩; have HO3 := Lib.hid own; rw [HINS.out] at HO3; have HF1 := Lib.hid (below_of_grownBy hg HX.out.size (fun g e => (HO1.out.lt g e).1)); have HBN := Lib.hid (HX.out.trans HF1.out); clear own hg)
          (first | refine hK.out _ _ ?_ (fun hHeld1 => ?_) | (go_wp2_with fail; refine hK.out _ _ ?_ (fun hHeld1 => ?_)))
          · ((try dsimp only); exact KS2 HBN.out)
          clear hK K hHeld
          have hHeld := hHeld1
          clear hHeld1
          try simp only [Act.put, List.setIfInBounds_toArray, List.set_cons_zero, List.set_cons_succ]
          replace HX := Lib.hid (HX.out.trans HF1.out)
          clear HF1
          have hn3 := Lib.hid HIL.out.symm
          refine wpAnyH_ready (rs := [7]) (by kernel_rfl) (by simp) ?_
          refine AllReadyH.cons rfl (fun K hK => ?_) (AllReadyH.nil)
          go_simp
          (go_at_call 95; refine (asRules_any ws.heap.size O3 d3 (insR x xs) _ _ hn3.out HO3.out (by rw [HIL.out]; omega) (insR_fit HF.out HFX.out) HX.out.size).mono ?_; rintro e y5 ⟨P, m, q, rfl, hm4, own, hb⟩; have HO4 := Lib.hid own; have HM4 := Lib.hid hm4; have HBN := Lib.hid (HX.out.trans (hb.mono HX.out.size)); clear own hb hm4)
          (first | refine hK.out _ _ ?_ (fun hHeld1 => ?_) | (go_wp2_with fail; refine hK.out _ _ ?_ (fun hHeld1 => ?_)))
          · ((try dsimp only); exact KS2 HBN.out)
          clear hK K hHeld
          have hHeld := hHeld1
          clear hHeld1
          try simp only [Act.put, List.setIfInBounds_toArray, List.set_cons_zero, List.set_cons_succ]
          replace HX := HBN
          refine take_yes (i := 8) (d := 34) (v := ?_) rfl rfl (by kernel_rfl) (by kernel_rfl) (by kernel_rfl) (fun _ _ _ h => h) (by kernel_rfl) ?_ hHeld ?_
          rotate_left
          · (intro w hSw; (try dsimp only at hSw); go_simp; try (with_reducible rfl))
          try simp only [Act.put, List.setIfInBounds_toArray, List.set_cons_zero, List.set_cons_succ]
          refine take_yes (i := 9) (d := 35) (v := ?_) rfl rfl (by kernel_rfl) (by kernel_rfl) (by kernel_rfl) (fun _ _ _ h => h) (by kernel_rfl) ?_ hHeld ?_
          rotate_left
          · (intro w hSw; (try dsimp only at hSw); go_simp; try (with_reducible rfl))
          try simp only [Act.put, List.setIfInBounds_toArray, List.set_cons_zero, List.set_cons_succ]
          refine take_yes (i := 10) (d := 4) (v := ?_) rfl rfl (by kernel_rfl) (by kernel_rfl) (by kernel_rfl) (fun _ _ _ h => h) (by kernel_rfl) ?_ hHeld ?_
          rotate_left
          · (intro w hSw; (try dsimp only at hSw); go_simp; try (with_reducible rfl))
          try simp only [Act.put, List.setIfInBounds_toArray, List.set_cons_zero, List.set_cons_succ]
          refine take_yes (i := 11) (d := 5) (v := ?_) rfl rfl (by kernel_rfl) (by kernel_rfl) (by kernel_rfl) (fun _ _ _ h => h) (by kernel_rfl) ?_ hHeld ?_
          rotate_left
          · (intro w hSw; (try dsimp only at hSw); go_simp; try (with_reducible rfl))
          try simp only [Act.put, List.setIfInBounds_toArray, List.set_cons_zero, List.set_cons_succ]
          refine wpAnyH_done (by kernel_rfl) ?_ _
          refine NoPanic.normal ?_
          clear hHeld x0 x1 x2 x3 x4 x5 x6
          have hBs := HB.out.size
          have HD := Lib.hid (show adL xs x = rkL (insR x xs) ∧ adB xs x = rulesB (insR x xs) by (have e9 : adB xs x = rulesB (insR x xs) := by (unfold adB; rw [HV.out]; rfl)); exact ⟨by unfold adL rkL; rw [e9], e9⟩)
          go_wp2_with (go_ret2; exact ToLB.own_ (ys := rkL (insR x xs)) (own_mono HO4.out hBs) HD.out.1 HM4.out (by (have h1 := rkL_len (ys := insR x xs); rw [HIL.out] at h1; omega)) (rkL_fit (insR_fit HF.out HFX.out)) HD.out.2 (HB.out.trans (HX.out.mono hBs)))
        · try go_simp
          (first | refine hK.out _ _ ?_ (fun hHeld1 => ?_) | (go_wp2_with fail; refine hK.out _ _ ?_ (fun hHeld1 => ?_)))
          · ((try dsimp only); exact KS2 (HX.out.trans ((below1 y1 _).mono HX.out.size)))
          clear hK K hHeld
          have hHeld := hHeld1
          clear hHeld1
          try simp only [Act.put, List.setIfInBounds_toArray, List.set_cons_zero, List.set_cons_succ]
          have hsz := HX.out.size
          have hb := below1 y1 (.cells #[.int .i64 x.id, .string x.nm, .int .i64 x.rk, .bool x.sc, .bool x.db, .bool x.am, .int .i64 x.nd] 52)
          have HGE := Lib.hid (show y1.heap.size ≠ gz from fun e => absurd (HZ.out.lt gz rfl).2 (by omega))
          replace HZ := Lib.hid (own_keep HZ.out hb)
          have HXC := Lib.hid (show ((y1.alloc (.cells #[.int .i64 x.id, .string x.nm, .int .i64 x.rk, .bool x.sc, .bool x.db, .bool x.am, .int .i64 x.nd] 52))).heap[y1.heap.size]? = some (.cells (RuleK.enc x).toArray 52 (0, 0)) from heap_alloc_new y1 _)
          replace hb := hb.mono hsz
          replace HX := Lib.hid (HX.out.trans hb)
          clear hb hsz
          generalize (y1.alloc (.cells #[.int .i64 x.id, .string x.nm, .int .i64 x.rk, .bool x.sc, .bool x.db, .bool x.am, .int .i64 x.nd] 52)) = y2 at *
          generalize y1.heap.size = gx at *
          refine wpAnyH_ready (rs := [2]) (by kernel_rfl) (by simp) ?_
          refine AllReadyH.cons rfl (fun K hK => ?_) (AllReadyH.nil)
          have hsz := HX.out.size
          refine step_append_lit elRul _ (by rfl) _ _ (by rfl) ws.heap.size gz A xs.length c (RuleK.row xs) (by rfl) (by rfl) (RuleK.row_len xs) HZ.out (HA.out.below (HB.out.trans (HX.out.mono HB.out.size))) rul_one hsz (by omega) ?_
          intro O1 d1 y3 own1 hb hq1
          have HO1 := Lib.hid own1
          have HNE := Lib.hid (hq1 gx HGE.out (heap_lt_ HXC.out))
          have HF1 := Lib.hid hb
          have HBN := Lib.hid (HX.out.trans (hb.mono hsz))
          clear own1 hb hq1
          (first | refine hK.out _ _ ?_ (fun hHeld1 => ?_) | (go_wp2_with fail; refine hK.out _ _ ?_ (fun hHeld1 => ?_)))
          · ((try dsimp only); exact KS2 HBN.out)
          clear hK K hHeld
          have hHeld := hHeld1
          clear hHeld1
          try simp only [Act.put, List.setIfInBounds_toArray, List.set_cons_zero, List.set_cons_succ]
          replace HXC := Lib.hid (heap_below HXC.out HF1.out)
          replace HX := Lib.hid (HX.out.trans (HF1.out.mono hsz))
          clear hsz HF1
          refine wpAnyH_ready (rs := [6]) (by kernel_rfl) (by simp) ?_
          refine AllReadyH.cons rfl (fun K hK => ?_) (AllReadyH.nil)
          go_simp
          (go_at_call 96; refine (insRule_any ws.heap.size O1 xs.length d1 n gx xs x _ rfl HO1.out hnl HXC.out HNE.out (by omega) HX.out.size).mono ?_; rintro e y4 ⟨O3, d3, rfl, own, hg⟩; have HO3 := Lib.hid own; rw [HINS.out] at HO3; have HF1 := Lib.hid (below_of_grownBy hg HX.out.size (fun g e => (HO1.out.lt g e).1)); have HBN := Lib.hid (HX.out.trans HF1.out); clear own hg)
          (first | refine hK.out _ _ ?_ (fun hHeld1 => ?_) | (go_wp2_with fail; refine hK.out _ _ ?_ (fun hHeld1 => ?_)))
          · ((try dsimp only); exact KS2 HBN.out)
          clear hK K hHeld
          have hHeld := hHeld1
          clear hHeld1
          try simp only [Act.put, List.setIfInBounds_toArray, List.set_cons_zero, List.set_cons_succ]
          replace HX := Lib.hid (HX.out.trans HF1.out)
          clear HF1
          have hn3 := Lib.hid HIL.out.symm
          refine wpAnyH_ready (rs := [7]) (by kernel_rfl) (by simp) ?_
          refine AllReadyH.cons rfl (fun K hK => ?_) (AllReadyH.nil)
          go_simp
          (go_at_call 95; refine (asRules_any ws.heap.size O3 d3 (insR x xs) _ _ hn3.out HO3.out (by rw [HIL.out]; omega) (insR_fit HF.out HFX.out) HX.out.size).mono ?_; rintro e y5 ⟨P, m, q, rfl, hm4, own, hb⟩; have HO4 := Lib.hid own; have HM4 := Lib.hid hm4; have HBN := Lib.hid (HX.out.trans (hb.mono HX.out.size)); clear own hb hm4)
          (first | refine hK.out _ _ ?_ (fun hHeld1 => ?_) | (go_wp2_with fail; refine hK.out _ _ ?_ (fun hHeld1 => ?_)))
          · ((try dsimp only); exact KS2 HBN.out)
          clear hK K hHeld
          have hHeld := hHeld1
          clear hHeld1
          try simp only [Act.put, List.setIfInBounds_toArray, List.set_cons_zero, List.set_cons_succ]
          replace HX := HBN
          refine take_yes (i := 8) (d := 34) (v := ?_) rfl rfl (by kernel_rfl) (by kernel_rfl) (by kernel_rfl) (fun _ _ _ h => h) (by kernel_rfl) ?_ hHeld ?_
          rotate_left
          · (intro w hSw; (try dsimp only at hSw); go_simp; try (with_reducible rfl))
          try simp only [Act.put, List.setIfInBounds_toArray, List.set_cons_zero, List.set_cons_succ]
          refine take_yes (i := 9) (d := 35) (v := ?_) rfl rfl (by kernel_rfl) (by kernel_rfl) (by kernel_rfl) (fun _ _ _ h => h) (by kernel_rfl) ?_ hHeld ?_
          rotate_left
          · (intro w hSw; (try dsimp only at hSw); go_simp; try (with_reducible rfl))
          try simp only [Act.put, List.setIfInBounds_toArray, List.set_cons_zero, List.set_cons_succ]
          refine take_yes (i := 10) (d := 4) (v := ?_) rfl rfl (by kernel_rfl) (by kernel_rfl) (by kernel_rfl) (fun _ _ _ h => h) (by kernel_rfl) ?_ hHeld ?_
          rotate_left
          · (intro w hSw; (try dsimp only at hSw); go_simp; try (with_reducible rfl))
          try simp only [Act.put, List.setIfInBounds_toArray, List.set_cons_zero, List.set_cons_succ]
          refine take_yes (i := 11) (d := 5) (v := ?_) rfl rfl (by kernel_rfl) (by kernel_rfl) (by kernel_rfl) (fun _ _ _ h => h) (by kernel_rfl) ?_ hHeld ?_
          rotate_left
          · (intro w hSw; (try dsimp only at hSw); go_simp; try (with_reducible rfl))
          try simp only [Act.put, List.setIfInBounds_toArray, List.set_cons_zero, List.set_cons_succ]
          refine wpAnyH_done (by kernel_rfl) ?_ _
          refine NoPanic.normal ?_
          clear hHeld x0 x1 x2 x3 x4 x5 x6
          have hBs := HB.out.size
          have HD := Lib.hid (show adL xs x = rkL (insR x xs) ∧ adB xs x = rulesB (insR x xs) by (have e9 : adB xs x = rulesB (insR x xs) := by (unfold adB; rw [HV.out]; rfl)); exact ⟨by unfold adL rkL; rw [e9], e9⟩)
          go_wp2_with (go_ret2; exact ToLB.own_ (ys := rkL (insR x xs)) (own_mono HO4.out hBs) HD.out.1 HM4.out (by (have h1 := rkL_len (ys := insR x xs); rw [HIL.out] at h1; omega)) (rkL_fit (insR_fit HF.out HFX.out)) HD.out.2 (HB.out.trans (HX.out.mono hBs)))
      · try go_simp
        (first | refine hK.out _ _ ?_ (fun hHeld1 => ?_) | (go_wp2_with fail; refine hK.out _ _ ?_ (fun hHeld1 => ?_)))
        · ((try dsimp only); exact KS2 (HX.out.trans ((below1 ud _).mono HX.out.size)))
        clear hK K hHeld
        have hHeld := hHeld1
        clear hHeld1
        try simp only [Act.put, List.setIfInBounds_toArray, List.set_cons_zero, List.set_cons_succ]
        have hsz := HX.out.size
        have hb := below1 ud (.cells #[.int .i64 x.id, .string x.nm, .int .i64 x.rk, .bool x.sc, .bool x.db, .bool x.am, .int .i64 x.nd] 52)
        have HXC := Lib.hid (show ((ud.alloc (.cells #[.int .i64 x.id, .string x.nm, .int .i64 x.rk, .bool x.sc, .bool x.db, .bool x.am, .int .i64 x.nd] 52))).heap[ud.heap.size]? = some (.cells (RuleK.enc x).toArray 52 (0, 0)) from heap_alloc_new ud _)
        replace hb := hb.mono hsz
        replace HX := Lib.hid (HX.out.trans hb)
        clear hb hsz
        generalize (ud.alloc (.cells #[.int .i64 x.id, .string x.nm, .int .i64 x.rk, .bool x.sc, .bool x.db, .bool x.am, .int .i64 x.nd] 52)) = y1 at *
        generalize ud.heap.size = gx at *
        refine wpAnyH_ready (rs := [0]) (by kernel_rfl) (by simp) ?_
        refine AllReadyH.cons rfl (fun K hK => ?_) (AllReadyH.nil)
        try go_simp
        (first | refine hK.out _ _ ?_ (fun hHeld1 => ?_) | (go_wp2_with fail; refine hK.out _ _ ?_ (fun hHeld1 => ?_)))
        · ((try dsimp only); exact KS2 (HX.out.trans ((below1 y1 _).mono HX.out.size)))
        clear hK K hHeld
        have hHeld := hHeld1
        clear hHeld1
        try simp only [Act.put, List.setIfInBounds_toArray, List.set_cons_zero, List.set_cons_succ]
        have hsz := HX.out.size
        have hb := below1 y1 (.cells #[] 52)
        have HGE := Lib.hid (show gx ≠ y1.heap.size from Nat.ne_of_lt (heap_lt_ HXC.out))
        replace HXC := Lib.hid (heap_below HXC.out hb)
        have HZ := Lib.hid (own_nil_lit y1 ws.heap.size y1.heap.size 52 7 rfl hsz)
        replace hb := hb.mono hsz
        replace HX := Lib.hid (HX.out.trans hb)
        clear hb hsz
        generalize (y1.alloc (.cells #[] 52)) = y2 at *
        generalize y1.heap.size = gz at *
        refine wpAnyH_ready (rs := [2]) (by kernel_rfl) (by simp) ?_
        refine AllReadyH.cons rfl (fun K hK => ?_) (AllReadyH.nil)
        have hsz := HX.out.size
        refine step_append_lit elRul _ (by rfl) _ _ (by rfl) ws.heap.size gz A xs.length c (RuleK.row xs) (by rfl) (by rfl) (RuleK.row_len xs) HZ.out (HA.out.below (HB.out.trans (HX.out.mono HB.out.size))) rul_one hsz (by omega) ?_
        intro O1 d1 y3 own1 hb hq1
        have HO1 := Lib.hid own1
        have HNE := Lib.hid (hq1 gx HGE.out (heap_lt_ HXC.out))
        have HF1 := Lib.hid hb
        have HBN := Lib.hid (HX.out.trans (hb.mono hsz))
        clear own1 hb hq1
        (first | refine hK.out _ _ ?_ (fun hHeld1 => ?_) | (go_wp2_with fail; refine hK.out _ _ ?_ (fun hHeld1 => ?_)))
        · ((try dsimp only); exact KS2 HBN.out)
        clear hK K hHeld
        have hHeld := hHeld1
        clear hHeld1
        try simp only [Act.put, List.setIfInBounds_toArray, List.set_cons_zero, List.set_cons_succ]
        replace HXC := Lib.hid (heap_below HXC.out HF1.out)
        replace HX := Lib.hid (HX.out.trans (HF1.out.mono hsz))
        clear hsz HF1
        refine wpAnyH_ready (rs := [6]) (by kernel_rfl) (by simp) ?_
        refine AllReadyH.cons rfl (fun K hK => ?_) (AllReadyH.nil)
        go_simp
        (go_at_call 96; refine (insRule_any ws.heap.size O1 xs.length d1 n gx xs x _ rfl HO1.out hnl HXC.out HNE.out (by omega) HX.out.size).mono ?_; rintro e y4 ⟨O3, d3, rfl, own, hg⟩; have HO3 := Lib.hid own; rw [HINS.out] at HO3; have HF1 := Lib.hid (below_of_grownBy hg HX.out.size (fun g e => (HO1.out.lt g e).1)); have HBN := Lib.hid (HX.out.trans HF1.out); clear own hg)
        (first | refine hK.out _ _ ?_ (fun hHeld1 => ?_) | (go_wp2_with fail; refine hK.out _ _ ?_ (fun hHeld1 => ?_)))
        · ((try dsimp only); exact KS2 HBN.out)
        clear hK K hHeld
        have hHeld := hHeld1
        clear hHeld1
        try simp only [Act.put, List.setIfInBounds_toArray, List.set_cons_zero, List.set_cons_succ]
        replace HX := Lib.hid (HX.out.trans HF1.out)
        clear HF1
        have hn3 := Lib.hid HIL.out.symm
        refine wpAnyH_ready (rs := [7]) (by kernel_rfl) (by simp) ?_
        refine AllReadyH.cons rfl (fun K hK => ?_) (AllReadyH.nil)
        go_simp
        (go_at_call 95; refine (asRules_any ws.heap.size O3 d3 (insR x xs) _ _ hn3.out HO3.out (by rw [HIL.out]; omega) (insR_fit HF.out HFX.out) HX.out.size).mono ?_; rintro e y5 ⟨P, m, q, rfl, hm4, own, hb⟩; have HO4 := Lib.hid own; have HM4 := Lib.hid hm4; have HBN := Lib.hid (HX.out.trans (hb.mono HX.out.size)); clear own hb hm4)
        (first | refine hK.out _ _ ?_ (fun hHeld1 => ?_) | (go_wp2_with fail; refine hK.out _ _ ?_ (fun hHeld1 => ?_)))
        · ((try dsimp only); exact KS2 HBN.out)
        clear hK K hHeld
        have hHeld := hHeld1
        clear hHeld1
        try simp only [Act.put, List.setIfInBounds_toArray, List.set_cons_zero, List.set_cons_succ]
        replace HX := HBN
        refine take_yes (i := 8) (d := 34) (v := ?_) rfl rfl (by kernel_rfl) (by kernel_rfl) (by kernel_rfl) (fun _ _ _ h => h) (by kernel_rfl) ?_ hHeld ?_
        rotate_left
        · (intro w hSw; (try dsimp only at hSw); go_simp; try (with_reducible rfl))
        try simp only [Act.put, List.setIfInBounds_toArray, List.set_cons_zero, List.set_cons_succ]
        refine take_yes (i := 9) (d := 35) (v := ?_) rfl rfl (by kernel_rfl) (by kernel_rfl) (by kernel_rfl) (fun _ _ _ h => h) (by kernel_rfl) ?_ hHeld ?_
        rotate_left
        · (intro w hSw; (try dsimp only at hSw); go_simp; try (with_reducible rfl))
        try simp only [Act.put, List.setIfInBounds_toArray, List.set_cons_zero, List.set_cons_succ]
        refine take_yes (i := 10) (d := 4) (v := ?_) rfl rfl (by kernel_rfl) (by kernel_rfl) (by kernel_rfl) (fun _ _ _ h => h) (by kernel_rfl) ?_ hHeld ?_
        rotate_left
        · (intro w hSw; (try dsimp only at hSw); go_simp; try (with_reducible rfl))
        try simp only [Act.put, List.setIfInBounds_toArray, List.set_cons_zero, List.set_cons_succ]
        refine take_yes (i := 11) (d := 5) (v := ?_) rfl rfl (by kernel_rfl) (by kernel_rfl) (by kernel_rfl) (fun _ _ _ h => h) (by kernel_rfl) ?_ hHeld ?_
        rotate_left
        · (intro w hSw; (try dsimp only at hSw); go_simp; try (with_reducible rfl))
        try simp only [Act.put, List.setIfInBounds_toArray, List.set_cons_zero, List.set_cons_succ]
        refine wpAnyH_done (by kernel_rfl) ?_ _
        refine NoPanic.normal ?_
        clear hHeld x0 x1 x2 x3 x4 x5 x6
        have hBs := HB.out.size
        have HD := Lib.hid (show adL xs x = rkL (insR x xs) ∧ adB xs x = rulesB (insR x xs) by (have e9 : adB xs x = rulesB (insR x xs) := by (unfold adB; rw [HV.out]; rfl)); exact ⟨by unfold adL rkL; rw [e9], e9⟩)
        go_wp2_with (go_ret2; exact ToLB.own_ (ys := rkL (insR x xs)) (own_mono HO4.out hBs) HD.out.1 HM4.out (by (have h1 := rkL_len (ys := insR x xs); rw [HIL.out] at h1; omega)) (rkL_fit (insR_fit HF.out HFX.out)) HD.out.2 (HB.out.trans (HX.out.mono hBs)))
  · rw [hv]
    have HNO := Lib.hid (ad_no (show adB xs x = false by unfold adB; rw [hv]; rfl))
    clear hv
    go_wp2_with (go_ret2; exact ToLB.none_ HNO.out.1 HNO.out.2 HB.out)
end Go.Proofs.Ytifahgdalgjgfaa
namespace Go.Proofs.Ytifahgdalgjgfaa
open Go.RowKit
set_option linter.unusedVariables false
set_option linter.unusedSimpArgs false
attribute [local go_sem ↓] Go.wp_at_zero Go.wp_at_succ
def setRk (xs : List Rul) (n : Nat) (k : Int) : List Rul := xs.set n ⟨(xs.getD n noRule).id, (xs.getD n noRule).nm, k, (xs.getD n noRule).sc, (xs.getD n noRule).db, (xs.getD n noRule).am, (xs.getD n noRule).nd⟩
theorem setRk_at {xs : List Rul} {n : Nat} {k : Int} {x : Rul} (h : n < xs.length) (hx : xs[n] = x) : setRk xs n k = xs.set n ⟨x.id, x.nm, k, x.sc, x.db, x.am, x.nd⟩ := by
  unfold setRk
  rw [getD_lt h, hx]
def crB (xs : List Rul) (id k : Int) : Bool := (rulesB xs && decide (0 ≤ ixR xs id)) && rulesB (setRk xs (ixR xs id).toNat k)
def crL (xs : List Rul) (id k : Int) : List Rul := if (rulesB xs && decide (0 ≤ ixR xs id)) = true then rkL (setRk xs (ixR xs id).toNat k) else []
theorem cr_no {xs : List Rul} {id k : Int} (h : (rulesB xs && decide (0 ≤ ixR xs id)) = false) : crL xs id k = [] ∧ crB xs id k = false := ⟨by unfold crL; rw [h]; rfl, by unfold crB; rw [h]; rfl⟩
theorem cr_yes {xs : List Rul} {id k : Int} {n : Nat} (h : rulesB xs = true) (hn : ixR xs id = (n : Int)) : crL xs id k = rkL (setRk xs n k) ∧ crB xs id k = rulesB (setRk xs n k) := by
  have e : (rulesB xs && decide (0 ≤ ixR xs id)) = true := by rw [h, hn]; simp
  exact ⟨by unfold crL; rw [if_pos e, hn]; rfl, by unfold crB; rw [e, hn]; rfl⟩
theorem row_setRk {d : Int} : ∀ {ys : List Rul} {k : Nat} (hk : k < ys.length), (RuleK.row ys).set (k * 7 + 2) (.int .i64 d) = RuleK.row (ys.set k ⟨ys[k].id, ys[k].nm, d, ys[k].sc, ys[k].db, ys[k].am, ys[k].nd⟩)
  | x :: ys, 0, _ => rfl
  | x :: ys, k + 1, hk => by
    have h := row_setRk (d := d) (ys := ys) (k := k) (by simpa using hk)
    have e : ∀ (z : Rul) (l : List Rul), RuleK.row (z :: l) = .int .i64 z.id :: .string z.nm :: .int .i64 z.rk :: .bool z.sc :: .bool z.db :: .bool z.am :: .int .i64 z.nd :: RuleK.row l := fun _ _ => rfl
    rw [e, show (k + 1) * 7 + 2 = k * 7 + 2 + 1 + 1 + 1 + 1 + 1 + 1 + 1 by omega, List.set_cons_succ, List.set_cons_succ, List.set_cons_succ, List.set_cons_succ, List.set_cons_succ, List.set_cons_succ, List.set_cons_succ, h, List.set_cons_succ, e]
    rfl
set_option maxHeartbeats 4000000 in
set_option maxRecDepth 100000 in
theorem ChangeRank_any (A : Option Addr) (c : Nat) (xs : List Rul) (id k : Int) (w : World) (ha : Cells w A (RuleK.row xs)) (hcc : xs.length ≤ c) (hm : xs.length ≤ 1000000) (hf : ∀ y ∈ xs, RuleK.fit y) :
    Calls Try.prog 42 #[.slice A xs.length c, .int .i64 id, .int .i64 k] w (ToLB RuleK 52 w (crL xs id k) (crB xs id k)) := by
  have HA := Lib.hid ha
  have HF := Lib.hid hf
  clear ha hf
  go_enter Try.func42, Try.ntmps42
  go_wp2_with fail
  refine (ruleIndex_any A c xs id w HA.out (by omega)).mono ?_
  rintro e w1 ⟨rfl, hb⟩
  have HB := Lib.hid hb
  clear hb
  go_wp2_with fail
  refine (IsValidRules_any A c xs w1 (HA.out.below HB.out) (by omega) hcc HF.out).mono ?_
  rintro e w2 ⟨rfl, hb⟩
  replace HB := Lib.hid (HB.out.trans (hb.mono HB.out.size))
  clear hb
  rcases Bool.eq_false_or_eq_true (rulesB xs) with hv | hv
  · rw [hv]
    by_cases hi : ixR xs id < 0
    · have HNO := Lib.hid (cr_no (k := k) (show (rulesB xs && decide (0 ≤ ixR xs id)) = false by rw [decide_eq_false (by omega)]; simp))
      obtain ⟨z, hz⟩ : ∃ z, ixR xs id = z := ⟨_, rfl⟩
      rw [hz] at hi ⊢
      clear hv hz
      go_wp2_with (go_ret2; exact ToLB.none_ HNO.out.1 HNO.out.2 HB.out)
    · obtain ⟨n, hn, hl⟩ := ixR_at (Int.not_lt.1 hi)
      have HD := Lib.hid (cr_yes (k := k) hv hn)
      have h8 := rules_le8 hv
      rw [hn]
      clear hi hv hn
      obtain ⟨x, hx⟩ : ∃ x, Hid (xs[n] = x) := ⟨_, Lib.hid rfl⟩
      have HS := Lib.hid (setRk_at (k := k) hl hx.out)
      have HFX : Hid (RuleK.fit x) := Lib.hid (by rw [← hx.out]; exact HF.out _ (List.getElem_mem _))
      rw [HS.out] at HD
      have i1 : (n : Int) < (xs.length : Int) := by omega
      go_upto_region 5 with (at_builtin; go_must (refine list_append_lit elRul _ rfl _ _ rfl w.heap.size _ A xs.length c (RuleK.row xs) rfl rfl (RuleK.row_len xs) (own_nil_lit _ _ _ _ _ (by simp) HB.out.size) ((HA.out.below HB.out).alloc_ _) rul_one (by have hsx := HB.out.size; simp; omega) (by omega) ?_); intro O oc w3 own hb hq; have O1 := Lib.hid (show OwD RuleK 52 w.heap.size w3 O oc xs from Ow.mk (K := RuleK) own (by omega) HF.out); have HB3 := Lib.hid (HB.out.trans ((bmono hb).mono HB.out.size)); clear own hb hq)
      obtain ⟨g, hg⟩ : ∃ g, O = some ⟨g, 0, none⟩ := by (obtain ⟨g, cap, hv, _, _⟩ := O1.out.1.form (by omega)); exact ⟨g, by (injection hv)⟩
      subst hg
      have hbg := (O1.out.1.lt g rfl).1
      have hcell : (w3.cell? ⟨g, n * 7 + 2, none⟩).isSome = true := by
        obtain ⟨u, hu⟩ := own_cell O1.out.1 (j := n * 7 + 2) (by show n * 7 + 2 < xs.length * 7; omega)
        rw [hu]; rfl
      obtain ⟨u, hu⟩ : ∃ u, w3.cell? ⟨g, n * 7 + 2, none⟩ = some u := Option.isSome_iff_exists.1 hcell
      have hz := O1.out.1.frozenAt (n * 7 + 2)
      have HOS := Lib.hid (show (w3.setCell ⟨g, n * 7 + 2, none⟩ (.int .i64 k)).ownsRow w.heap.size 52 7 (.slice (some ⟨g, 0, none⟩) xs.length oc) xs.length (RuleK.row (xs.set n ⟨x.id, x.nm, k, x.sc, x.db, x.am, x.nd⟩)) from by
        have h1 := (O1.out.1.stored (n * 7 + 2) (.int .i64 k)).1
        rw [row_setRk hl, hx.out] at h1
        exact h1)
      have HB4 := Lib.hid (HB3.out.setCell (p := ⟨g, n * 7 + 2, none⟩) hbg (.int .i64 k))
      clear hcell O1 HB3 HS hx
      go_upto_region 6 with fail
      generalize w3.setCell ⟨g, n * 7 + 2, none⟩ (.int .i64 k) = w4 at *
      obtain ⟨ys, hys⟩ : ∃ ys, Hid (xs.set n ⟨x.id, x.nm, k, x.sc, x.db, x.am, x.nd⟩ = ys) := ⟨_, Lib.hid rfl⟩
      have HYL := Lib.hid (show xs.length = ys.length by rw [← hys.out, List.length_set])
      have HYF : Hid (∀ y ∈ ys, RuleK.fit y) := Lib.hid (by
        intro y hy
        rw [← hys.out] at hy
        rcases List.mem_or_eq_of_mem_set hy with h3 | h3
        · exact HF.out y h3
        · rw [h3]; exact HFX.out)
      rw [hys.out] at HOS HD
      clear hu hz
      go_wp2_with fail
      refine (asRules_any w.heap.size _ oc ys xs.length w4 HYL.out HOS.out (by rw [← HYL.out]; omega) HYF.out HB4.out.size).mono ?_
      rintro e w5 ⟨P, m, p, rfl, hmm, own, hb⟩
      have HO5 := Lib.hid own
      have HM5 := Lib.hid hmm
      have HB5 := Lib.hid (HB4.out.trans (hb.mono HB4.out.size))
      clear own hb hmm
      go_wp2_with (go_ret2; exact ToLB.own_ (ys := rkL ys) HO5.out HD.out.1 HM5.out (by (have h1 := rkL_len (ys := ys); rw [← HYL.out] at h1; omega)) (rkL_fit HYF.out) HD.out.2 HB5.out)
  · rw [hv]
    have HNO := Lib.hid (cr_no (id := id) (k := k) (show (rulesB xs && decide (0 ≤ ixR xs id)) = false by rw [hv]; rfl))
    clear hv
    go_wp2_with (go_ret2; exact ToLB.none_ HNO.out.1 HNO.out.2 HB.out)
set_option maxHeartbeats 4000000 in
set_option maxRecDepth 100000 in
theorem sChangeRank_any (A : Option Addr) (c : Nat) (xs : List Rul) (id k : Int) (w : World) (ha : Cells w A (RuleK.row xs)) (hcc : xs.length ≤ c) (hm : xs.length ≤ 1000000) (hf : ∀ y ∈ xs, RuleK.fit y) :
    Calls Try.prog 47 #[.slice A xs.length c, .int .i64 id, .int .i64 k] w (ToLB RuleK 52 w (crL xs id k) (crB xs id k)) := by
  have HA := Lib.hid ha
  have HF := Lib.hid hf
  clear ha hf
  go_enter Try.func47, Try.ntmps47
  go_wp2_with fail
  refine (l2Find_any A c xs id w HA.out (by omega)).mono ?_
  rintro e w1 ⟨rfl, hb⟩
  have HB := Lib.hid hb
  clear hb
  go_wp2_with fail
  refine (l2Good_any A c xs w1 (HA.out.below HB.out) (by omega) hcc HF.out).mono ?_
  rintro e w2 ⟨rfl, hb⟩
  replace HB := Lib.hid (HB.out.trans (hb.mono HB.out.size))
  clear hb
  rcases Bool.eq_false_or_eq_true (rulesB xs) with hv | hv
  · rw [hv]
    by_cases hi : ixR xs id < 0
    · have HNO := Lib.hid (cr_no (k := k) (show (rulesB xs && decide (0 ≤ ixR xs id)) = false by rw [decide_eq_false (by omega)]; simp))
      obtain ⟨z, hz⟩ : ∃ z, ixR xs id = z := ⟨_, rfl⟩
      rw [hz] at hi ⊢
      clear hv hz
      go_wp2_with (go_ret2; exact ToLB.own_ (ys := []) (own_nil_lit _ _ _ _ _ rfl HB.out.size) HNO.out.1 rfl (by simp) (by simp) HNO.out.2 (HB.out.trans (((Below.refl _ _).alloc (Nat.le_refl _) _).mono HB.out.size)))
    · obtain ⟨n, hn, hl⟩ := ixR_at (Int.not_lt.1 hi)
      have HD := Lib.hid (cr_yes (k := k) hv hn)
      have h8 := rules_le8 hv
      rw [hn]
      clear hi hv hn
      obtain ⟨x, hx⟩ : ∃ x, Hid (xs[n] = x) := ⟨_, Lib.hid rfl⟩
      have HS := Lib.hid (setRk_at (k := k) hl hx.out)
      have HFX : Hid (RuleK.fit x) := Lib.hid (by rw [← hx.out]; exact HF.out _ (List.getElem_mem _))
      rw [HS.out] at HD
      have i1 : (n : Int) < (xs.length : Int) := by omega
      go_wp2_with (at_builtin; go_must (refine list_append_lit elRul _ rfl _ _ rfl w.heap.size _ A xs.length c (RuleK.row xs) rfl rfl (RuleK.row_len xs) (own_nil_lit _ _ _ _ _ (by simp) HB.out.size) ((HA.out.below HB.out).alloc_ _) rul_one (by have hsx := HB.out.size; simp; omega) (by omega) ?_); intro O oc w3 own hb hq; have O1 := Lib.hid (show OwD RuleK 52 w.heap.size w3 O oc xs from Ow.mk (K := RuleK) own (by omega) HF.out); have HB3 := Lib.hid (HB.out.trans ((bmono hb).mono HB.out.size)); clear own hb hq)
      obtain ⟨g, hg⟩ : ∃ g, O = some ⟨g, 0, none⟩ := by (obtain ⟨g, cap, hv, _, _⟩ := O1.out.1.form (by omega)); exact ⟨g, by (injection hv)⟩
      subst hg
      have hgl := O1.out.1.lt g rfl
      have HR := Lib.hid (own_rng O1.out hl)
      rw [hx.out] at HR
      clear HS
      go_upto_region 5 with fail
      replace HR := Lib.hid (show World.rangeAt w3 g (n * 7) [.int .i64 x.id, .string x.nm, .int .i64 x.rk, .bool x.sc, .bool x.db, .bool x.am, .int .i64 x.nd] from HR.out)
      have X := Lib.hid (BT.new w3 #[.int .i64 x.id, .string x.nm, .int .i64 x.rk, .bool x.sc, .bool x.db, .bool x.am, .int .i64 x.nd] 52 w3.heap.size rfl)
      have hbl := below1 w3 (.cells #[.int .i64 x.id, .string x.nm, .int .i64 x.rk, .bool x.sc, .bool x.db, .bool x.am, .int .i64 x.nd] 52)
      have hb3 := HB3.out.size
      replace O1 := Lib.hid (O1.out.call hbl)
      replace HB3 := Lib.hid (HB3.out.trans (hbl.mono hb3))
      have hqw : w.heap.size ≤ w3.heap.size := hb3
      clear hbl
      go_upto_region 6 with (refine wpList_load_mid rfl 52 _ rfl g (n * 7) rfl [.int .i64 x.id, .string x.nm, .int .i64 x.rk, .bool x.sc, .bool x.db, .bool x.am, .int .i64 x.nd] _ HR.out Try.underlying52 rfl (by kernel_rfl) ?_)
      generalize (w3.alloc (.cells #[.int .i64 x.id, .string x.nm, .int .i64 x.rk, .bool x.sc, .bool x.db, .bool x.am, .int .i64 x.nd] 52)) = v1 at *
      generalize w3.heap.size = q1 at *
      clear HR
      have b2 := X.out.box.1 2 _ rfl
      have bf := X.out.box.2
      have X9 := Lib.hid (show BT (v1.setCell ⟨q1, 2, none⟩ (.int .i64 k)) q1 52 [.int .i64 x.id, .string x.nm, .int .i64 k, .bool x.sc, .bool x.db, .bool x.am, .int .i64 x.nd] from X.out.set 2 (by simp) (.int .i64 k))
      replace O1 := Lib.hid (O1.out.box_far (q := q1) (by omega) 2 (.int .i64 k))
      replace HB3 := Lib.hid (HB3.out.setCell (p := ⟨q1, 2, none⟩) hqw (.int .i64 k))
      go_upto_region 7 with fail
      clear b2 bf X
      generalize v1.setCell ⟨q1, 2, none⟩ (.int .i64 k) = v2 at *
      have HT := Lib.hid (own_there O1.out hl)
      replace HT := Lib.hid (show World.there _ g (n * 7) 7 from HT.out)
      have HOS := Lib.hid (show OwD RuleK 52 w.heap.size (v2.setCells g (n * 7) [.int .i64 x.id, .string x.nm, .int .i64 k, .bool x.sc, .bool x.db, .bool x.am, .int .i64 x.nd]) (some ⟨g, 0, none⟩) oc (xs.set n ⟨x.id, x.nm, k, x.sc, x.db, x.am, x.nd⟩) from own_putG O1.out hl ⟨x.id, x.nm, k, x.sc, x.db, x.am, x.nd⟩ HFX.out)
      have HB4 := Lib.hid (show Below w.heap.size w (v2.setCells g (n * 7) [.int .i64 x.id, .string x.nm, .int .i64 k, .bool x.sc, .bool x.db, .bool x.am, .int .i64 x.nd]) from below_putsR HB3.out hgl.1 _ _)
      clear O1 HB3
      go_upto_region 8 with (first | (refine wpList_load_mid rfl 52 _ rfl q1 0 rfl [.int .i64 x.id, .string x.nm, .int .i64 k, .bool x.sc, .bool x.db, .bool x.am, .int .i64 x.nd] _ X9.out.rng Try.underlying52 rfl (by kernel_rfl) ?_) | (refine wpList_store_mid rfl 52 _ _ rfl g (n * 7) #[.int .i64 x.id, .string x.nm, .int .i64 k, .bool x.sc, .bool x.db, .bool x.am, .int .i64 x.nd] rfl rfl HT.out (by kernel_rfl) (by simp [Value.oneCell']) ?_; rw [show v2.setCells g (n * 7) (#[.int .i64 x.id, .string x.nm, .int .i64 k, .bool x.sc, .bool x.db, .bool x.am, .int .i64 x.nd] : Array Value).toList = v2.setCells g (n * 7) [.int .i64 x.id, .string x.nm, .int .i64 k, .bool x.sc, .bool x.db, .bool x.am, .int .i64 x.nd] from rfl]))
      clear X9 HT
      generalize v2.setCells g (n * 7) [.int .i64 x.id, .string x.nm, .int .i64 k, .bool x.sc, .bool x.db, .bool x.am, .int .i64 x.nd] = v3 at *
      obtain ⟨ys, hys⟩ : ∃ ys, Hid (xs.set n ⟨x.id, x.nm, k, x.sc, x.db, x.am, x.nd⟩ = ys) := ⟨_, Lib.hid rfl⟩
      have HYL := Lib.hid (show xs.length = ys.length by rw [← hys.out, List.length_set])
      rw [hys.out] at HOS HD
      have HRD := Lib.hid HOS.out.rd
      go_wp2_with fail
      refine (by have h := l2Good_any (some ⟨g, 0, none⟩) oc ys v3 HRD.out.cells (by rw [← HYL.out]; omega) HRD.out.1 HOS.out.2.2.2; rw [← HYL.out] at h; exact h : Calls Try.prog 97 #[.slice (some ⟨g, 0, none⟩) xs.length oc] v3 fun e w' => e = .returned (.bool (rulesB ys)) ∧ Below v3.heap.size v3 w').mono ?_
      rintro e w5 ⟨rfl, hb⟩
      replace HOS := Lib.hid (HOS.out.call hb)
      have HB5 := Lib.hid (HB4.out.trans (hb.mono HB4.out.size))
      clear hb HRD HB4
      rcases Bool.eq_false_or_eq_true (rulesB ys) with hd | hd
      · have HD2 := Lib.hid (show crL xs id k = ys ∧ crB xs id k = true from ⟨by rw [HD.out.1]; unfold rkL; rw [if_pos hd], by rw [HD.out.2]; exact hd⟩)
        rw [hd]
        clear hd
        have own9 := HOS.out.1
        rw [← HYL.out] at own9
        have HO9 := Lib.hid own9
        clear own9
        go_wp2_with (go_ret2; exact ToLB.own_ (ys := ys) HO9.out HD2.out.1 HYL.out (by rw [← HYL.out]; omega) HOS.out.2.2.2 HD2.out.2 HB5.out)
      · have HD2 := Lib.hid (show crL xs id k = [] ∧ crB xs id k = false from ⟨by rw [HD.out.1]; unfold rkL; rw [hd]; rfl, by rw [HD.out.2]; exact hd⟩)
        rw [hd]
        clear hd
        go_wp2_with (go_ret2; exact ToLB.own_ (ys := []) (own_nil_lit _ _ _ _ _ rfl HB5.out.size) HD2.out.1 rfl (by simp) (by simp) HD2.out.2 (HB5.out.trans (((Below.refl _ _).alloc (Nat.le_refl _) _).mono HB5.out.size)))
  · rw [hv]
    have HNO := Lib.hid (cr_no (id := id) (k := k) (show (rulesB xs && decide (0 ≤ ixR xs id)) = false by rw [hv]; rfl))
    clear hv
    go_wp2_with (go_ret2; exact ToLB.own_ (ys := []) (own_nil_lit _ _ _ _ _ rfl HB.out.size) HNO.out.1 rfl (by simp) (by simp) HNO.out.2 (HB.out.trans (((Below.refl _ _).alloc (Nat.le_refl _) _).mono HB.out.size)))
theorem rb_hit {xs : List Rul} {s : ByteArray} {i : Nat} (hv : rulesB xs = true) (hi : i < xs.length) (hf : rbI xs s = (i : Int)) : rbB xs s = true ∧ rbR xs s = xs[i] := by
  have e : rbB xs s = true := by unfold rbB; rw [hv, hf]; simp
  exact ⟨e, by unfold rbR; rw [if_pos e, hf, Int.toNat_natCast, getD_lt hi]⟩
set_option maxHeartbeats 4000000 in
set_option maxRecDepth 100000 in
theorem sRuleByName_any (A : Option Addr) (c : Nat) (xs : List Rul) (s : ByteArray) (w : World) (ha : Cells w A (RuleK.row xs)) (hm : xs.length ≤ 1048576) (hcc : xs.length ≤ c) (hf : ∀ x ∈ xs, RuleK.fit x) :
    Calls Try.prog 49 #[.slice A xs.length c, .string s] w fun e w' => e = .returned (.tuple #[.agg #[.int .i64 (rbR xs s).id, .string (rbR xs s).nm, .int .i64 (rbR xs s).rk, .bool (rbR xs s).sc, .bool (rbR xs s).db, .bool (rbR xs s).am, .int .i64 (rbR xs s).nd], .bool (rbB xs s)]) ∧ Below w.heap.size w w' := by
  have HA := Lib.hid ha
  have HF := Lib.hid hf
  have Z := Lib.hid (BT.new w #[.int .i64 0, .string ⟨#[]⟩, .int .i64 0, .bool false, .bool false, .bool false, .int .i64 0] 52 w.heap.size rfl)
  have HB := Lib.hid (below1 w (.cells #[.int .i64 0, .string ⟨#[]⟩, .int .i64 0, .bool false, .bool false, .bool false, .int .i64 0] 52))
  clear ha hf
  go_enter Try.func49, Try.ntmps49
  go_upto_region 1 with fail
  generalize (w.alloc (.cells #[.int .i64 0, .string ⟨#[]⟩, .int .i64 0, .bool false, .bool false, .bool false, .int .i64 0] 52)) = W at *
  go_wp2_with fail
  refine (l2Good_any A c xs W (HA.out.below HB.out) hm hcc HF.out).mono ?_
  rintro e w1 ⟨rfl, hb⟩
  replace Z := Lib.hid (Z.out.call hb)
  replace HB := Lib.hid (HB.out.trans (hb.mono HB.out.size))
  clear hb
  rcases Bool.eq_false_or_eq_true (rulesB xs) with hv | hv
  · rw [hv]
    have HV := Lib.hid hv
    clear hv
    go_wp2
    go_loopw [6] (fun i wr => ∃ k : Nat, k ≤ xs.length ∧ i = .int .i64 k ∧ Hid (findI (fun x => nmB x.nm s) 0 xs = findI (fun x => nmB x.nm s) k (xs.drop k)) ∧ Hid (BT wr w.heap.size 52 [.int .i64 0, .string ⟨#[]⟩, .int .i64 0, .bool false, .bool false, .bool false, .int .i64 0]) ∧ Hid (Below w.heap.size w wr)) (fun i _ => xs.length - (intOf i).toNat)
    case atStart => exact ⟨0, Nat.zero_le _, rfl, Lib.hid rfl, Z, HB⟩
    case round =>
      clear Z HB
      obtain ⟨k, hk, rfl, hq, Z, HB⟩ := hrel
      obtain ⟨wq, hwq⟩ : ∃ x : World, x = wr := ⟨_, rfl⟩
      subst hwq
      by_cases hlt : k < xs.length
      · obtain ⟨a, rfl, hc0, hc1, hc2, hc3, hc4, hc5, hc6⟩ := rule_at (HA.out.below HB.out) hlt
        have i1 : (k : Int) < (xs.length : Int) := by omega
        have HH := Lib.hid (fun (h : (fun x : Rul => nmB x.nm s) xs[k] = true) => findI_hit (k := k) (i := k) (p := fun x => nmB x.nm s) hlt h)
        have HMi := Lib.hid (fun (h : (fun x : Rul => nmB x.nm s) xs[k] = false) => findI_miss (k := k) (i := k) (p := fun x => nmB x.nm s) hlt h)
        have HRB := Lib.hid (fun (h : rbI xs s = (k : Int)) => rb_hit HV.out hlt h)
        obtain ⟨x, hx⟩ : ∃ x, Hid (xs[k] = x) := ⟨_, Lib.hid rfl⟩
        rw [hx.out] at hc0 hc1 hc2 hc3 hc4 hc5 hc6 HH HMi HRB
        clear hx
        rcases Bool.eq_false_or_eq_true (nmB x.nm s) with hm2 | hm2
        · have HD := Lib.hid (HRB.out (show rbI xs s = (k : Int) from hq.out.trans (HH.out hm2)))
          have hm3 : (x.nm.toList == s.toList) = true := hm2
          clear hq HH HMi HRB hm2
          have HB9 := Lib.hid (show Below w.heap.size w (wq.setCells w.heap.size 0 [.int .i64 x.id, .string x.nm, .int .i64 x.rk, .bool x.sc, .bool x.db, .bool x.am, .int .i64 x.nd]) from below_putsR HB.out (Nat.le_refl _) _ _)
          have HZ9 := Lib.hid (Z.out.puts [.int .i64 x.id, .string x.nm, .int .i64 x.rk, .bool x.sc, .bool x.db, .bool x.am, .int .i64 x.nd] (by rfl))
          go_wp2_with (first | (refine wpList_store_mid rfl 52 _ _ rfl w.heap.size 0 #[.int .i64 x.id, .string x.nm, .int .i64 x.rk, .bool x.sc, .bool x.db, .bool x.am, .int .i64 x.nd] rfl rfl Z.out.there (by kernel_rfl) (by simp [Value.oneCell']) ?_; have KS := HZ9.out.box; have k0 := KS.1 0 _ rfl; have k1 := KS.1 1 _ rfl; have k2 := KS.1 2 _ rfl; have k3 := KS.1 3 _ rfl; have k4 := KS.1 4 _ rfl; have k5 := KS.1 5 _ rfl; have k6 := KS.1 6 _ rfl; clear KS) | (refine bodyPost_ret (v := .tuple #[.agg #[.int .i64 x.id, .string x.nm, .int .i64 x.rk, .bool x.sc, .bool x.db, .bool x.am, .int .i64 x.nd], .bool true]) (by rw [rc_tmp Try.results49]; simp [go_sem, k0, k1, k2, k3, k4, k5, k6]) rfl ⟨by rw [HD.out.1, HD.out.2], HB9.out⟩))
        · have HA2 := Lib.hid (hq.out.trans (HMi.out hm2))
          have hm3 : (x.nm.toList == s.toList) = false := hm2
          clear hq HH HMi HRB hm2
          go_wp2
          go_roundw
          case rel => exact ⟨k + 1, hlt, by go_num, HA2, Z, HB⟩
          case measure => simp [intOf]; omega
      · obtain rfl : k = xs.length := by omega
        have HN := Lib.hid (rb_no (show rbB xs s = false by unfold rbB rbI; rw [hq.out, findI_end]; simp))
        have HB9 := Lib.hid (show Below w.heap.size w (wq.setCells w.heap.size 0 [.int .i64 0, .string ⟨#[]⟩, .int .i64 0, .bool false, .bool false, .bool false, .int .i64 0]) from below_putsR HB.out (Nat.le_refl _) _ _)
        have HZ9 := Lib.hid (Z.out.puts [.int .i64 0, .string ⟨#[]⟩, .int .i64 0, .bool false, .bool false, .bool false, .int .i64 0] (by rfl))
        go_wp2_with (first | (refine wpList_store_mid rfl 52 _ _ rfl w.heap.size 0 #[.int .i64 0, .string ⟨#[]⟩, .int .i64 0, .bool false, .bool false, .bool false, .int .i64 0] rfl rfl Z.out.there (by kernel_rfl) (by simp [Value.oneCell']) ?_; have KS := HZ9.out.box; have k0 := KS.1 0 _ rfl; have k1 := KS.1 1 _ rfl; have k2 := KS.1 2 _ rfl; have k3 := KS.1 3 _ rfl; have k4 := KS.1 4 _ rfl; have k5 := KS.1 5 _ rfl; have k6 := KS.1 6 _ rfl; clear KS) | (refine bodyPost_ret (v := .tuple #[.agg #[.int .i64 0, .string ⟨#[]⟩, .int .i64 0, .bool false, .bool false, .bool false, .int .i64 0], .bool false]) (by rw [rc_tmp Try.results49]; simp [go_sem, k0, k1, k2, k3, k4, k5, k6]) rfl ⟨by rw [HN.out.1, HN.out.2]; rfl, HB9.out⟩))
  · rw [hv]
    have HN := Lib.hid (rb_no (show rbB xs s = false by unfold rbB; rw [hv]; rfl))
    obtain ⟨wq, hwq⟩ : ∃ wq, wq = w1 := ⟨_, rfl⟩
    subst hwq
    clear hv
    have HB9 := Lib.hid (show Below w.heap.size w (wq.setCells w.heap.size 0 [.int .i64 0, .string ⟨#[]⟩, .int .i64 0, .bool false, .bool false, .bool false, .int .i64 0]) from below_putsR HB.out (Nat.le_refl _) _ _)
    have HZ9 := Lib.hid (Z.out.puts [.int .i64 0, .string ⟨#[]⟩, .int .i64 0, .bool false, .bool false, .bool false, .int .i64 0] (by rfl))
    go_wp2_with (first | (refine wpList_store_mid rfl 52 _ _ rfl w.heap.size 0 #[.int .i64 0, .string ⟨#[]⟩, .int .i64 0, .bool false, .bool false, .bool false, .int .i64 0] rfl rfl Z.out.there (by kernel_rfl) (by simp [Value.oneCell']) ?_; have KS := HZ9.out.box; have k0 := KS.1 0 _ rfl; have k1 := KS.1 1 _ rfl; have k2 := KS.1 2 _ rfl; have k3 := KS.1 3 _ rfl; have k4 := KS.1 4 _ rfl; have k5 := KS.1 5 _ rfl; have k6 := KS.1 6 _ rfl; clear KS) | (refine bodyPost_ret (v := .tuple #[.agg #[.int .i64 0, .string ⟨#[]⟩, .int .i64 0, .bool false, .bool false, .bool false, .int .i64 0], .bool false]) (by rw [rc_tmp Try.results49]; simp [go_sem, k0, k1, k2, k3, k4, k5, k6]) rfl ⟨by rw [HN.out.1, HN.out.2]; rfl, HB9.out⟩))
end Go.Proofs.Ytifahgdalgjgfaa
