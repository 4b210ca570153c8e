/- Appends of questions, ints and words; results that are a list and a Bool; lists of rules with lists of questions as arguments. Conditions: the ranges named. -/
import Derived.Test.YtifahgdalgjgfaaApc
import Derived.Test.YtifahgdalgjgfaaPe
import Derived.Test.YtifahgdalgjgfaaPf
import Derived.Test.YtifahgdalgjgfaaInts
import Derived.Test.YtifahgdalgjgfaaStrs
namespace Go.Proofs.Ytifahgdalgjgfaa
open Go.RowKit
set_option linter.unusedVariables false
theorem elQst : ElT Try.prog 25 32 3 24 := ElT.mk' Try.underlying25 infoQuestion rfl (by omega) (by omega)
theorem elInt : ElT Try.prog 46 3 1 8 := ElT.mk' Try.underlying46 infoInt rfl (by omega) (by omega)
theorem elStr : ElT Try.prog 39 9 1 16 := ElT.mk' Try.underlying39 infoStr rfl (by omega) (by omega)
theorem int_one {xs : List Int} : ∀ u ∈ IntK.row xs, u.oneCell' = true := fun u hu => by
  rw [intK_row] at hu
  obtain ⟨x, _, rfl⟩ := List.mem_map.1 hu
  rfl
theorem str_one {xs : List ByteArray} : ∀ u ∈ StrK.row xs, u.oneCell' = true := fun u hu => by
  rw [strK_row] at hu
  obtain ⟨x, _, rfl⟩ := List.mem_map.1 hu
  rfl
theorem qst_one {xs : List Qst} : ∀ u ∈ QuestionK.row xs, u.oneCell' = true := fun u hu => by
  obtain ⟨x, _, h⟩ := List.mem_flatMap.1 hu
  simp only [QuestionK, List.mem_cons, List.not_mem_nil, or_false] at h
  rcases h with rfl | rfl | rfl <;> rfl
theorem ow_nil {α : Type} {K : Kd α} {e : TypeId} {lo hi : Nat} {w : World} : Ow K e lo hi w none 0 [] := ⟨⟨by simp [Kd.row], .inl ⟨rfl, rfl⟩⟩, (fun a h => (by cases h)), by simp, (fun x h => (by simp at h))⟩
theorem ToLB.none_ {α : Type} {K : Kd α} {e : TypeId} {w w' : World} {xs : List α} {ok : Bool} (hx : xs = []) (ho : ok = false) (hb : Below w.heap.size w w') : ToLB K e w xs ok (.returned (.tuple #[.slice none 0 0, .bool false])) w' := by
  subst hx ho
  exact ⟨none, 0, rfl, ow_nil, hb⟩
theorem ToLB.own_ {α : Type} {K : Kd α} {e : TypeId} {w w' : World} {xs ys : List α} {ok ok' : Bool} {O : Option Addr} {n oc : Nat} (h : w'.ownsRow w.heap.size e K.sz (.slice O n oc) n (K.row ys)) (hx : xs = ys) (hn : n = ys.length) (hm : ys.length ≤ 1048576) (hf : ∀ x ∈ ys, K.fit x) (ho : ok = ok') (hb : Below w.heap.size w w') : ToLB K e w xs ok (.returned (.tuple #[.slice O n oc, .bool ok'])) w' := by
  subst hx ho hn
  exact ⟨O, oc, rfl, Ow.mk h hm hf, hb⟩
theorem own_prefix {w : World} {base : Nat} {e : TypeId} {size n oc m : Nat} {O : Option Addr} {xs : List Value} (h : w.ownsRow base e size (.slice O n oc) n xs) (hm : m ≤ n) : w.ownsRow base e size (.slice O m oc) m (xs.take (m * size)) := by
  obtain ⟨hl, h | ⟨g, cap, cur, hv, hb, hg, hn, hc, hs, ht⟩⟩ := h
  · obtain ⟨h1, rfl⟩ := h
    obtain rfl : m = 0 := by omega
    simp only [Value.slice.injEq] at h1
    obtain ⟨rfl, _, rfl⟩ := h1
    exact ⟨by simp, .inl ⟨rfl, rfl⟩⟩
  · simp only [Value.slice.injEq, true_and] at hv
    obtain ⟨rfl, rfl⟩ := hv
    have hmm : m * size ≤ n * size := Nat.mul_le_mul_right _ hm
    exact ⟨by rw [List.length_take, hl]; omega, .inr ⟨g, oc, cur, rfl, hb, hg, by omega, hc, hs, by rw [← ht, List.take_take]; congr 1; omega⟩⟩
theorem cells_one (w : World) (v : Value) (t : TypeId) (g : Nat) (hg : g = w.heap.size) : Cells (w.alloc (.cells #[v] t)) (some ⟨g, 0, none⟩) [v] := fun i u hi => by
  subst hg
  cases i with
  | zero =>
    simp only [List.getElem?_cons_zero, Option.some.injEq] at hi
    subst hi
    exact ⟨_, rfl, World.cell?_alloc_new w #[v] t 0⟩
  | succ i => simp at hi
/-- Rules and questions as a call finds them. -/
structure PA (w : World) (A : Option Addr) (c : Nat) (xs : List Rul) (D : Option Addr) (d : Nat) (qs : List Qst) : Prop where
  ra : Cells w A (RuleK.row xs)
  rm : xs.length ≤ 1048576
  rc : xs.length ≤ c
  rf : ∀ x ∈ xs, RuleK.fit x
  qa : Cells w D (QuestionK.row qs)
  qm : qs.length ≤ 1048576
  qc : qs.length ≤ d
section
variable {w w' : World} {A D : Option Addr} {c d : Nat} {xs : List Rul} {qs : List Qst}
theorem PA.below (h : PA w A c xs D d qs) (hb : Below w.heap.size w w') : PA w' A c xs D d qs := ⟨h.ra.below hb, h.rm, h.rc, h.rf, h.qa.below hb, h.qm, h.qc⟩
theorem PA.alloc_ (h : PA w A c xs D d qs) (o : Obj) : PA (w.alloc o) A c xs D d qs := h.below ((Below.refl _ _).alloc (Nat.le_refl _) _)
theorem PA.of {B B' : Nat} (h : Rd RuleK B w A c xs) (k : Rd QuestionK B' w D d qs) : PA w A c xs D d qs := ⟨h.cells, h.2.2.1, h.1, h.2.2.2, k.cells, k.2.2.1, k.1⟩
theorem pend_any (h : PA w A c xs D d qs) : Calls Try.prog 16 #[.slice A xs.length c, .slice D qs.length d] w fun e w' => e = .returned (.bool (pendB xs qs)) ∧ Below w.heap.size w w' := ArePending_any A c xs D d qs w h.ra h.rm h.rc h.rf h.qa h.qm
theorem good_any (h : PA w A c xs D d qs) : Calls Try.prog 72 #[.slice A xs.length c, .slice D qs.length d] w fun e w' => e = .returned (.bool (pendB xs qs)) ∧ Below w.heap.size w w' := l7Good_any A c xs D d qs w h.ra h.rm h.rc h.rf h.qa h.qm
end
theorem pend_ix {xs : List Rul} {qs : List Qst} (h : pendB xs qs = true) {i : Nat} (hi : i < qs.length) : 0 ≤ ixR xs qs[i].r := by
  unfold pendB at h
  simp only [Bool.and_eq_true] at h
  exact okQ_ix hi (allN_yes.1 h.2 i hi)
theorem pend_mem {xs : List Rul} {qs : List Qst} (h : pendB xs qs = true) {i : Nat} (hi : i < qs.length) : memB qs[i].m = true := by
  unfold pendB at h
  simp only [Bool.and_eq_true] at h
  have h2 := allN_yes.1 h.2 i hi
  rw [okQ_eq hi] at h2
  simp only [Bool.and_eq_true] at h2
  exact h2.1.1.2
/-- The list is valid and its last question lacks a second. -/
def lkB (xs : List Rul) (qs : List Qst) : Bool := pendB xs qs && !(qs.length == 0) && lackB xs (qs.getD (qs.length - 1) noQst)
theorem lkB_no {xs : List Rul} {qs : List Qst} (h : pendB xs qs = false) : lkB xs qs = false := by unfold lkB; rw [h]; rfl
theorem lkB_nil {xs : List Rul} {qs : List Qst} (h : qs.length = 0) : lkB xs qs = false := by unfold lkB; simp [h]
theorem lkB_pos {xs : List Rul} {qs : List Qst} (h : pendB xs qs = true) (h0 : 0 < qs.length) : lkB xs qs = lackB xs (qs[qs.length - 1]'(by omega)) := by
  unfold lkB
  rw [h, getD_lt (show qs.length - 1 < qs.length by omega), show (qs.length == 0) = false from (beq_eq_false_iff_ne).2 (by omega)]
  rfl
set_option maxHeartbeats 1000000 in
theorem lacks_any (A : Option Addr) (c : Nat) (xs : List Rul) (D : Option Addr) (d : Nat) (qs : List Qst) (w : World) (h : PA w A c xs D d qs) :
    Calls Try.prog 70 #[.slice A xs.length c, .slice D qs.length d] w fun e w' => e = .returned (.bool (lkB xs qs)) ∧ Below w.heap.size w w' := by
  have HP := Lib.hid h
  have hqm := h.qm
  clear h
  go_enter Try.func70, Try.ntmps70
  go_wp2_with fail
  refine (pend_any HP.out).mono ?_
  rintro e w1 ⟨rfl, hb⟩
  have HB := Lib.hid hb
  clear hb
  rcases Bool.eq_false_or_eq_true (pendB xs qs) with hr | hr
  · rw [hr]
    by_cases h0 : 0 < qs.length
    · obtain ⟨a, rfl, p0, p1, p2⟩ := question_at (HP.out.below HB.out).qa (show qs.length - 1 < qs.length by omega)
      have t1 : IntKind.i64.wrap ((qs.length : Int) - 1) = (qs.length : Int) - 1 := by rw [IntKind.wrap_i64]; omega
      have t2 : ((qs.length : Int) - 1).toNat = qs.length - 1 := by omega
      have t3 : (0 : Int) ≤ (qs.length : Int) - 1 := by omega
      have t4 : (qs.length : Int) - 1 < (qs.length : Int) := by omega
      have t5 : decide (0 < qs.length) = true := decide_eq_true (by omega)
      have t7 : (1 : Int) ≤ (qs.length : Int) := by omega
      have HIX := Lib.hid (pend_ix hr (show qs.length - 1 < qs.length by omega))
      have HL := Lib.hid (lkB_pos hr h0)
      obtain ⟨p, hp⟩ : ∃ p, Hid (qs[qs.length - 1] = p) := ⟨_, Lib.hid rfl⟩
      rw [hp.out] at p0 p1 p2 HIX HL
      clear hr
      rcases Bool.eq_false_or_eq_true (lackB xs p) with hl | hl
      all_goals
        go_wp2_with fail
        refine (lacksSecond_at A c xs p _ (HP.out.below HB.out).ra HP.out.rm HIX.out).mono ?_
        rintro e w2 ⟨rfl, hb⟩
        rw [hl]
        have HB2 := Lib.hid (HB.out.trans (hb.mono HB.out.size))
        clear hb
        go_wp2
        go_ret
        exact ⟨ret_bool (by rw [HL.out, hl]), HB2.out⟩
    · have h1 : qs.length = 0 := by omega
      have HL := Lib.hid (lkB_nil (xs := xs) h1)
      clear hr
      go_wp2
      go_ret
      exact ⟨ret_bool HL.out.symm, HB.out⟩
  · have HL := Lib.hid (lkB_no hr)
    rw [hr]
    go_wp2
    go_ret
    exact ⟨ret_bool HL.out.symm, HB.out⟩
end Go.Proofs.Ytifahgdalgjgfaa
