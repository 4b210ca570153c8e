/- A section cut out of a document with its parts, in the program and in the reference. Conditions: the ranges named. -/
import Derived.Test.YtifahgdalgjgfaaSe6
import Derived.Test.YtifahgdalgjgfaaInsSection
namespace Go.Proofs.Ytifahgdalgjgfaa
open Go.RowKit
set_option linter.unusedVariables false
set_option linter.unusedSimpArgs false
attribute [local go_sem ↓] Go.wp_at_zero Go.wp_at_succ
def cutL (xs : List Sec) (i : Int) : List Sec := if askB xs i = true then xs.take i.toNat ++ xs.drop (i.toNat + 1 + partN xs i.toNat) else []
theorem cut_fit {xs : List Sec} {n j : Nat} (hf : ∀ x ∈ xs, SectionK.fit x) : ∀ y ∈ xs.take n ++ xs.drop j, SectionK.fit y := fun y hy => by
  rcases List.mem_append.1 hy with h | h
  · exact hf y (List.mem_of_mem_take h)
  · exact hf y (List.mem_of_mem_drop h)
set_option maxHeartbeats 2000000 in
theorem CutSection_any (A : Option Addr) (c : Nat) (xs : List Sec) (i : Int) (w : World) (h : Cells w A (SectionK.row xs)) (hcc : xs.length ≤ c) (hn : xs.length ≤ 1048576) (hf : ∀ x ∈ xs, SectionK.fit x) :
    Calls Try.prog 52 #[.slice A xs.length c, .int .i64 i] w (ToLB SectionK 78 w (cutL xs i) (askB xs i)) := by
  have H := Lib.hid h
  have HF := Lib.hid hf
  clear h hf
  go_enter Try.func52, Try.ntmps52
  go_wp2_with fail
  refine (hasSection_any A c xs i _ H.out hn HF.out).mono ?_
  rintro e w1 ⟨rfl, hb⟩
  have HB := Lib.hid hb
  clear hb
  rcases Bool.eq_false_or_eq_true (askB xs i) with hd | hd
  · obtain ⟨h1, h2, n, rfl, hl⟩ := ask_at hd
    have hpl := part_le hl
    have HD := Lib.hid (show cutL xs (n : Int) = xs.take n ++ xs.drop (n + 1 + partN xs n) ∧ askB xs (n : Int) = true from ⟨by unfold cutL; rw [if_pos hd]; rfl, hd⟩)
    rw [hd]
    clear hd h1
    obtain ⟨p, hp⟩ : ∃ p, Hid (partN xs n = p) := ⟨_, Lib.hid rfl⟩
    rw [hp.out] at HD hpl
    obtain ⟨j, hj⟩ : ∃ j, n + 1 + p = j := ⟨_, rfl⟩
    rw [hj] at HD
    have q1 : IntKind.i64.wrap ((n : Int) + 1) = (n : Int) + 1 := by rw [IntKind.wrap_i64]; omega
    have q2 : IntKind.i64.wrap ((n : Int) + 1 + (p : Int)) = (j : Int) := by rw [IntKind.wrap_i64]; omega
    go_wp2_with (at_builtin; go_must (refine list_append_lit elSection _ rfl _ _ rfl w.heap.size _ A xs.length c (SectionK.row (xs)) rfl rfl (SectionK.row_len xs) (own_nil_lit _ _ _ _ _ (by simp) HB.out.size) ((H.out.below HB.out).alloc_ _) section_one (by have hsx := HB.out.size; simp; omega) (by omega) ?_); intro O oc w2 own hb hq; have HO := Lib.hid own; have HB2 := Lib.hid (HB.out.trans ((bmonoS hb).mono HB.out.size)); clear own hb hq)
    refine (partsOf_any A c xs n _ (H.out.below HB2.out) hl (by omega)).mono ?_
    rintro e w3 ⟨rfl, hm⟩
    rw [hp.out]
    replace HO := Lib.hid (own_keep HO.out (below_drews (Below.refl w2.heap.size w2) hm))
    have HB3 := Lib.hid (below_drews HB2.out hm)
    clear hm
    obtain ⟨g, cap, hv, hbg, hgl⟩ := HO.out.form (by omega)
    obtain ⟨rfl, _, rfl⟩ : O = some ⟨g, 0, none⟩ ∧ xs.length = xs.length ∧ oc = cap := (by simpa using hv)
    clear hv
    go_wp2_with fail
    refine (deleteS_any w.heap.size g xs.length oc n j xs w3 rfl HO.out (by omega) (by omega) (by omega) HB3.out.size).mono ?_
    rintro e w4 ⟨rfl, own, hb⟩
    have HO4 := Lib.hid own
    have HB4 := Lib.hid (HB3.out.trans hb)
    clear own hb
    go_wp2
    go_ret2
    exact tolb_own (ys := xs.take n ++ xs.drop j) HO4.out HD.out.1 (by simp; omega) (by simp; omega) (cut_fit HF.out) HD.out.2 HB4.out
  · have HD := Lib.hid (show cutL xs i = [] ∧ askB xs i = false from ⟨by unfold cutL; rw [hd]; rfl, hd⟩)
    rw [hd]
    clear hd
    go_wp2
    go_ret2
    exact tolb_none HD.out.1 HD.out.2 HB.out
set_option maxHeartbeats 2000000 in
theorem sCutSection_any (A : Option Addr) (c : Nat) (xs : List Sec) (i : Int) (w : World) (h : Cells w A (SectionK.row xs)) (hcc : xs.length ≤ c) (hn : xs.length ≤ 1048576) (hf : ∀ x ∈ xs, SectionK.fit x) :
    Calls Try.prog 53 #[.slice A xs.length c, .int .i64 i] w (ToLB SectionK 78 w (cutL xs i) (askB xs i)) := by
  have H := Lib.hid h
  have HF := Lib.hid hf
  clear h hf
  go_enter Try.func53, Try.ntmps53
  go_wp2_with fail
  refine (l6Asked_any A c xs i _ H.out hn HF.out).mono ?_
  rintro e w1 ⟨rfl, hb⟩
  have HB := Lib.hid hb
  clear hb
  rcases Bool.eq_false_or_eq_true (askB xs i) with hd | hd
  · obtain ⟨h1, h2, n, rfl, hl⟩ := ask_at hd
    have hpl := part_le hl
    have HD := Lib.hid (show cutL xs (n : Int) = xs.take n ++ xs.drop (n + 1 + partN xs n) ∧ askB xs (n : Int) = true from ⟨by unfold cutL; rw [if_pos hd]; rfl, hd⟩)
    rw [hd]
    clear hd h1
    obtain ⟨p, hp⟩ : ∃ p, Hid (partN xs n = p) := ⟨_, Lib.hid rfl⟩
    rw [hp.out] at HD hpl
    obtain ⟨j, hj⟩ : ∃ j, n + 1 + p = j := ⟨_, rfl⟩
    rw [hj] at HD
    have q1 : IntKind.i64.wrap ((n : Int) + (p : Int)) = (n : Int) + (p : Int) := by rw [IntKind.wrap_i64]; omega
    have q2 : IntKind.i64.wrap ((n : Int) + (p : Int) + 1) = (j : Int) := by rw [IntKind.wrap_i64]; omega
    have kd1 : (n : Int) ≤ (c : Int) := by omega
    have kd3 : n ≤ c := by omega
    have kd5 : (j : Int) ≤ (xs.length : Int) := by omega
    have kd6 : (xs.length : Int) ≤ (c : Int) := by omega
    have hjl : j ≤ xs.length := by omega
    go_wp2_with (at_builtin; go_must (refine list_append_lit elSection _ rfl _ _ rfl w.heap.size _ A n c (SectionK.row (xs.take n)) rfl rfl (by rw [Kd.row_len, List.length_take, Nat.min_eq_left (by omega)]; rfl) (own_nil_lit _ _ _ _ _ (by simp) HB.out.size) ((takeS SectionK (H.out.below HB.out)).alloc_ _) section_one (by have hsx := HB.out.size; simp; omega) (by omega) ?_); intro O oc w2 own hb hq; have HO := Lib.hid own; have HB2 := Lib.hid (HB.out.trans ((bmonoS hb).mono HB.out.size)); clear own hb hq)
    refine (l6Part_any A c xs n _ (H.out.below HB2.out) hl (by omega)).mono ?_
    rintro e w3 ⟨rfl, hm⟩
    rw [hp.out]
    replace HO := Lib.hid (own_keep HO.out (below_drews (Below.refl w2.heap.size w2) hm))
    have HB3 := Lib.hid (below_drews HB2.out hm)
    clear hm hp
    obtain ⟨Q, e2⟩ : ∃ Q, (if c = j then A else A.map (·.add (j * 2))) = Q := ⟨_, rfl⟩
    have HQ := Lib.hid (show j < xs.length → Q = A.map (·.add (j * SectionK.sz)) from fun h => by rw [← e2, if_neg (by omega)]; rfl)
    go_wp2_with (at_builtin; go_must (refine list_append_gr elSection _ rfl _ _ rfl w.heap.size O Q oc n (xs.length - j) (c - j) (SectionK.row (xs.take n)) (SectionK.row (xs.drop j)) rfl rfl (by rw [Kd.row_len, List.length_drop]; rfl) HO.out (dropS SectionK (H.out.below HB3.out) HQ.out) section_one HB3.out.size (by omega) ?_); intro O2 oc2 w4 own hb hg; have HO4 := Lib.hid own; have HB4 := Lib.hid (HB3.out.trans hb); clear own hb hg)
    go_ret2
    have HO5 := HO4.out
    rw [← Kd.row_append] at HO5
    exact tolb_own (ys := xs.take n ++ xs.drop j) HO5 HD.out.1 (by simp; omega) (by simp; omega) (cut_fit HF.out) HD.out.2 HB4.out
  · have HD := Lib.hid (show cutL xs i = [] ∧ askB xs i = false from ⟨by unfold cutL; rw [hd]; rfl, hd⟩)
    rw [hd]
    clear hd
    go_wp2
    go_ret2
    exact tolb_own (ys := []) (own_nil_lit _ _ _ _ _ rfl HB.out.size) HD.out.1 rfl (by simp) (by simp) HD.out.2 (HB.out.trans (((Below.refl _ _).alloc (Nat.le_refl _) _).mono HB.out.size))
end Go.Proofs.Ytifahgdalgjgfaa
