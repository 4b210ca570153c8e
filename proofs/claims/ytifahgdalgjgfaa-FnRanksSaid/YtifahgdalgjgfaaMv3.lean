/- MoversOf, in the program. Conditions: the ranges named. -/
import Derived.Test.YtifahgdalgjgfaaAq
import Derived.Test.YtifahgdalgjgfaaMv1
import Derived.Test.YtifahgdalgjgfaaMv2
import Derived.Test.YtifahgdalgjgfaaShelf
namespace Go.Proofs.Ytifahgdalgjgfaa
open Go.RowKit
set_option linter.unusedVariables false
def mvs (qs : List Qst) : List Int := qs.map (·.m)
theorem mvs_len (qs : List Qst) : (mvs qs).length = qs.length := List.length_map _
def mvO (xs : List Rul) (qs : List Qst) : List Int := if pendB xs qs then mvK (mvs qs) qs.length else []
theorem mvs_step {qs : List Qst} {k : Nat} (h : k < qs.length) : IntK.row (mvs (qs.take k)) ++ IntK.row [qs[k].m] = IntK.row (mvs (qs.take (k + 1))) := by
  rw [← IntK.row_append]
  unfold mvs
  rw [List.take_succ_eq_append_getElem h, List.map_append]
  rfl
theorem int_fit {xs : List Int} : ∀ x ∈ xs, IntK.fit x := fun _ _ => trivial
set_option maxHeartbeats 2000000 in
theorem MoversOf_any (A : Option Addr) (c : Nat) (xs : List Rul) (D : Option Addr) (d : Nat) (qs : List Qst) (w : World) (h : PA w A c xs D d qs) :
    Calls Try.prog 31 #[.slice A xs.length c, .slice D qs.length d] w (ToLB IntK 3 w (mvO xs qs) (pendB xs qs)) := by
  have HP := Lib.hid h
  have hqm := h.qm
  clear h
  go_enter Try.func31, Try.ntmps31
  go_wp2_with fail
  refine (pend_any HP.out).mono ?_
  rintro e w1 ⟨rfl, hb⟩
  have HB := Lib.hid hb
  clear hb
  rcases Bool.eq_false_or_eq_true (pendB xs qs) with hr | hr
  all_goals have HRT := Lib.hid hr
  · rw [hr]
    have HD := Lib.hid (show mvO xs qs = mvK (mvs qs) qs.length by unfold mvO; rw [hr]; rfl)
    clear hr
    go_wp2
    go_loopw [6, 16] (fun u i wr => ∃ k : Nat, k ≤ qs.length ∧ i = .int .i64 k ∧ ∃ (O : Option Addr) (oc : Nat), u = .slice O k oc ∧ Hid (wr.ownsRow w.heap.size 3 1 (.slice O k oc) k (IntK.row (mvs (qs.take k)))) ∧ Below w.heap.size w wr) (fun _ i _ => qs.length - (intOf i).toNat)
    case atStart => exact ⟨0, Nat.zero_le _, rfl, _, _, rfl, own_nil_lit _ _ _ _ _ (by simp) HB.out.size, HB.out.trans (((Below.refl _ _).alloc (Nat.le_refl _) _).mono HB.out.size)⟩
    case round =>
      obtain ⟨k, hk, rfl, O, oc, rfl, HO, hB⟩ := hrel
      have HBr := Lib.hid hB
      clear hB
      by_cases hlt : k < qs.length
      · obtain ⟨a, rfl, p0, p1, p2⟩ := question_at (HP.out.below HBr.out).qa hlt
        have i1 : (k : Int) < (qs.length : Int) := by omega
        have HS := Lib.hid (mvs_step hlt)
        obtain ⟨q, hq⟩ : ∃ q, Hid (qs[k] = q) := ⟨_, Lib.hid rfl⟩
        rw [hq.out] at p0 p1 p2 HS
        have HX := Lib.hid (HBr.out.trans ((below1 wr (.cells #[.int .i64 q.r, .int .i64 q.m, .bool q.s] 32)).mono HBr.out.size))
        have HOX := Lib.hid (own_keep HO.out (below1 wr (.cells #[.int .i64 q.r, .int .i64 q.m, .bool q.s] 32)))
        go_wp2_with (at_builtin; go_must (refine list_append elInt _ rfl _ _ rfl w.heap.size O _ oc k 1 1 (IntK.row (mvs (qs.take k))) (IntK.row [q.m]) rfl rfl rfl (own_keep HOX.out ((Below.refl _ _).alloc (Nat.le_refl _) _)) (cells_one _ _ _ _ (by simp)) int_one (by have hsx := HX.out.size; first | omega | (simp at hsx ⊢; omega)) (by omega) ?_); intro O2 oc2 w4 own hb; have HO4 := Lib.hid own; have HB4 := Lib.hid (HX.out.trans ((((Below.refl _ _).alloc (Nat.le_refl _) _).mono HX.out.size).trans hb)); clear own hb)
        go_roundw
        case rel => exact ⟨k + 1, by omega, by go_num, O2, oc2, rfl, by rw [← HS.out]; exact HO4, HB4.out⟩
        case measure => simp [intOf]; omega
      · obtain rfl : k = qs.length := by omega
        rw [List.take_length] at HO
        have HSC := Lib.hid (srt_compact (mvs qs))
        have hle := mvK_len (xs := mvs qs) (mvs qs).length (Nat.le_refl _)
        rw [mvs_len] at HSC hle
        rcases Nat.eq_zero_or_pos qs.length with h0 | h0
        · have h1 : qs = [] := List.eq_nil_of_length_eq_zero h0
          subst h1
          clear h0
          go_wp2_with (first
            | (go_at_call 88; refine (Try.slices_Sort_int_none _ _ _).mono ?_; rintro e w2 ⟨rfl, rfl⟩)
            | (go_at_call 89; refine (Try.slices_Compact_int_empty _ _ _).mono ?_; rintro e w2 ⟨rfl, rfl⟩))
          go_ret2
          exact ToLB.own_ (ys := []) HO.out (by rw [HD.out]; rfl) rfl (by simp) (by simp) HRT.out HBr.out
        · obtain ⟨g, cap, hv, hbg, hgl⟩ := HO.out.form (by omega)
          obtain ⟨rfl, _, rfl⟩ : O = some ⟨g, 0, none⟩ ∧ qs.length = qs.length ∧ oc = cap := (by simpa using hv)
          clear hv
          have hcap := own_cap HO.out
          go_wp2_with fail
          have hcall := Try.slices_Sort_int g 0 oc (mvs qs) wr (holds_own HO.out) hgl (by rw [mvs_len]; omega)
          rw [mvs_len] at hcall
          refine hcall.mono ?_
          clear hcall
          rintro e w2 ⟨rfl, n1, os, hw⟩
          have h3 := own_put HO.out (ys := srtI (mvs qs)) (by rw [srtI_len, mvs_len]) n1
          have h4 := own_grow h3.1 (by have := HBr.out.size; have := h3.2.size; omega) os
          rw [show Go.Sort.grow (Go.Sort.putRow (Value.int .i64) (Go.Sort.ahead wr n1) g 0 (srtI (mvs qs)).toArray) os = w2 from hw.symm] at h4
          have HO2 := Lib.hid h4.1
          have HB2 := Lib.hid (HBr.out.trans (h3.2.trans h4.2))
          clear h3 h4 hw
          go_wp2_with fail
          have hcall := Try.slices_Compact_int g 0 oc (srtI (mvs qs)) w2 (holds_own HO2.out) (by rw [srtI_len, mvs_len]; omega) (by rw [srtI_len, mvs_len]; omega)
          rw [HSC.out, srtI_len, mvs_len] at hcall
          refine hcall.mono ?_
          clear hcall
          rintro e w3 ⟨rfl, n2, hw⟩
          have h3 := own_put HO2.out (ys := mvK (mvs qs) qs.length ++ List.replicate (qs.length - (mvK (mvs qs) qs.length).length) 0) (by rw [List.length_append, List.length_replicate]; omega) n2
          rw [← hw] at h3
          have HB3 := Lib.hid (HB2.out.trans h3.2)
          have HO3 := Lib.hid (own_prefix h3.1 hle)
          clear h3 hw
          go_wp2
          go_ret2
          refine ToLB.own_ (ys := mvK (mvs qs) qs.length) ?_ HD.out rfl (by omega) int_fit HRT.out HB3.out
          have h5 := HO3.out
          rw [IntK.row_append, List.take_left' (by rw [IntK.row_len]; rfl)] at h5
          exact h5
  · have HD := Lib.hid (show mvO xs qs = [] by unfold mvO; rw [hr]; rfl)
    rw [hr]
    go_wp2
    go_ret2
    exact ToLB.none_ HD.out HRT.out HB.out
end Go.Proofs.Ytifahgdalgjgfaa
