/- Numbers read, in the program (as Pt4, beside Pc1). Conditions: what Cx names, the ranges named. -/
import Derived.Test.YtnnphhhjkhoglaaDoorPt3
import Derived.Test.YtnnphhhjkhoglaaDoorPc1
import Derived.Lib.SmallJoins
import Derived.Lib.SplitLaws
namespace Go.Proofs.YtnnphhhjkhoglaaDoor
open Go.RowKit
set_option linter.unusedVariables false
set_option linter.unusedSimpArgs false
/-- What the library reads of its own variables. -/
structure Cx (w : World) : Prop where
  tab : Tab w
  mx : ∃ m : Int, w.cell? ⟨1, 0, none⟩ = some (.int .i64 m)
  es : ∃ ev, w.cell? ⟨2, 0, none⟩ = some ev ∧ (ev = .nilIface ∨ ∃ te pe, ev = .iface te pe)
  er : ∃ ev, w.cell? ⟨3, 0, none⟩ = some ev ∧ (ev = .nilIface ∨ ∃ te pe, ev = .iface te pe)
theorem Cx.below {w w' : World} (h : Cx w) (hb : Below w.heap.size w w') : Cx w' := by
  obtain ⟨h1, ⟨m, h2⟩, ⟨e, h3, h3'⟩, ⟨e2, h4, h4'⟩⟩ := h
  exact ⟨h1.below hb, ⟨m, keep_cell hb h2⟩, ⟨e, keep_cell hb h3, h3'⟩, ⟨e2, keep_cell hb h4, h4'⟩⟩
theorem Cx.lib {w : World} (h : Cx w) : Mx w := h.mx
theorem itoa_z (v : Int) (h0 : -999999 ≤ v) (h1 : v ≤ 999999) (w : World) (h : Cx w) : Calls Tryd.prog 28 #[.int .i64 v] w fun e w' => e = .returned (.string (bar (Go.Lib.itoa v))) ∧ Below w.heap.size w w' := by
  refine (Tryd.strconv_Itoa v (by omega) (by omega) w h.tab.here).mono ?_
  rintro e w' ⟨rfl, k, os, rfl⟩
  exact ⟨rfl, (below_drewN (Below.refl _ _) k).trans (grow_below (w.drewN k) os)⟩
theorem atoi_z (s : ByteArray) (hs : s.size ≤ 7) (w : World) (h : Cx w) : Calls Tryd.prog 26 #[.string s] w fun e w' => (∀ v, Go.Lib.atoiAll s.data.toList = .ok v → e = .returned (.tuple #[.int .i64 v, .nilIface])) ∧ ((∀ v, Go.Lib.atoiAll s.data.toList ≠ .ok v) → ∃ (v : Int) (t : TypeId) (p : Value), e = .returned (.tuple #[.int .i64 v, .iface t p])) ∧ Below w.heap.size w w' := by
  rcases ha : Go.Lib.atoiAll s.data.toList with v | _ | _
  ·
    refine (Tryd.strconv_Atoi_ok s (by omega) v ha w).mono ?_
    rintro e w' ⟨rfl, hw⟩
    refine ⟨fun u hu => by injection hu with hu; rw [hu], fun hn => absurd rfl (hn v), ?_⟩
    rcases hw with rfl | ⟨t, rfl⟩
    · exact Below.refl _ _
    · exact Go.Lib.bytesWorld_below _ _ _
  ·
    obtain ⟨ev, hv, hev⟩ := h.es
    refine (Tryd.strconv_Atoi_syntax s (by omega) ha ev w hv hev).mono ?_
    rintro e w' ⟨N, rfl, _, _, hb⟩
    exact ⟨fun u hu => by (cases hu), fun _ => ⟨_, _, _, rfl⟩, hb⟩
  ·
    obtain ⟨ev, hv, hev⟩ := h.er
    refine (Tryd.strconv_Atoi_range s (by omega) ha ev w hv hev).mono ?_
    rintro e w' ⟨N, rfl, _, _, hb⟩
    exact ⟨fun u hu => by (cases hu), fun _ => ⟨_, _, _, rfl⟩, hb⟩
theorem pi_long {l : List UInt8} (h : ¬ l.length ≤ 7) : piV l = none := by unfold piV; rw [if_neg h]
theorem pi_ok {l : List UInt8} {v : Int} (h : l.length ≤ 7) (hv : Go.Lib.atoiAll l = .ok v) : piV l = if (-999999 ≤ v ∧ v ≤ 999999) ∧ Go.Lib.itoa v = l then some v else none := by unfold piV; rw [if_pos h, hv]
theorem pi_bad {l : List UInt8} (h : ∀ v, Go.Lib.atoiAll l ≠ .ok v) : piV l = none := by
  unfold piV
  split
  · rcases ha : Go.Lib.atoiAll l with v | _ | _
    · exact absurd ha (h v)
    · rfl
    · rfl
  · rfl
set_option maxHeartbeats 2000000 in
theorem ParseInt_any (s : ByteArray) (w : World) (hs : s.size ≤ maxLen) (h : Cx w) : Calls Tryd.prog 12 #[.string s] w fun e w' => e = .returned (optI (piV s.data.toList)) ∧ Below w.heap.size w w' := by
  unfold maxLen at hs
  have hsl : s.data.toList.length = s.size := Array.length_toList
  have HC := Lib.hid h
  clear h
  by_cases h7 : s.size ≤ 7
  · have i1 : ¬ (7 : Int) < (s.size : Int) := by omega
    by_cases hok : ∃ v, Go.Lib.atoiAll s.data.toList = .ok v
    · obtain ⟨v, hv⟩ := hok
      have HP := Lib.hid (pi_ok (by rw [hsl]; exact h7) hv)
      have HV := Lib.hid hv
      clear hv
      rcases Bool.eq_false_or_eq_true (inB v (-999999) 999999) with hin | hin
      · have hv2 := inB_iff.1 hin
        by_cases ht : Go.Lib.itoa v = s.data.toList
        · have HQ := Lib.hid (bar_eq.2 ht)
          rw [if_pos ⟨hv2, ht⟩] at HP
          clear ht
          go_enter Tryd.func12, Tryd.ntmps12
          go_wp2_with (first
            | (go_at_call 26; refine (atoi_z s h7 _ HC.out).mono ?_; rintro e w1 ⟨he, -, hb⟩; rw [he v HV.out]; have HB := Lib.hid hb; clear he hb)
            | (go_at_call 27; refine (inside_any _ _ _ _).mono ?_; rintro e w' ⟨rfl, rfl⟩; rw [hin])
            | (go_at_call 28; refine (itoa_z v hv2.1 hv2.2 _ (HC.out.below HB.out)).mono ?_; rintro e w2 ⟨rfl, hb⟩; rw [HQ.out]; have HB2 := Lib.hid (HB.out.trans (hb.mono HB.out.size)); clear hb))
          go_ret2
          exact ⟨by rw [HP.out]; rfl, HB2.out⟩
        · obtain ⟨x, hx⟩ : ∃ x, Hid (bar (Go.Lib.itoa v) = x) := ⟨_, Lib.hid rfl⟩
          have hxs : (!x.toList == s.toList) = true := same_no (fun h => ht (bar_eq.1 (hx.out.trans h)))
          rw [if_neg (fun h => ht h.2)] at HP
          clear ht
          go_enter Tryd.func12, Tryd.ntmps12
          go_wp2_with (first
            | (go_at_call 26; refine (atoi_z s h7 _ HC.out).mono ?_; rintro e w1 ⟨he, -, hb⟩; rw [he v HV.out]; have HB := Lib.hid hb; clear he hb)
            | (go_at_call 27; refine (inside_any _ _ _ _).mono ?_; rintro e w' ⟨rfl, rfl⟩; rw [hin])
            | (go_at_call 28; refine (itoa_z v hv2.1 hv2.2 _ (HC.out.below HB.out)).mono ?_; rintro e w2 ⟨rfl, hb⟩; rw [hx.out]; have HB2 := Lib.hid (HB.out.trans (hb.mono HB.out.size)); clear hb))
          go_ret2
          exact ⟨by rw [HP.out]; rfl, HB2.out⟩
      · rw [if_neg (fun h => by rw [inB_iff.2 h.1] at hin; cases hin)] at HP
        go_enter Tryd.func12, Tryd.ntmps12
        go_wp2_with (first
          | (go_at_call 26; refine (atoi_z s h7 _ HC.out).mono ?_; rintro e w1 ⟨he, -, hb⟩; rw [he v HV.out]; have HB := Lib.hid hb; clear he hb)
          | (go_at_call 27; refine (inside_any _ _ _ _).mono ?_; rintro e w' ⟨rfl, rfl⟩; rw [hin]))
        go_ret2
        exact ⟨by rw [HP.out]; rfl, HB.out⟩
    · have HN := Lib.hid (fun v h => hok ⟨v, h⟩ : ∀ v, Go.Lib.atoiAll s.data.toList ≠ .ok v)
      have HP := Lib.hid (pi_bad HN.out)
      clear hok
      go_enter Tryd.func12, Tryd.ntmps12
      go_wp2_with (go_at_call 26; refine (atoi_z s h7 _ HC.out).mono ?_; rintro e w1 ⟨-, he, hb⟩; obtain ⟨v, t, p, rfl⟩ := he HN.out; have HB := Lib.hid hb; clear he hb)
      go_ret2
      exact ⟨by rw [HP.out]; rfl, HB.out⟩
  · have i1 : (7 : Int) < (s.size : Int) := by omega
    have HP := Lib.hid (pi_long (l := s.data.toList) (by rw [hsl]; exact h7))
    go_enter Tryd.func12, Tryd.ntmps12
    go_wp2
    go_ret2
    exact ⟨by rw [HP.out]; rfl, Below.refl _ _⟩
end Go.Proofs.YtnnphhhjkhoglaaDoor
