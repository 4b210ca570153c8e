/- FreeProposals in the reference. Conditions: the ranges named. -/
import Derived.Test.YtgchbimjgdoifaaFp2
import Derived.Deep.DrawnRows
namespace Go.Proofs.Ytgchbimjgdoifaa
open Go.RowKit
set_option linter.unusedVariables false
set_option linter.unusedSimpArgs false
attribute [local go_sem ↓] Go.wp_at_zero Go.wp_at_succ
set_option maxHeartbeats 4000000 in
set_option maxRecDepth 100000 in
theorem sFreeProposals_any (T A : Option Addr) (t c : Nat) (ss : List ByteArray) (ps : List Prp) (w : World) (hT : Cells w T (strs ss)) (htc : ss.length ≤ t) (hfs : Fit ss) (hd : DL w A c ps) (hf : FitP ps) :
    Calls Try.prog 59 #[.slice T ss.length t, .slice A ps.length c] w (ToLB IntK 3 w (freeL ss ps) (propB ss ps)) := by
  have HV := Lib.hid (fun W (hW : Below w.heap.size w W) => l10Good_any T A t c ss ps W (hT.below hW) htc hfs (hd.below hW) hf)
  have HD := Lib.hid hd
  have HF := Lib.hid hf
  clear hT hd hf
  go_enter Try.func59, Try.ntmps59
  have HZ := Lib.hid (own_nil_lit w w.heap.size w.heap.size 3 1 rfl (Nat.le_refl _))
  have HZB := Lib.hid (below1 w (.cells #[] 3))
  go_wp2_with fail
  refine (HV.out _ HZB.out).mono ?_
  rintro e w1 ⟨rfl, hb⟩
  have HO0 := Lib.hid (own_keep HZ.out hb)
  have HB0 := Lib.hid (HZB.out.trans (hb.mono HZB.out.size))
  clear hb HZ HZB HV
  rcases Bool.eq_false_or_eq_true (propB ss ps) with hr | hr
  · have HPY := Lib.hid (show freeL ss ps = frL ps ps.length by unfold freeL; rw [hr]; rfl)
    rw [hr]
    go_wp2_with fail
    have HG := Lib.hid (Good8.of hr)
    have h8 := HG.out.few
    have HV := Lib.hid (fun (k : Nat) (hk : k < ps.length) => (show Small ps[k].a ∧ ps[k].a.ws.length ≤ 1048576 from ⟨Small.of (HG.out.vld _ (List.getElem_mem hk)), (HF.out.2.1 _ (List.getElem_mem hk)).1⟩))
    go_loopw [6, 7] (fun u i wr => ∃ k : Nat, k ≤ ps.length ∧ i = .int .i64 k ∧ ∃ (xs : List Int) (O : Option Addr) (oc : Nat), Hid (xs = frL ps k) ∧ u = .slice O xs.length oc ∧ Hid (wr.ownsRow w.heap.size 3 1 (.slice O xs.length oc) xs.length (IntK.row xs)) ∧ Below w.heap.size w wr) (fun _ i _ => ps.length - (intOf i).toNat)
    case atStart => exact ⟨0, Nat.zero_le _, rfl, [], _, _, Lib.hid rfl, rfl, HO0, HB0.out⟩
    case round =>
      clear HO0 HB0
      obtain ⟨w1, hw1⟩ : ∃ x : World, x = wr := ⟨_, rfl⟩
      subst hw1
      obtain ⟨k, hk, rfl, xs, O, oc, HXS, rfl, HO, hB⟩ := hrel
      have HB := Lib.hid hB
      clear hB
      by_cases hlt : k < ps.length
      · have i1 : (k : Int) < (ps.length : Int) := by omega
        go_wp2_with fail
        go_loopw [8, 9] (fun f i w2 => ∃ m : Nat, m ≤ ps.length ∧ i = .int .i64 m ∧ f = .bool (loneB ps k m) ∧ Below w1.heap.size w1 w2) (fun _ i _ => ps.length - (intOf i).toNat)
        case atStart => exact ⟨0, Nat.zero_le _, rfl, rfl, Below.refl _ _⟩
        case round =>
          obtain ⟨w2, hw2⟩ : ∃ x : World, x = wr := ⟨_, rfl⟩
          subst hw2
          obtain ⟨m, hm, rfl, rfl, hB⟩ := hrel
          have HB2 := Lib.hid hB
          clear hB
          by_cases hlm : m < ps.length
          · have i2 : (m : Int) < (ps.length : Int) := by omega
            have HST := Lib.hid (loneB_step (ps := ps) (i := k) (k := m))
            rcases Bool.eq_false_or_eq_true (loneB ps k m) with hl | hl
            · by_cases hkm : k = m
              · subst hkm
                have HE := Lib.hid (show loneB ps k (k + 1) = true by rw [HST.out, hl]; simp)
                rw [hl]
                clear HST
                go_wp2
                go_quiet (fail)
                go_wp2
                go_roundw
                case rel => exact ⟨k + 1, hlm, by go_num, by rw [HE.out], by first | exact HB2.out | exact below_drewN HB2.out _ | exact HB2.out.drew⟩
                case measure => simp [intOf]; omega
              · have hne : ¬ (k : Int) = (m : Int) := by omega
                have hneb : ((k : Int) == (m : Int)) = false := by simpa using hne
                have hned : decide ((k : Int) = (m : Int)) = false := by simpa using hne
                obtain ⟨a, B, d, hA, ⟨b0, b1, b2, b3, b4, _⟩, _, _⟩ := HD.out.at_ hlt
                obtain ⟨a', B2, d2, hA', ⟨f0, f1, f2, f3, f4, _⟩, _, _⟩ := HD.out.at_ hlm
                obtain rfl : a = a' := by rw [hA] at hA'; simpa using hA'
                have HVP := Lib.hid (HV.out k hlt)
                have HVQ := Lib.hid (HV.out _ hlm)
                have HE := Lib.hid (show loneB ps k (m + 1) = !conB ps[k].a ps[m].a by rw [HST.out, hl, hned, getP hlt, getP hlm]; simp)
                obtain ⟨p, hp⟩ : ∃ p, Hid (ps[k] = p) := ⟨_, Lib.hid rfl⟩
                obtain ⟨q, hqq⟩ : ∃ q, Hid (ps[m] = q) := ⟨_, Lib.hid rfl⟩
                rw [hqq.out] at f0 f1 f2 f3 f4 HVQ HE
                rw [hp.out] at b0 b1 b2 b3 b4 HVP HE
                have HBW := Lib.hid (HB.out.trans (HB2.out.mono HB.out.size))
                have c1 := (HBW.out.cell (World.block_lt_of_cell? _ _ b1)).trans b1
                have c2 := (HBW.out.cell (World.block_lt_of_cell? _ _ b2)).trans b2
                have c3 := (HBW.out.cell (World.block_lt_of_cell? _ _ b3)).trans b3
                have c4 := (HBW.out.cell (World.block_lt_of_cell? _ _ b4)).trans b4
                have e1 := (HBW.out.cell (World.block_lt_of_cell? _ _ f1)).trans f1
                have e2 := (HBW.out.cell (World.block_lt_of_cell? _ _ f2)).trans f2
                have e3 := (HBW.out.cell (World.block_lt_of_cell? _ _ f3)).trans f3
                have e4 := (HBW.out.cell (World.block_lt_of_cell? _ _ f4)).trans f4
                subst hA
                clear b0 b1 b2 b3 b4 f0 f1 f2 f3 f4 hA' HST
                rw [hl]
                go_wp2
                go_region_held3 (fun w' => Below w2.heap.size w2 w' ∧ w'.cell? ⟨(a.add (k * 6)).block, (a.add (k * 6)).off + 1, none⟩ = some (.int .i64 p.a.k) ∧ w'.cell? ⟨(a.add (k * 6)).block, (a.add (k * 6)).off + 2, none⟩ = some (.int .i64 p.a.p) ∧ w'.cell? ⟨(a.add (k * 6)).block, (a.add (k * 6)).off + 3, none⟩ = some (.int .i64 p.a.n) ∧ w'.cell? ⟨(a.add (k * 6)).block, (a.add (k * 6)).off + 4, none⟩ = some (.slice B p.a.ws.length d) ∧ w'.cell? ⟨(a.add (m * 6)).block, (a.add (m * 6)).off + 1, none⟩ = some (.int .i64 q.a.k) ∧ w'.cell? ⟨(a.add (m * 6)).block, (a.add (m * 6)).off + 2, none⟩ = some (.int .i64 q.a.p) ∧ w'.cell? ⟨(a.add (m * 6)).block, (a.add (m * 6)).off + 3, none⟩ = some (.int .i64 q.a.n) ∧ w'.cell? ⟨(a.add (m * 6)).block, (a.add (m * 6)).off + 4, none⟩ = some (.slice B2 q.a.ws.length d2))
                  ((first | exact ⟨(Below.refl _ _).drew, c1, c2, c3, c4, e1, e2, e3, e4⟩ | (refine ⟨hb, (hb.cell (World.block_lt_of_cell? _ _ c1)).trans c1, (hb.cell (World.block_lt_of_cell? _ _ c2)).trans c2, (hb.cell (World.block_lt_of_cell? _ _ c3)).trans c3, (hb.cell (World.block_lt_of_cell? _ _ c4)).trans c4, (hb.cell (World.block_lt_of_cell? _ _ e1)).trans e1, (hb.cell (World.block_lt_of_cell? _ _ e2)).trans e2, (hb.cell (World.block_lt_of_cell? _ _ e3)).trans e3, (hb.cell (World.block_lt_of_cell? _ _ e4)).trans e4⟩)))
                  (first
                    | (go_at_call 91; refine (l10Conflict_any B B2 d d2 p.a q.a _ HVP.out.1 HVQ.out.1 HVP.out.2 HVQ.out.2).mono ?_; rintro e w3 ⟨rfl, hb0⟩; have hb := (below_drewN (Below.refl w2.heap.size w2) 1).trans hb0; clear hb0))
                have HB3 := Lib.hid (HB2.out.trans (hb.mono HB2.out.size))
                clear hb c1 c2 c3 c4 e1 e2 e3 e4
                rcases Bool.eq_false_or_eq_true (conB p.a q.a) with hc | hc
                · rw [hc]
                  go_wp2
                  go_roundw
                  case rel => exact ⟨m + 1, hlm, by go_num, by rw [HE.out, hc], HB3.out⟩
                  case measure => simp [intOf]; omega
                · rw [hc]
                  go_wp2
                  go_roundw
                  case rel => exact ⟨m + 1, hlm, by go_num, by rw [HE.out, hc], HB3.out⟩
                  case measure => simp [intOf]; omega
            · have HE := Lib.hid (show loneB ps k (m + 1) = false by rw [HST.out, hl]; simp)
              rw [hl]
              clear HST
              go_wp2
              go_quiet (fail)
              go_wp2
              go_roundw
              case rel => exact ⟨m + 1, hlm, by go_num, by rw [HE.out], by first | exact HB2.out | exact below_drewN HB2.out _ | exact HB2.out.drew⟩
              case measure => simp [intOf]; omega
          · obtain rfl : m = ps.length := by omega
            obtain ⟨a, B, d, hA, ⟨b0, _, _, _, _, _⟩, _, _⟩ := HD.out.at_ hlt
            have HBW := Lib.hid (HB.out.trans (HB2.out.mono HB.out.size))
            have c0 := (HBW.out.cell (World.block_lt_of_cell? _ _ b0)).trans b0
            have HY := Lib.hid (fun h => frL_yes (ps := ps) hlt h)
            have HN := Lib.hid (fun h => frL_no (ps := ps) (k := k) h)
            have HLE := Lib.hid (frL_len ps k)
            have HW4 := Lib.hid (own_keep HO.out HB2.out)
            obtain ⟨p, hp⟩ : ∃ p, Hid (ps[k] = p) := ⟨_, Lib.hid rfl⟩
            rw [hp.out] at c0 HY
            subst hA
            clear b0
            rcases Bool.eq_false_or_eq_true (loneB ps k ps.length) with hl | hl
            · have HYY := Lib.hid (HY.out hl)
              have hL : xs.length ≤ 100 := by rw [HXS.out]; have := HLE.out; omega
              rw [hl]
              clear HY HN hl
              go_wp2_with (at_builtin; go_must (refine list_append elInt _ rfl _ _ rfl w.heap.size O _ oc xs.length 1 1 (IntK.row xs) (IntK.row [p.i]) rfl rfl rfl (own_keep HW4.out ((Below.refl _ _).alloc (Nat.le_refl _) _)) (cells_one _ _ _ _ (by simp)) int_one (by have := HBW.out.size; simp; omega) (by omega) ?_); intro P2 pc2 w5 o2 b2; have HW5 := Lib.hid o2; have HB5 := Lib.hid (HBW.out.trans (((below1 w2 _).mono HBW.out.size).trans b2)); clear o2 b2 c0)
              go_roundw
              case rel =>
                refine ⟨k + 1, hlt, by go_num, xs ++ [p.i], P2, pc2, Lib.hid (by rw [HYY.out, HXS.out]), by rw [List.length_append]; rfl, ?_, HB5.out⟩
                have := HW5.out
                rw [← IntK.row_append] at this
                rw [List.length_append]
                exact Lib.hid this
              case measure => simp [intOf]; omega
            · have HNN := Lib.hid (HN.out hl)
              rw [hl]
              clear HY HN hl
              go_wp2
              go_roundw
              case rel => exact ⟨k + 1, hlt, by go_num, xs, O, oc, Lib.hid (by rw [HNN.out]; exact HXS.out), rfl, HW4, HBW.out⟩
              case measure => simp [intOf]; omega
      · obtain rfl : k = ps.length := by omega
        have hl := frL_len ps ps.length
        go_wp2
        go_ret2
        exact ToLB.own_ HO.out (by rw [HPY.out, HXS.out]) rfl (by rw [HXS.out]; omega) (fun _ _ => trivial) hr HB.out
  · rw [hr]
    go_wp2
    go_ret2
    exact ToLB.own_ (ys := []) HO0.out (by unfold freeL; rw [hr]; rfl) rfl (by simp) (fun _ _ => trivial) hr HB0.out
end Go.Proofs.Ytgchbimjgdoifaa
