/- ApplyTogether in the reference. Conditions: the ranges named. -/
import Derived.Test.YtgchbimjgdoifaaTg2
import Derived.Deep.DrawnRows
namespace Go.Proofs.Ytgchbimjgdoifaa
open Go.RowKit
set_option linter.unusedVariables false
set_option linter.unusedSimpArgs false
attribute [local go_sem ↓] Go.wp_at_zero Go.wp_at_succ
theorem noneB_step {ps : List Prp} {k : Nat} (h : noneB ps k = true) (h2 : rowB ps k k = true) : noneB ps (k + 1) = true := allN_step h h2
theorem rowB_step {ps : List Prp} {k j : Nat} (h : rowB ps k j = true) (h2 : conB (ps.getD k noP).a (ps.getD j noP).a = false) : rowB ps k (j + 1) = true := allN_step h (by rw [h2]; rfl)
theorem noneB_no {ps : List Prp} {k j : Nat} (hk : k < ps.length) (hj : j < k) (h2 : conB (ps.getD k noP).a (ps.getD j noP).a = true) : noneB ps ps.length = false := allN_no hk (allN_no hj (by rw [h2]; rfl))
set_option maxHeartbeats 4000000 in
set_option maxRecDepth 100000 in
theorem l10Free_any (A : Option Addr) (c : Nat) (ps : List Prp) (w : World) (hd : DL w A c ps) (h8 : ps.length ≤ 1000) (hv : ∀ k (hk : k < ps.length), Small ps[k].a ∧ ps[k].a.ws.length ≤ 1048576) :
    Calls Try.prog 97 #[.slice A ps.length c] w fun e w' => e = .returned (.bool (noneB ps ps.length)) ∧ Below w.heap.size w w' := by
  have HD := Lib.hid hd
  have HV := Lib.hid hv
  clear hd hv
  go_enter Try.func97, Try.ntmps97
  go_wp2
  go_loopw [3] (fun i wr => ∃ k : Nat, k ≤ ps.length ∧ i = .int .i64 k ∧ Hid (noneB ps k = true) ∧ Below w.heap.size w wr) (fun i _ => ps.length - (intOf i).toNat)
  case atStart => exact ⟨0, Nat.zero_le _, rfl, Lib.hid rfl, Below.refl _ _⟩
  case round =>
    obtain ⟨w1, hw1⟩ : ∃ x : World, x = wr := ⟨_, rfl⟩
    subst hw1
    obtain ⟨k, hk, rfl, HN, hB⟩ := hrel
    have HB := Lib.hid hB
    clear hB
    by_cases hlt : k < ps.length
    · have i1 : (k : Int) < (ps.length : Int) := by omega
      go_wp2_with fail
      go_loopw [4] (fun i wr => ∃ m : Nat, m ≤ k ∧ i = .int .i64 m ∧ Hid (rowB ps k m = true) ∧ Below w.heap.size w wr) (fun i _ => k - (intOf i).toNat)
      case atStart => exact ⟨0, Nat.zero_le _, rfl, Lib.hid rfl, HB.out⟩
      case round =>
        clear HB
        obtain ⟨w2, hw2⟩ : ∃ x : World, x = wr := ⟨_, rfl⟩
        subst hw2
        obtain ⟨m, hm, rfl, HR, hB⟩ := hrel
        have HB := Lib.hid hB
        clear hB
        by_cases hlm : m < k
        · have i2 : (m : Int) < (k : Int) := by omega
          have hml : m < ps.length := by omega
          have i3 : (m : Int) < (ps.length : Int) := by omega
          obtain ⟨a, B, d, hA, ⟨b0, b1, b2, b3, b4, _⟩, _, _⟩ := HD.out.at_ hlt
          obtain ⟨a', B2, d2, hA', ⟨f0, f1, f2, f3, f4, _⟩, _, _⟩ := HD.out.at_ hml
          obtain rfl : a = a' := by rw [hA] at hA'; simpa using hA'
          have HVP := Lib.hid (HV.out k hlt)
          have HVQ := Lib.hid (HV.out _ hml)
          have HY := Lib.hid (fun h => rowB_step HR.out h)
          have HX := Lib.hid (fun h => noneB_no (ps := ps) hlt hlm h)
          rw [getP hlt, getP hml] at HY HX
          obtain ⟨p, hp⟩ : ∃ p, Hid (ps[k] = p) := ⟨_, Lib.hid rfl⟩
          obtain ⟨q, hqq⟩ : ∃ q, Hid (ps[m] = q) := ⟨_, Lib.hid rfl⟩
          rw [hqq.out] at f0 f1 f2 f3 f4 HVQ HY HX
          rw [hp.out] at b0 b1 b2 b3 b4 HVP HY HX
          have c1 := (HB.out.cell (World.block_lt_of_cell? _ _ b1)).trans b1
          have c2 := (HB.out.cell (World.block_lt_of_cell? _ _ b2)).trans b2
          have c3 := (HB.out.cell (World.block_lt_of_cell? _ _ b3)).trans b3
          have c4 := (HB.out.cell (World.block_lt_of_cell? _ _ b4)).trans b4
          have e1 := (HB.out.cell (World.block_lt_of_cell? _ _ f1)).trans f1
          have e2 := (HB.out.cell (World.block_lt_of_cell? _ _ f2)).trans f2
          have e3 := (HB.out.cell (World.block_lt_of_cell? _ _ f3)).trans f3
          have e4 := (HB.out.cell (World.block_lt_of_cell? _ _ f4)).trans f4
          subst hA
          clear b0 b1 b2 b3 b4 f0 f1 f2 f3 f4 hA'
          go_wp2
          go_region_held3 (fun w' => Below w2.heap.size w2 w' ∧ w'.cell? ⟨(a.add (k * 6)).block, (a.add (k * 6)).off + 1, none⟩ = some (.int .i64 p.a.k) ∧ w'.cell? ⟨(a.add (k * 6)).block, (a.add (k * 6)).off + 2, none⟩ = some (.int .i64 p.a.p) ∧ w'.cell? ⟨(a.add (k * 6)).block, (a.add (k * 6)).off + 3, none⟩ = some (.int .i64 p.a.n) ∧ w'.cell? ⟨(a.add (k * 6)).block, (a.add (k * 6)).off + 4, none⟩ = some (.slice B p.a.ws.length d) ∧ w'.cell? ⟨(a.add (m * 6)).block, (a.add (m * 6)).off + 1, none⟩ = some (.int .i64 q.a.k) ∧ w'.cell? ⟨(a.add (m * 6)).block, (a.add (m * 6)).off + 2, none⟩ = some (.int .i64 q.a.p) ∧ w'.cell? ⟨(a.add (m * 6)).block, (a.add (m * 6)).off + 3, none⟩ = some (.int .i64 q.a.n) ∧ w'.cell? ⟨(a.add (m * 6)).block, (a.add (m * 6)).off + 4, none⟩ = some (.slice B2 q.a.ws.length d2))
            ((first | exact ⟨(Below.refl _ _).drew, c1, c2, c3, c4, e1, e2, e3, e4⟩ | (refine ⟨hb, (hb.cell (World.block_lt_of_cell? _ _ c1)).trans c1, (hb.cell (World.block_lt_of_cell? _ _ c2)).trans c2, (hb.cell (World.block_lt_of_cell? _ _ c3)).trans c3, (hb.cell (World.block_lt_of_cell? _ _ c4)).trans c4, (hb.cell (World.block_lt_of_cell? _ _ e1)).trans e1, (hb.cell (World.block_lt_of_cell? _ _ e2)).trans e2, (hb.cell (World.block_lt_of_cell? _ _ e3)).trans e3, (hb.cell (World.block_lt_of_cell? _ _ e4)).trans e4⟩)))
            (first
              | (go_at_call 91; refine (l10Conflict_any B B2 d d2 p.a q.a _ HVP.out.1 HVQ.out.1 HVP.out.2 HVQ.out.2).mono ?_; rintro e w3 ⟨rfl, hb0⟩; have hb := (below_drewN (Below.refl w2.heap.size w2) 1).trans hb0; clear hb0))
          have HB3 := Lib.hid (HB.out.trans (hb.mono HB.out.size))
          clear hb c1 c2 c3 c4 e1 e2 e3 e4
          rcases Bool.eq_false_or_eq_true (conB p.a q.a) with hc | hc
          · rw [hc]
            have HXX := Lib.hid (HX.out hc)
            go_wp2
            go_ret
            exact ⟨ret_bool HXX.out.symm, HB3.out⟩
          · rw [hc]
            have HYY := Lib.hid (HY.out hc)
            go_wp2
            go_roundw
            case rel => exact ⟨m + 1, hlm, by go_num, HYY, HB3.out⟩
            case measure => simp [intOf]; omega
        · obtain rfl : m = k := by omega
          have HN2 := Lib.hid (noneB_step HN.out HR.out)
          go_wp2
          go_roundw
          case rel => exact ⟨m + 1, hlt, by go_num, HN2, HB.out⟩
          case measure => simp [intOf]; omega
    · obtain rfl : k = ps.length := by omega
      go_wp2
      go_ret
      exact ⟨ret_bool HN.out.symm, HB.out⟩
end Go.Proofs.Ytgchbimjgdoifaa
