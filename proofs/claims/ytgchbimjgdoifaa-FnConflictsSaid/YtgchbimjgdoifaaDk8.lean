/- ConflictPairs, in the program and in the reference. Conditions: the ranges named. -/
import Derived.Test.YtgchbimjgdoifaaDk7
import Derived.Deep.DrawnRows
namespace Go.Proofs.Ytgchbimjgdoifaa
open Go.RowKit
set_option linter.unusedVariables false
set_option linter.unusedSimpArgs false
attribute [local go_sem ↓] Go.wp_at_zero Go.wp_at_succ
def pairL (ss : List ByteArray) (ps : List Prp) : List (Int × Int) := if propB ss ps then prs ps ps.length else []
theorem ow_nil {α : Type} {K : Kd α} {e : TypeId} {lo hi : Nat} {w : World} : Ow K e lo hi w none 0 [] := ⟨⟨by simp [Kd.row], .inl ⟨rfl, rfl⟩⟩, (fun a h => (by cases h)), by simp, (fun x h => (by simp at h))⟩
theorem ToLB.none_ {α : Type} {K : Kd α} {e : TypeId} {w w' : World} {xs : List α} {ok : Bool} (hx : xs = []) (ho : ok = false) (hb : Below w.heap.size w w') : ToLB K e w xs ok (.returned (.tuple #[.slice none 0 0, .bool false])) w' := by
  subst hx ho
  exact ⟨none, 0, rfl, ow_nil, hb⟩
theorem ToLB.own_ {α : Type} {K : Kd α} {e : TypeId} {w w' : World} {xs ys : List α} {ok ok' : Bool} {O : Option Addr} {n oc : Nat} (h : w'.ownsRow w.heap.size e K.sz (.slice O n oc) n (K.row ys)) (hx : xs = ys) (hn : n = ys.length) (hm : ys.length ≤ 1048576) (hf : ∀ x ∈ ys, K.fit x) (ho : ok = ok') (hb : Below w.heap.size w w') : ToLB K e w xs ok (.returned (.tuple #[.slice O n oc, .bool ok'])) w' := by
  subst hx ho hn
  exact ⟨O, oc, rfl, Ow.mk h hm hf, hb⟩
set_option maxHeartbeats 1000000 in
theorem ConflictPairs_any (T A : Option Addr) (t c : Nat) (ss : List ByteArray) (ps : List Prp) (w : World) (hT : Cells w T (strs ss)) (htc : ss.length ≤ t) (hfs : Fit ss) (hd : DL w A c ps) (hf : FitP ps) :
    Calls Try.prog 51 #[.slice T ss.length t, .slice A ps.length c] w (ToLB PairK 77 w (pairL ss ps) (propB ss ps)) := by
  have HV := Lib.hid (AreProposals_any T A t c ss ps w hT htc hfs hd hf)
  have HC := Lib.hid (fun W hW hg => conflictPairs_any A c ps W (hd.below hW) hf hg)
  clear hT hd
  go_enter Try.func51, Try.ntmps51
  go_wp2_with fail
  refine HV.out.mono ?_
  rintro e w1 ⟨rfl, hb⟩
  have HB := Lib.hid hb
  rcases Bool.eq_false_or_eq_true (propB ss ps) with hr | hr
  · rw [hr]
    have HP := Lib.hid (show pairL ss ps = prs ps ps.length by unfold pairL; rw [hr]; rfl)
    go_wp2_with fail
    refine (HC.out w1 hb (Good8.of hr)).mono ?_
    rintro e w2 ⟨O, oc, rfl, own, hb2⟩
    have HO := Lib.hid own
    have HB2 := Lib.hid hb2
    clear own hb2
    go_wp2
    go_ret2
    exact ⟨O, oc, by rw [HP.out, hr]; rfl, by rw [HP.out]; exact HO.out.low HB.out.size, HB.out.trans (HB2.out.mono HB.out.size)⟩
  · rw [hr]
    go_wp2
    go_ret2
    exact ToLB.none_ (by unfold pairL; rw [hr]; rfl) hr HB.out
set_option maxHeartbeats 4000000 in
set_option maxRecDepth 100000 in
theorem sConflictPairs_any (T A : Option Addr) (t c : Nat) (ss : List ByteArray) (ps : List Prp) (w : World) (hT : Cells w T (strs ss)) (htc : ss.length ≤ t) (hfs : Fit ss) (hd : DL w A c ps) (hf : FitP ps) :
    Calls Try.prog 52 #[.slice T ss.length t, .slice A ps.length c] w (ToLB PairK 77 w (pairL ss ps) (propB ss ps)) := by
  have HV := Lib.hid (fun W (hW : Below w.heap.size w W) => l10Good_any T A t c ss ps W (hT.below hW) htc hfs (hd.below hW) hf)
  have HD := Lib.hid hd
  have HF := Lib.hid hf
  clear hT hd hf
  go_enter Try.func52, Try.ntmps52
  have HZ := Lib.hid (own_nil_lit w w.heap.size w.heap.size 77 2 rfl (Nat.le_refl _))
  have HZB := Lib.hid (below1 w (.cells #[] 77))
  go_wp2_with fail
  refine (HV.out _ HZB.out).mono ?_
  rintro e w1 ⟨rfl, hb⟩
  have HO0 := Lib.hid (own_keep HZ.out hb)
  have HB0 := Lib.hid (HZB.out.trans (hb.mono HZB.out.size))
  clear hb HZ HZB HV
  rcases Bool.eq_false_or_eq_true (propB ss ps) with hr | hr
  · have HPY := Lib.hid (show pairL ss ps = prs ps ps.length by unfold pairL; rw [hr]; rfl)
    rw [hr]
    go_wp2_with fail
    have HG := Lib.hid (Good8.of hr)
    have h8 := HG.out.few
    have HV := Lib.hid (fun (k : Nat) (hk : k < ps.length) => (show Small ps[k].a ∧ ps[k].a.ws.length ≤ 1048576 from ⟨Small.of (HG.out.vld _ (List.getElem_mem hk)), (HF.out.2.1 _ (List.getElem_mem hk)).1⟩))
    go_loopw [6, 7] (fun u i wr => ∃ k : Nat, k ≤ ps.length ∧ i = .int .i64 k ∧ ∃ (xs : List (Int × Int)) (O : Option Addr) (oc : Nat), Hid (xs = prs ps k) ∧ u = .slice O xs.length oc ∧ Hid (wr.ownsRow w.heap.size 77 2 (.slice O xs.length oc) xs.length (PairK.row xs)) ∧ Below w.heap.size w wr) (fun _ i _ => ps.length - (intOf i).toNat)
    case atStart => exact ⟨0, Nat.zero_le _, rfl, [], _, _, Lib.hid rfl, rfl, HO0, HB0.out⟩
    case round =>
      clear HO0 HB0
      obtain ⟨w1, hw1⟩ : ∃ x : World, x = wr := ⟨_, rfl⟩
      subst hw1
      obtain ⟨k, hk, rfl, xs, O, oc, HXS, rfl, HO, hB⟩ := hrel
      have HB := Lib.hid hB
      clear hB
      by_cases hlt : k < ps.length
      · have i1 : (k : Int) < (ps.length : Int) := by omega
        have HVP := Lib.hid (HV.out k hlt)
        go_wp2_with fail
        go_loopw [6, 8] (fun u i wr => ∃ m : Nat, k + 1 + m ≤ ps.length ∧ i = .int .i64 ((k + 1 + m : Nat) : Int) ∧ ∃ (xs : List (Int × Int)) (O : Option Addr) (oc : Nat), Hid (xs = prs ps k ++ inn ps k m) ∧ u = .slice O xs.length oc ∧ Hid (wr.ownsRow w.heap.size 77 2 (.slice O xs.length oc) xs.length (PairK.row xs)) ∧ Below w.heap.size w wr) (fun _ i _ => ps.length - (intOf i).toNat)
        case atStart => exact ⟨0, hlt, by go_num, xs, O, oc, Lib.hid (by rw [HXS.out]; simp [inn]), rfl, HO, HB.out⟩
        case round =>
          clear HO HB HXS
          obtain ⟨m, hm, rfl, xs, O, oc, HXS, rfl, HO, hB⟩ := hrel
          have HB := Lib.hid hB
          clear hB
          by_cases hlm : k + 1 + m < ps.length
          · have i2 : ((k + 1 + m : Nat) : Int) < (ps.length : Int) := by omega
            have HVQ := Lib.hid (HV.out _ hlm)
            have HIY := Lib.hid (fun h => inn_yes (ps := ps) hlm h)
            have HIN := Lib.hid (fun h => inn_no (ps := ps) hlm h)
            obtain ⟨a, B, d, hA, ⟨b0, b1, b2, b3, b4, _⟩, _, _⟩ := HD.out.at_ hlt
            obtain ⟨a', B2, d2, hA', ⟨f0, f1, f2, f3, f4, _⟩, _, _⟩ := HD.out.at_ hlm
            obtain rfl : a = a' := by rw [hA] at hA'; simpa using hA'
            have HAA := Lib.hid hA
            obtain ⟨p, hp⟩ : ∃ p, Hid (ps[k] = p) := ⟨_, Lib.hid rfl⟩
            obtain ⟨q, hqq⟩ : ∃ q, Hid (ps[k + 1 + m] = q) := ⟨_, Lib.hid rfl⟩
            rw [hqq.out] at f0 f1 f2 f3 f4 HVQ HIY HIN
            rw [hp.out] at b0 b1 b2 b3 b4 HIY HIN
            have HVP2 := Lib.hid (show Small p.a ∧ p.a.ws.length ≤ 1048576 by rw [← hp.out]; exact HVP.out)
            have HKP := Lib.hid (fun (W : World) (hW : Below w.heap.size w W) => (show Below w.heap.size w W ∧ W.cell? (a.add (k * 6)) = some (.int .i64 p.i) ∧ W.cell? (a.add ((k + 1 + m) * 6)) = some (.int .i64 q.i) from ⟨hW, (hW.cell (World.block_lt_of_cell? _ _ b0)).trans b0, (hW.cell (World.block_lt_of_cell? _ _ f0)).trans f0⟩))
            have c1 := (HB.out.cell (World.block_lt_of_cell? _ _ b1)).trans b1
            have c2 := (HB.out.cell (World.block_lt_of_cell? _ _ b2)).trans b2
            have c3 := (HB.out.cell (World.block_lt_of_cell? _ _ b3)).trans b3
            have c4 := (HB.out.cell (World.block_lt_of_cell? _ _ b4)).trans b4
            have e1 := (HB.out.cell (World.block_lt_of_cell? _ _ f1)).trans f1
            have e2 := (HB.out.cell (World.block_lt_of_cell? _ _ f2)).trans f2
            have e3 := (HB.out.cell (World.block_lt_of_cell? _ _ f3)).trans f3
            have e4 := (HB.out.cell (World.block_lt_of_cell? _ _ f4)).trans f4
            subst hA
            clear HVP b0 b1 b2 b3 b4 f0 f1 f2 f3 f4 hA'
            have HVP := HVP2
            clear HVP2
            obtain ⟨J, hJ⟩ : ∃ J, Hid (k + 1 + m = J) := ⟨_, Lib.hid rfl⟩
            have j1 : J < ps.length := by rw [← hJ.out]; exact hlm
            rw [hJ.out] at i2 e1 e2 e3 e4 HKP ⊢
            go_wp2
            go_region_held3 (fun w' => Below wr.heap.size wr w' ∧ w'.cell? ⟨(a.add (k * 6)).block, (a.add (k * 6)).off + 1, none⟩ = some (.int .i64 p.a.k) ∧ w'.cell? ⟨(a.add (k * 6)).block, (a.add (k * 6)).off + 2, none⟩ = some (.int .i64 p.a.p) ∧ w'.cell? ⟨(a.add (k * 6)).block, (a.add (k * 6)).off + 3, none⟩ = some (.int .i64 p.a.n) ∧ w'.cell? ⟨(a.add (k * 6)).block, (a.add (k * 6)).off + 4, none⟩ = some (.slice B p.a.ws.length d) ∧ w'.cell? ⟨(a.add (J * 6)).block, (a.add (J * 6)).off + 1, none⟩ = some (.int .i64 q.a.k) ∧ w'.cell? ⟨(a.add (J * 6)).block, (a.add (J * 6)).off + 2, none⟩ = some (.int .i64 q.a.p) ∧ w'.cell? ⟨(a.add (J * 6)).block, (a.add (J * 6)).off + 3, none⟩ = some (.int .i64 q.a.n) ∧ w'.cell? ⟨(a.add (J * 6)).block, (a.add (J * 6)).off + 4, none⟩ = some (.slice B2 q.a.ws.length d2))
              ((first | exact ⟨(Below.refl _ _).drew, c1, c2, c3, c4, e1, e2, e3, e4⟩ | (refine ⟨hb, (hb.cell (World.block_lt_of_cell? _ _ c1)).trans c1, (hb.cell (World.block_lt_of_cell? _ _ c2)).trans c2, (hb.cell (World.block_lt_of_cell? _ _ c3)).trans c3, (hb.cell (World.block_lt_of_cell? _ _ c4)).trans c4, (hb.cell (World.block_lt_of_cell? _ _ e1)).trans e1, (hb.cell (World.block_lt_of_cell? _ _ e2)).trans e2, (hb.cell (World.block_lt_of_cell? _ _ e3)).trans e3, (hb.cell (World.block_lt_of_cell? _ _ e4)).trans e4⟩)))
              (first
                | (go_at_call 91; refine (l10Conflict_any B B2 d d2 p.a q.a _ HVP.out.1 HVQ.out.1 HVP.out.2 HVQ.out.2).mono ?_; rintro e w3 ⟨rfl, hb0⟩; have hb := (below_drewN (Below.refl wr.heap.size wr) 1).trans hb0; clear hb0))
            have HO3 := Lib.hid (own_keep HO.out hb)
            have HB3 := Lib.hid (HB.out.trans (hb.mono HB.out.size))
            clear hb c1 c2 c3 c4 e1 e2 e3 e4
            rcases Bool.eq_false_or_eq_true (conB p.a q.a) with hc | hc
            · rw [hc]
              have HE := Lib.hid (HIY.out hc)
              have hlen := inn_len ps k m
              have hlen2 := prs_len ps k
              have hk8 : k * ps.length ≤ 8 * 8 := Nat.mul_le_mul (by omega) h8
              have hL : xs.length ≤ 100 := by rw [HXS.out, List.length_append]; have := hJ.out; omega
              clear hlen hlen2 hk8
              go_wp2
              refine wp_region_noPanic ?_
              refine wp_region_held_drew (S := (fun w' => Below w.heap.size w w' ∧ w'.cell? (a.add (k * 6)) = some (.int .i64 p.i) ∧ w'.cell? (a.add (J * 6)) = some (.int .i64 q.i))) (by kernel_rfl) ?_ (fun hHeld => ?_)
              · ((try dsimp only); (refine HKP.out _ ?_; first | exact HB3.out.drew | exact HB3.out | exact HB4.out | (have hb9 := HB3.out; have hs9 := HB3.out.size; go_grown; done) | (have hb9 := HB4.out; have hs9 := HB4.out.size; go_grown; done)))
              refine take_yes (i := 0) (d := 40) (v := ?_) rfl rfl (by kernel_rfl) (by kernel_rfl) (by kernel_rfl) (fun _ _ _ h => h) (by kernel_rfl) ?_ hHeld ?_
              rotate_left
              · (intro w hSw; (try dsimp only at hSw); go_simp; try (with_reducible rfl))
              try simp only [Act.put, List.setIfInBounds_toArray, List.set_cons_zero, List.set_cons_succ]
              refine take_yes (i := 1) (d := 41) (v := ?_) rfl rfl (by kernel_rfl) (by kernel_rfl) (by kernel_rfl) (fun _ _ _ h => h) (by kernel_rfl) ?_ hHeld ?_
              rotate_left
              · (intro w hSw; (try dsimp only at hSw); go_simp; try (with_reducible rfl))
              try simp only [Act.put, List.setIfInBounds_toArray, List.set_cons_zero, List.set_cons_succ]
              refine take_yes (i := 2) (d := 42) (v := ?_) rfl rfl (by kernel_rfl) (by kernel_rfl) (by kernel_rfl) (fun _ _ _ h => h) (by kernel_rfl) ?_ hHeld ?_
              rotate_left
              · (intro w hSw; (try dsimp only at hSw); go_simp; try (with_reducible rfl))
              try simp only [Act.put, List.setIfInBounds_toArray, List.set_cons_zero, List.set_cons_succ]
              refine take_yes (i := 3) (d := 43) (v := ?_) rfl rfl (by kernel_rfl) (by kernel_rfl) (by kernel_rfl) (fun _ _ _ h => h) (by kernel_rfl) ?_ hHeld ?_
              rotate_left
              · (intro w hSw; (try dsimp only at hSw); go_simp; try (with_reducible rfl))
              try simp only [Act.put, List.setIfInBounds_toArray, List.set_cons_zero, List.set_cons_succ]
              refine take_yes (i := 4) (d := 44) (v := ?_) rfl rfl (by kernel_rfl) (by kernel_rfl) (by kernel_rfl) (fun _ _ _ h => h) (by kernel_rfl) ?_ hHeld ?_
              rotate_left
              · (intro w hSw; (try dsimp only at hSw); go_simp; try (with_reducible rfl))
              try simp only [Act.put, List.setIfInBounds_toArray, List.set_cons_zero, List.set_cons_succ]
              refine take_yes (i := 5) (d := 45) (v := ?_) rfl rfl (by kernel_rfl) (by kernel_rfl) (by kernel_rfl) (fun _ _ _ h => h) (by kernel_rfl) ?_ hHeld ?_
              rotate_left
              · (intro w hSw; (try dsimp only at hSw); go_simp; try (with_reducible rfl))
              try simp only [Act.put, List.setIfInBounds_toArray, List.set_cons_zero, List.set_cons_succ]
              refine take_yes (i := 6) (d := 46) (v := ?_) rfl rfl (by kernel_rfl) (by kernel_rfl) (by kernel_rfl) (fun _ _ _ h => h) (by kernel_rfl) ?_ hHeld ?_
              rotate_left
              · (intro w hSw; (try dsimp only at hSw); go_simp; try (with_reducible rfl))
              try simp only [Act.put, List.setIfInBounds_toArray, List.set_cons_zero, List.set_cons_succ]
              refine take_yes (i := 7) (d := 47) (v := ?_) rfl rfl (by kernel_rfl) (by kernel_rfl) (by kernel_rfl) (fun _ _ _ h => h) (by kernel_rfl) ?_ hHeld ?_
              rotate_left
              · (intro w hSw; (try dsimp only at hSw); go_simp; try (with_reducible rfl))
              try simp only [Act.put, List.setIfInBounds_toArray, List.set_cons_zero, List.set_cons_succ]
              refine take_yes (i := 8) (d := 48) (v := ?_) rfl rfl (by kernel_rfl) (by kernel_rfl) (by kernel_rfl) (fun _ _ _ h => h) (by kernel_rfl) ?_ hHeld ?_
              rotate_left
              · (intro w hSw; (try dsimp only at hSw); go_simp; try (with_reducible rfl))
              try simp only [Act.put, List.setIfInBounds_toArray, List.set_cons_zero, List.set_cons_succ]
              refine take_yes (i := 9) (d := 49) (v := ?_) rfl rfl (by kernel_rfl) (by kernel_rfl) (by kernel_rfl) (fun _ _ _ h => h) (by kernel_rfl) ?_ hHeld ?_
              rotate_left
              · (intro w hSw; (try dsimp only at hSw); go_simp; try (with_reducible rfl))
              try simp only [Act.put, List.setIfInBounds_toArray, List.set_cons_zero, List.set_cons_succ]
              refine take_yes (i := 10) (d := 50) (v := ?_) rfl rfl (by kernel_rfl) (by kernel_rfl) (by kernel_rfl) (fun _ _ _ h => h) (by kernel_rfl) ?_ hHeld ?_
              rotate_left
              · (intro w hSw; (try dsimp only at hSw); go_simp; try (with_reducible rfl))
              try simp only [Act.put, List.setIfInBounds_toArray, List.set_cons_zero, List.set_cons_succ]
              refine take_yes (i := 11) (d := 51) (v := ?_) rfl rfl (by kernel_rfl) (by kernel_rfl) (by kernel_rfl) (fun _ _ _ h => h) (by kernel_rfl) ?_ hHeld ?_
              rotate_left
              · (intro w hSw; (try dsimp only at hSw); go_simp; try (with_reducible rfl))
              try simp only [Act.put, List.setIfInBounds_toArray, List.set_cons_zero, List.set_cons_succ]
              refine wpAnyH_ready (rs := [12]) (by kernel_rfl) (by simp) ?_
              refine AllReadyH.cons rfl (fun K hK => ?_) AllReadyH.nil
              go_simp
              (first | refine hK.out _ _ ?_ (fun hHeld1 => ?_) | (go_wp2_with fail; refine hK.out _ _ ?_ (fun hHeld1 => ?_)))
              · ((try dsimp only); (refine HKP.out _ ?_; first | exact HB3.out.drew | exact HB3.out | exact HB4.out | (have hb9 := HB3.out; have hs9 := HB3.out.size; go_grown; done) | (have hb9 := HB4.out; have hs9 := HB4.out.size; go_grown; done)))
              clear hK K hHeld
              have hHeld := hHeld1
              clear hHeld1
              try simp only [Act.put, List.setIfInBounds_toArray, List.set_cons_zero, List.set_cons_succ]
              refine wpAnyH_ready (rs := [13]) (by kernel_rfl) (by simp) ?_
              refine AllReadyH.cons rfl (fun K hK => ?_) AllReadyH.nil
              refine step_append elPair _ (by rfl) _ _ (by rfl) w.heap.size O _ oc xs.length 1 1 (PairK.row xs) (PairK.row [(p.i, q.i)]) (by rfl) (by rfl) rfl ?_ ?_ pair_one ?_ (by omega) ?_
              · first | exact own_keep HO3.out (((Below.refl _ _).alloc (Nat.le_refl _) _)) | exact own_keep HO3.out (((Below.refl _ _).drew).alloc (Nat.le_refl _) _)
              · exact cells_two _ _ _ _ _ rfl
              · have := HB3.out.size; simp; omega
              intro O2 oc2 w4 own hb
              have HO4 := Lib.hid own
              have HB4 := Lib.hid (show Below w.heap.size w w4 from (show Below w.heap.size w _ by (have hb9 := HB3.out; have hs9 := HB3.out.size; go_grown)).trans hb)
              clear own hb
              (first | refine hK.out _ _ ?_ (fun hHeld1 => ?_) | (go_wp2_with fail; refine hK.out _ _ ?_ (fun hHeld1 => ?_)))
              · ((try dsimp only); (refine HKP.out _ ?_; first | exact HB3.out.drew | exact HB3.out | exact HB4.out | (have hb9 := HB3.out; have hs9 := HB3.out.size; go_grown; done) | (have hb9 := HB4.out; have hs9 := HB4.out.size; go_grown; done)))
              clear hK K hHeld
              have hHeld := hHeld1
              clear hHeld1
              try simp only [Act.put, List.setIfInBounds_toArray, List.set_cons_zero, List.set_cons_succ]
              refine take_yes (i := 14) (d := 6) (v := ?_) rfl rfl (by kernel_rfl) (by kernel_rfl) (by kernel_rfl) (fun _ _ _ h => h) (by kernel_rfl) ?_ hHeld ?_
              rotate_left
              · (intro w hSw; (try dsimp only at hSw); go_simp; try (with_reducible rfl))
              try simp only [Act.put, List.setIfInBounds_toArray, List.set_cons_zero, List.set_cons_succ]
              refine wpAnyH_done (by kernel_rfl) ?_ _
              refine NoPanic.normal ?_
              have HE2 := Lib.hid (show xs ++ [(p.i, q.i)] = prs ps k ++ inn ps k (m + 1) by rw [HE.out, HXS.out, List.append_assoc])
              go_wp2
              go_roundw
              case rel =>
                refine ⟨m + 1, by have := hJ.out; omega, by have := hJ.out; go_num, xs ++ [(p.i, q.i)], O2, oc2, HE2, by rw [List.length_append]; rfl, ?_, HB4.out⟩
                have := HO4.out
                rw [← PairK.row_append] at this
                rw [List.length_append]
                exact Lib.hid this
              case measure => simp [intOf]; omega
            · rw [hc]
              have HE := Lib.hid (HIN.out hc)
              go_wp2
              go_roundw
              case rel => exact ⟨m + 1, by have := hJ.out; omega, by have := hJ.out; go_num, xs, O, oc, by rw [HE.out]; exact HXS, rfl, HO3, HB3.out⟩
              case measure => simp [intOf]; omega
          · have hme : m = ps.length - (k + 1) := by omega
            have HP := Lib.hid (show xs = prs ps (k + 1) by rw [HXS.out, hme]; rfl)
            have i3 : ¬ ((k + 1 + m : Nat) : Int) < (ps.length : Int) := by omega
            obtain ⟨J, hJ⟩ : ∃ J, Hid (k + 1 + m = J) := ⟨_, Lib.hid rfl⟩
            rw [hJ.out] at i3 hlm ⊢
            go_wp2
            go_roundw
            case rel => exact ⟨k + 1, hlt, by go_num, xs, O, oc, HP, rfl, HO, HB.out⟩
            case measure => simp [intOf]; omega
      · obtain rfl : k = ps.length := by omega
        have hl := prs_len ps ps.length
        have hk8 : ps.length * ps.length ≤ 8 * 8 := Nat.mul_le_mul h8 h8
        go_wp2
        go_ret2
        exact ToLB.own_ HO.out (by rw [HPY.out, HXS.out]) rfl (by rw [HXS.out]; omega) (fun _ _ => trivial) hr HB.out
  · rw [hr]
    go_wp2
    go_ret2
    exact ToLB.own_ (ys := []) HO0.out (by unfold pairL; rw [hr]; rfl) rfl (by simp) (fun _ _ => trivial) hr HB0.out
end Go.Proofs.Ytgchbimjgdoifaa
