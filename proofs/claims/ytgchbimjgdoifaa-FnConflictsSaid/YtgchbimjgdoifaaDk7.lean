/- The pairs of proposals that conflict, in the program. Conditions: the ranges named. -/
import Derived.Test.YtgchbimjgdoifaaDk4
import Derived.Test.YtgchbimjgdoifaaDo
import Derived.Test.YtgchbimjgdoifaaApn
namespace Go.Proofs.Ytgchbimjgdoifaa
open Go.RowKit
set_option linter.unusedVariables false
set_option linter.unusedSimpArgs false
def noP : Prp := ⟨0, ⟨0, 0, 0, []⟩, 0⟩
theorem getP {ps : List Prp} {k : Nat} (h : k < ps.length) : ps.getD k noP = ps[k] := by rw [List.getD_eq_getElem?_getD, List.getElem?_eq_getElem h]; rfl
/-- Element i with the first m behind it. -/
def inn (ps : List Prp) (i : Nat) : Nat → List (Int × Int)
  | 0 => []
  | m + 1 => inn ps i m ++ (if conB (ps.getD i noP).a (ps.getD (i + 1 + m) noP).a then [((ps.getD i noP).i, (ps.getD (i + 1 + m) noP).i)] else [])
def prs (ps : List Prp) : Nat → List (Int × Int)
  | 0 => []
  | i + 1 => prs ps i ++ inn ps i (ps.length - (i + 1))
theorem inn_yes {ps : List Prp} {i m : Nat} (h : i + 1 + m < ps.length) (hc : conB (ps[i]'(by omega)).a ps[i + 1 + m].a = true) : inn ps i (m + 1) = inn ps i m ++ [((ps[i]'(by omega)).i, ps[i + 1 + m].i)] := by
  rw [inn, getP (show i < ps.length by omega), getP h, if_pos hc]
theorem inn_no {ps : List Prp} {i m : Nat} (h : i + 1 + m < ps.length) (hc : conB (ps[i]'(by omega)).a ps[i + 1 + m].a = false) : inn ps i (m + 1) = inn ps i m := by
  rw [inn, getP (show i < ps.length by omega), getP h, hc]; simp
theorem inn_len (ps : List Prp) (i : Nat) : ∀ m, (inn ps i m).length ≤ m
  | 0 => by simp [inn]
  | m + 1 => by
    have := inn_len ps i m
    rw [inn, List.length_append]
    split <;> simp <;> omega
theorem prs_len (ps : List Prp) : ∀ k, (prs ps k).length ≤ k * ps.length
  | 0 => by simp [prs]
  | k + 1 => by
    have h1 := prs_len ps k
    have h2 := inn_len ps k (ps.length - (k + 1))
    rw [prs, List.length_append, Nat.succ_mul]
    omega
def PairK : Kd (Int × Int) := ⟨2, fun x => [.int .i64 x.1, .int .i64 x.2], fun _ => rfl, fun _ => True⟩
theorem infoPair : (Try.prog.info? 77).map (fun i => (i.zero, i.size, i.bytes)) = some (some (.agg #[.int .i64 0, .int .i64 0]), 2, 16) := by kernel_rfl
theorem elPair : ElT Try.prog 66 77 2 16 := ElT.mk' Try.underlying66 infoPair rfl (by omega) (by omega)
theorem pair_one {xs : List (Int × Int)} : ∀ u ∈ PairK.row xs, u.oneCell' = true := fun u hu => by
  obtain ⟨x, _, hx⟩ := List.mem_flatMap.1 hu
  have hx' : u ∈ [Value.int .i64 x.1, Value.int .i64 x.2] := hx
  simp at hx'
  rcases hx' with rfl | rfl <;> rfl
theorem cells_two (w : World) (v v' : Value) (t : TypeId) (g : Nat) (hg : g = w.heap.size) : Cells (w.alloc (.cells #[v, v'] t)) (some ⟨g, 0, none⟩) [v, v'] := by
  subst hg
  intro i u hi
  refine ⟨_, rfl, ?_⟩
  rw [add_head, cell_of_row _ _ i #[v, v'] t (0, 0) (heap_alloc_new w _)]
  simpa using hi
/-- The proposals are as the exported functions ask: few, and valid each. -/
structure Good8 (ps : List Prp) : Prop where
  few : ps.length ≤ 8
  vld : ∀ p ∈ ps, vldA p.a = true
theorem Good8.of {ss : List ByteArray} {ps : List Prp} (h : propB ss ps = true) : Good8 ps := by
  unfold propB at h
  simp only [Bool.and_eq_true, decide_eq_true_eq] at h
  refine ⟨by omega, fun p hp => ?_⟩
  obtain ⟨k, hk, rfl⟩ := List.getElem_of_mem hp
  have := allN_yes.1 h.2 k hk
  rw [okP_eq hk] at this
  simp only [Bool.and_eq_true] at this
  exact this.1.2.1
set_option maxHeartbeats 4000000 in
theorem conflictPairs_any (A : Option Addr) (c : Nat) (ps : List Prp) (w : World) (h : DL w A c ps) (hf : FitP ps) (hg : Good8 ps) :
    Calls Try.prog 96 #[.slice A ps.length c] w (ToL PairK 77 w (prs ps ps.length)) := by
  have h8 := hg.few
  have hcap := h.1
  have HD := Lib.hid h
  have HV := Lib.hid (fun (k : Nat) (hk : k < ps.length) => (show Small ps[k].a ∧ ps[k].a.ws.length ≤ 1048576 from ⟨Small.of (hg.vld _ (List.getElem_mem hk)), (hf.2.1 _ (List.getElem_mem hk)).1⟩))
  clear h hf hg
  go_enter Try.func96, Try.ntmps96
  go_wp2
  go_loopw [3, 11] (fun u i wr => ∃ k : Nat, k ≤ ps.length ∧ i = .int .i64 k ∧ ∃ (O : Option Addr) (oc : Nat), u = .slice O (prs ps k).length oc ∧ Hid (wr.ownsRow w.heap.size 77 2 (.slice O (prs ps k).length oc) (prs ps k).length (PairK.row (prs ps k))) ∧ Below w.heap.size w wr) (fun _ i _ => ps.length - (intOf i).toNat)
  case atStart => exact ⟨0, Nat.zero_le _, rfl, _, _, rfl, own_nil_lit _ _ _ _ _ (by simp) (Nat.le_refl _), (((Below.refl _ _).alloc (Nat.le_refl _) _))⟩
  case round =>
    obtain ⟨w1, hw1⟩ : ∃ x : World, x = wr := ⟨_, rfl⟩
    subst hw1
    obtain ⟨k, hk, rfl, O, oc, rfl, HO, hB⟩ := hrel
    have HB := Lib.hid hB
    clear hB
    by_cases hlt : k < ps.length
    · obtain ⟨a, B, d, rfl, ⟨hc0, hc1, hc2, hc3, hc4, hc5⟩, hle, hcw⟩ := (HD.out.below HB.out).at_ hlt
      have i1 : (k : Int) < (ps.length : Int) := by omega
      obtain ⟨p, hp⟩ : ∃ p, Hid (ps[k] = p) := ⟨_, Lib.hid rfl⟩
      have HVP := Lib.hid (HV.out k hlt)
      rw [hp.out] at hc0 hc1 hc2 hc3 hc4 hc5 hle hcw HVP
      have t1 : IntKind.i64.wrap ((k : Int) + 1) = (k : Int) + 1 := by rw [IntKind.wrap_i64]; omega
      have HBX := Lib.hid (below1 w1 (.cells #[.int .i64 p.i, .int .i64 p.a.k, .int .i64 p.a.p, .int .i64 p.a.n, .slice B p.a.ws.length d, .int .i64 p.t] 65))
      have HNB := Lib.hid (show BoxF (w1.alloc (.cells #[.int .i64 p.i, .int .i64 p.a.k, .int .i64 p.a.p, .int .i64 p.a.n, .slice B p.a.ws.length d, .int .i64 p.t] 65)) w1.heap.size [.int .i64 p.i, .int .i64 p.a.k, .int .i64 p.a.p, .int .i64 p.a.n, .slice B p.a.ws.length d, .int .i64 p.t] from BoxF.new' w1 _ _ _ rfl)
      have hws : w1.heap.size < (w1.alloc (.cells #[.int .i64 p.i, .int .i64 p.a.k, .int .i64 p.a.p, .int .i64 p.a.n, .slice B p.a.ws.length d, .int .i64 p.t] 65)).heap.size := by simp
      by_cases hcc : c = k + 1
      · have hz : ps.length - (k + 1) = 0 := by omega
        have HP := Lib.hid (show prs ps (k + 1) = prs ps k by rw [prs, hz]; simp [inn])
        subst hcc
        have hz2 : ((ps.length - (k + 1) : Nat) : Int) = 0 := by omega
        go_upto_region 5 with fail
        generalize w1.alloc (.cells #[.int .i64 p.i, .int .i64 p.a.k, .int .i64 p.a.p, .int .i64 p.a.n, .slice B p.a.ws.length d, .int .i64 p.t] 65) = W at *
        go_wp2_with fail
        have HPL := Lib.hid (show (prs ps (k + 1)).length = (prs ps k).length by rw [HP.out])
        go_loopw [3, 21] (fun u i w2 => u = .slice O (prs ps k).length oc ∧ i = .int .i64 0 ∧ w2 = W) (fun _ _ _ => 0)
        case atStart => exact ⟨rfl, rfl, rfl⟩
        case round =>
          obtain ⟨rfl, rfl, rfl⟩ := hrel
          go_wp2
          go_roundw
          case rel => exact ⟨k + 1, hlt, by go_num, O, oc, by rw [HPL.out], by rw [HP.out]; exact Lib.hid (own_keep HO.out HBX.out), HB.out.trans (HBX.out.mono HB.out.size)⟩
          case measure => simp [intOf]; omega
      · obtain ⟨a2, ha2⟩ : ∃ a2, Hid (a.add ((k + 1) * 6) = a2) := ⟨_, Lib.hid rfl⟩
        go_upto_region 5 with fail
        generalize w1.alloc (.cells #[.int .i64 p.i, .int .i64 p.a.k, .int .i64 p.a.p, .int .i64 p.a.n, .slice B p.a.ws.length d, .int .i64 p.t] 65) = W at *
        have hcc2 : ¬ c - (k + 1) = 0 := by omega
        have HO0 := Lib.hid (own_keep HO.out HBX.out)
        have HNI0 := Lib.hid (show NotIn O w1.heap.size from fun b hb e => by subst hb; have := (HO.out.lt b.block rfl).2; omega)
        have HBW := Lib.hid (HB.out.trans (HBX.out.mono HB.out.size))
        clear HBX
        go_wp2_with fail
        rw [ha2.out]
        go_loopw [3, 21] (fun u i w2 => ∃ (m : Nat) (xs : List (Int × Int)), Hid (xs = prs ps k ++ inn ps k m) ∧ m ≤ ps.length - (k + 1) ∧ i = .int .i64 m ∧ ∃ (O : Option Addr) (oc : Nat), u = .slice O xs.length oc ∧ Hid (w2.ownsRow w.heap.size 77 2 (.slice O xs.length oc) xs.length (PairK.row xs)) ∧ Hid (NotIn O w1.heap.size) ∧ Hid (BoxF w2 w1.heap.size [.int .i64 p.i, .int .i64 p.a.k, .int .i64 p.a.p, .int .i64 p.a.n, .slice B p.a.ws.length d, .int .i64 p.t]) ∧ w1.heap.size < w2.heap.size ∧ Below w.heap.size w w2) (fun _ i _ => ps.length - (k + 1) - (intOf i).toNat)
        case atStart => exact ⟨0, prs ps k, Lib.hid (by simp [inn]), Nat.zero_le _, rfl, O, oc, rfl, HO0, HNI0, HNB, hws, HBW.out⟩
        case round =>
          clear HO0 HNI0 HNB hws HBW HO
          obtain ⟨m, xs, HXS, hm, rfl, O, oc, rfl, HO, HNI, HNB, hws, hB2⟩ := hrel
          have HB2 := Lib.hid hB2
          clear hB2
          by_cases hlm : m < ps.length - (k + 1)
          · have hq : k + 1 + m < ps.length := by omega
            obtain ⟨a', B2, d2, ha', ⟨hd0, hd1, hd2, hd3, hd4, hd5⟩, _, _⟩ := (HD.out.below HB2.out).at_ hq
            obtain rfl : a = a' := by simpa using ha'
            have i2 : (m : Int) < ((ps.length - (k + 1) : Nat) : Int) := by omega
            have HVQ := Lib.hid (HV.out _ hq)
            have HIY := Lib.hid (fun h => inn_yes (ps := ps) hq h)
            have HIN := Lib.hid (fun h => inn_no (ps := ps) hq h)
            obtain ⟨q, hqq⟩ : ∃ q, Hid (ps[k + 1 + m] = q) := ⟨_, Lib.hid rfl⟩
            rw [hqq.out] at hd0 hd1 hd2 hd3 hd4 hd5 HVQ HIY HIN
            rw [hp.out] at HIY HIN
            rw [show a.add ((k + 1 + m) * 6) = a2.add (m * 6) by rw [← ha2.out, add_add']; congr 1; omega] at hd0 hd1 hd2 hd3 hd4 hd5
            have b1 := HNB.out.1 1 _ rfl
            have b2 := HNB.out.1 2 _ rfl
            have b3 := HNB.out.1 3 _ rfl
            have b4 := HNB.out.1 4 _ rfl
            have HBY := Lib.hid (below1 wr (.cells #[.int .i64 q.i, .int .i64 q.a.k, .int .i64 q.a.p, .int .i64 q.a.n, .slice B2 q.a.ws.length d2, .int .i64 q.t] 65))
            have HNQ := Lib.hid (show BoxF (wr.alloc (.cells #[.int .i64 q.i, .int .i64 q.a.k, .int .i64 q.a.p, .int .i64 q.a.n, .slice B2 q.a.ws.length d2, .int .i64 q.t] 65)) wr.heap.size [.int .i64 q.i, .int .i64 q.a.k, .int .i64 q.a.p, .int .i64 q.a.n, .slice B2 q.a.ws.length d2, .int .i64 q.t] from BoxF.new' wr _ _ _ rfl)
            have hwq : wr.heap.size < (wr.alloc (.cells #[.int .i64 q.i, .int .i64 q.a.k, .int .i64 q.a.p, .int .i64 q.a.n, .slice B2 q.a.ws.length d2, .int .i64 q.t] 65)).heap.size := by simp
            clear ha'
            go_wp2_with fail
            generalize wr.alloc (.cells #[.int .i64 q.i, .int .i64 q.a.k, .int .i64 q.a.p, .int .i64 q.a.n, .slice B2 q.a.ws.length d2, .int .i64 q.t] 65) = W2 at *
            refine (doConflict_any B B2 d d2 p.a q.a W2 HVP.out.1 HVQ.out.1 HVP.out.2 HVQ.out.2).mono ?_
            rintro e w3 ⟨rfl, hb⟩
            have hb3 := (after HBY.out hb)
            have HO3 := Lib.hid (own_keep HO.out hb3)
            have HNB3 := Lib.hid (HNB.out.below hb3 hws)
            have HNQ3 := Lib.hid (HNQ.out.below hb hwq)
            have hw3 : w1.heap.size < w3.heap.size := Nat.lt_of_lt_of_le hws hb3.size
            have HB3 := Lib.hid (HB2.out.trans (hb3.mono HB2.out.size))
            clear hb hb3 b1 b2 b3 b4 hd0 hd1 hd2 hd3 hd4 hd5
            rcases Bool.eq_false_or_eq_true (conB p.a q.a) with hc | hc
            · rw [hc]
              have HE := Lib.hid (HIY.out hc)
              have p0 := HNB3.out.1 0 _ rfl
              have q0 := HNQ3.out.1 0 _ rfl
              have hlen := inn_len ps k m
              have hlen2 := prs_len ps k
              have hk8 : k * ps.length ≤ 8 * 8 := Nat.mul_le_mul (by omega) h8
              have hL : xs.length ≤ 100 := by rw [HXS.out, List.length_append]; omega
              clear hlen hlen2 hk8
              go_wp2_with (at_builtin; go_must (refine list_append_sep elPair _ rfl _ _ rfl w.heap.size O _ oc xs.length 1 1 (PairK.row xs) (PairK.row [(p.i, q.i)]) rfl rfl rfl (own_keep HO3.out ((Below.refl _ _).alloc (Nat.le_refl _) _)) (cells_two _ _ _ _ _ (by simp)) pair_one (by have := HB3.out.size; simp; omega) (by omega) ?_); intro O2 oc2 w4 o2 b2 s2 k2; have HO4 := Lib.hid o2; have HB4 := Lib.hid (HB3.out.trans (((below1 w3 _).mono HB3.out.size).trans b2)); have HS4 := Lib.hid s2; have HK4 := Lib.hid k2; clear o2 b2 s2 k2 p0 q0)
              have hsA : ∀ o, w3.heap.size < (w3.alloc o).heap.size := fun o => by simp
              have HKK := Lib.hid (HK4.out w1.heap.size (by have := hsA (.cells #[.int .i64 p.i, .int .i64 q.i] 77); omega) HNI.out)
              have HE2 := Lib.hid (show xs ++ [(p.i, q.i)] = prs ps k ++ inn ps k (m + 1) by rw [HE.out, HXS.out, List.append_assoc])
              go_roundw
              case rel =>
                refine ⟨m + 1, xs ++ [(p.i, q.i)], HE2, by omega, by go_num, O2, oc2, ?_, ?_, Lib.hid HKK.out.2, ?_, ?_, HB4.out⟩
                · rw [List.length_append]; rfl
                · have := HO4.out
                  rw [← PairK.row_append] at this
                  rw [List.length_append]
                  exact Lib.hid this
                · exact Lib.hid ((HNB3.out.below (below1 w3 _) hw3).block HKK.out.1)
                · have := HS4.out; have := hsA (.cells #[.int .i64 p.i, .int .i64 q.i] 77); omega
              case measure => simp [intOf]; omega
            · rw [hc]
              have HE := Lib.hid (HIN.out hc)
              go_wp2
              go_roundw
              case rel => exact ⟨m + 1, xs, by rw [HE.out]; exact HXS, by omega, by go_num, O, oc, rfl, HO3, HNI, HNB3, hw3, HB3.out⟩
              case measure => simp [intOf]; omega
          · obtain rfl : m = ps.length - (k + 1) := by omega
            have HP := Lib.hid (show prs ps (k + 1) = xs from HXS.out.symm)
            go_wp2
            go_roundw
            case rel => exact ⟨k + 1, hlt, by go_num, O, oc, by rw [HP.out], by rw [HP.out]; exact HO, HB2.out⟩
            case measure => simp [intOf]; omega
    · obtain rfl : k = ps.length := by omega
      have hl := prs_len ps ps.length
      have hk8 : ps.length * ps.length ≤ 8 * 8 := Nat.mul_le_mul h8 h8
      go_wp2
      go_ret
      exact ⟨O, oc, rfl, Ow.mk HO.out (by omega) (fun _ _ => trivial), HB.out⟩
end Go.Proofs.Ytgchbimjgdoifaa
