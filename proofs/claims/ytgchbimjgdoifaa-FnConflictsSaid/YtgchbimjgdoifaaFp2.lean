/- FreeProposals in the program. Conditions: the ranges named. -/
import Derived.Test.YtgchbimjgdoifaaFp1
import Derived.Test.YtgchbimjgdoifaaPrs
import Derived.Test.YtgchbimjgdoifaaDk8
import Derived.Test.YtgchbimjgdoifaaInts
namespace Go.Proofs.Ytgchbimjgdoifaa
open Go.RowKit
set_option linter.unusedVariables false
set_option linter.unusedSimpArgs false
theorem cell_alloc {w : World} {p : Addr} {v : Value} (h : w.cell? p = some v) (o : Obj) : (w.alloc o).cell? p = some v := (World.cell?_alloc_lt w o p (World.block_lt_of_cell? _ _ h)).trans h
theorem hasIdOf_any (x y : Int) (b : Nat) (id : Int) (w : World) (hp : w.cell? ⟨b, 0, none⟩ = some (.int .i64 id)) : Calls Try.prog 105 #[.agg #[.int .i64 x, .int .i64 y], .pointer (some ⟨b, 0, none⟩)] w fun e w' => e = .returned (.bool (x == id || y == id)) ∧ Below w.heap.size w w' := by
  have hp1 := cell_alloc hp (.cells #[.int .i64 x, .int .i64 y] 77)
  rcases Bool.eq_false_or_eq_true (x == id) with hx | hx
  · rw [hx]
    go_enter Try.func105, Try.ntmps105
    go_wp2
    go_ret
    exact ⟨rfl, by go_grown⟩
  · rw [hx]
    go_enter Try.func105, Try.ntmps105
    go_wp2
    go_ret
    exact ⟨rfl, by go_grown⟩
set_option maxHeartbeats 1000000 in
theorem indexHas_any (A : Option Addr) (n c : Nat) (xs : List (Int × Int)) (b : Nat) (s : Int) (w : World) (hn : n = xs.length) (ha : Cells w A (PairK.row xs)) (hm : xs.length ≤ 1048576) (hp : w.cell? ⟨b, 0, none⟩ = some (.int .i64 s)) :
    Calls Try.prog 124 #[.slice A n c, .func (.func 105) #[] #[.pointer (some ⟨b, 0, none⟩)]] w fun e w' => e = .returned (.int .i64 (findI (fun x => x.1 == s || x.2 == s) 0 xs)) ∧ Below w.heap.size w w' := by
  subst hn
  have hl := World.block_lt_of_cell? _ _ hp
  go_enter Try.func124, Try.ntmps124
  go_wp2
  go_loopw [8] (fun i wr => ∃ k : Nat, k ≤ xs.length ∧ i = .int .i64 k ∧ Hid (findI (fun x => x.1 == s || x.2 == s) 0 xs = findI (fun x => x.1 == s || x.2 == s) k (xs.drop k)) ∧ Below w.heap.size w wr) (fun i _ => xs.length - (intOf i).toNat)
  case atStart => exact ⟨0, Nat.zero_le _, rfl, rfl, Below.refl _ _⟩
  case round =>
    obtain ⟨k, hk, rfl, hq, hB⟩ := hrel
    by_cases hlt : k < xs.length
    · obtain ⟨a, rfl, hc0, hc1⟩ := pair_at (ha.below hB) hlt
      have i1 : (k : Int) < (xs.length : Int) := by omega
      have hp1 := (hB.cell (p := ⟨b, 0, none⟩) hl).trans hp
      have HB := Lib.hid hB
      obtain ⟨x, hx⟩ : ∃ x, Hid (xs[k] = x) := ⟨_, Lib.hid rfl⟩
      have HH := Lib.hid (fun (h : (fun x : Int × Int => x.1 == s || x.2 == s) xs[k] = true) => findI_hit (k := k) (i := k) (p := fun x => x.1 == s || x.2 == s) hlt h)
      have HMi := Lib.hid (fun (h : (fun x : Int × Int => x.1 == s || x.2 == s) xs[k] = false) => findI_miss (k := k) (i := k) (p := fun x => x.1 == s || x.2 == s) hlt h)
      rw [hx.out] at hc0 hc1 HH HMi
      rcases Bool.eq_false_or_eq_true (x.1 == s || x.2 == s) with hm2 | hm2
      · have HA := Lib.hid (hq.out.trans (HH.out hm2))
        have HM2 := Lib.hid hm2
        clear hB hq HH HMi hm2
        go_wp2_with (go_at_call 105; refine (hasIdOf_any x.1 x.2 b s _ hp1).mono ?_; rintro e w1 ⟨rfl, hb⟩; rw [HM2.out]; have HB1 := Lib.hid (after HB.out hb); clear hb)
        go_ret
        exact ⟨ret_int HA.out.symm, HB1.out⟩
      · have HA := Lib.hid (hq.out.trans (HMi.out hm2))
        have HM2 := Lib.hid hm2
        clear hB hq HH HMi hm2
        go_wp2_with (go_at_call 105; refine (hasIdOf_any x.1 x.2 b s _ hp1).mono ?_; rintro e w1 ⟨rfl, hb⟩; rw [HM2.out]; have HB1 := Lib.hid (after HB.out hb); clear hb)
        go_roundw
        case rel => exact ⟨k + 1, hlt, by go_num, HA.out, HB1.out⟩
        case measure => simp [intOf]; omega
    · obtain rfl : k = xs.length := by omega
      have HA := Lib.hid (hq.out.trans findI_end)
      go_wp2
      go_ret
      exact ⟨ret_int HA.out.symm, hB⟩
theorem hasId_any (A : Option Addr) (n c : Nat) (xs : List (Int × Int)) (b : Nat) (s : Int) (w : World) (hn : n = xs.length) (ha : Cells w A (PairK.row xs)) (hm : xs.length ≤ 1048576) (hp : w.cell? ⟨b, 0, none⟩ = some (.int .i64 s)) :
    Calls Try.prog 104 #[.slice A n c, .func (.func 105) #[] #[.pointer (some ⟨b, 0, none⟩)]] w fun e w' => e = .returned (.bool (hasId s xs)) ∧ Below w.heap.size w w' := by
  have hR := Lib.hid (show decide (0 ≤ findI (fun x : Int × Int => x.1 == s || x.2 == s) 0 xs) = hasId s xs by rw [findI_any]; rfl)
  have HN := Lib.hid hn
  clear hn
  go_enter Try.func104, Try.ntmps104
  go_wp2_with (go_at_call 124; refine (indexHas_any _ _ _ xs _ _ _ HN.out ha hm hp).mono ?_; rintro e w1 ⟨rfl, hb⟩; have HB := Lib.hid hb; clear hb)
  go_ret
  exact ⟨ret_bool hR.out, HB.out⟩
theorem elInt : ElT Try.prog 70 3 1 8 := ElT.mk' Try.underlying70 infoInt rfl (by omega) (by omega)
theorem int_one {xs : List Int} : ∀ u ∈ IntK.row xs, u.oneCell' = true := fun u hu => by
  obtain ⟨x, _, hx⟩ := List.mem_flatMap.1 hu
  obtain rfl : u = .int .i64 x := by simpa using (show u ∈ [Value.int .i64 x] from hx)
  rfl
theorem cells_one (w : World) (v : Value) (t : TypeId) (g : Nat) (hg : g = w.heap.size) : Cells (w.alloc (.cells #[v] t)) (some ⟨g, 0, none⟩) [v] := by
  subst hg
  intro i u hi
  refine ⟨_, rfl, ?_⟩
  rw [add_head, cell_of_row _ _ i #[v] t (0, 0) (heap_alloc_new w _)]
  simpa using hi
set_option maxHeartbeats 2000000 in
theorem FreeProposals_any (T A : Option Addr) (t c : Nat) (ss : List ByteArray) (ps : List Prp) (w : World) (hT : Cells w T (strs ss)) (htc : ss.length ≤ t) (hfs : Fit ss) (hd : DL w A c ps) (hf : FitP ps) :
    Calls Try.prog 58 #[.slice T ss.length t, .slice A ps.length c] w (ToLB IntK 3 w (freeL ss ps) (propB ss ps)) := by
  have HV := Lib.hid (AreProposals_any T A t c ss ps w hT htc hfs hd hf)
  have HC := Lib.hid (fun W hW hg => conflictPairs_any A c ps W (hd.below hW) hf hg)
  have HD := Lib.hid hd
  clear hT hd
  go_enter Try.func58, Try.ntmps58
  go_wp2_with fail
  refine HV.out.mono ?_
  rintro e w1 ⟨rfl, hb⟩
  have HB := Lib.hid hb
  rcases Bool.eq_false_or_eq_true (propB ss ps) with hr | hr
  · rw [hr]
    have HP := Lib.hid (show freeL ss ps = frL ps ps.length by unfold freeL; rw [hr]; rfl)
    have HG := Lib.hid (Good8.of hr)
    have HASC := Lib.hid (Asc.of hr)
    have h8 := HG.out.few
    go_wp2_with fail
    refine (HC.out w1 hb HG.out).mono ?_
    rintro e w2 ⟨O, oc, rfl, own, hb2⟩
    have HO := Lib.hid own.rd.cells
    have HL := Lib.hid own.2.2.1
    have HB2 := Lib.hid (HB.out.trans (hb2.mono HB.out.size))
    have HZB := Lib.hid (below1 w2 (.cells #[] 3))
    have HZ2 := Lib.hid (show World.ownsRow _ w2.heap.size 3 1 (.slice (some ⟨w2.heap.size, 0, none⟩) 0 0) 0 [] from own_nil_lit w2 w2.heap.size w2.heap.size 3 1 rfl (Nat.le_refl _))
    clear own hb2 hb
    go_wp2_with fail
    generalize w2.alloc (.cells #[] 3) = W0 at *
    go_loopw [7, 19] (fun u i wr => ∃ k : Nat, k ≤ ps.length ∧ i = .int .i64 k ∧ ∃ (xs : List Int) (P : Option Addr) (pc : Nat), Hid (xs = frL ps k) ∧ u = .slice P xs.length pc ∧ Hid (wr.ownsRow w2.heap.size 3 1 (.slice P xs.length pc) xs.length (IntK.row xs)) ∧ Below w2.heap.size w2 wr) (fun _ i _ => ps.length - (intOf i).toNat)
    case atStart => exact ⟨0, Nat.zero_le _, rfl, [], _, _, Lib.hid rfl, rfl, HZ2, HZB.out⟩
    case round =>
      clear HZ2 HZB HC
      obtain ⟨w3, hw3⟩ : ∃ x : World, x = wr := ⟨_, rfl⟩
      subst hw3
      obtain ⟨k, hk, rfl, xs, P, pc, HXS, rfl, HW, hB⟩ := hrel
      have HB3 := Lib.hid hB
      clear hB
      by_cases hlt : k < ps.length
      · obtain ⟨a, B, d, rfl, ⟨hc0, hc1, hc2, hc3, hc4, hc5⟩, hle, hcw⟩ := ((HD.out.below HB2.out).below HB3.out).at_ hlt
        have i1 : (k : Int) < (ps.length : Int) := by omega
        have HE := Lib.hid (lone_eq HASC.out hlt)
        have HY := Lib.hid (fun h => frL_yes (ps := ps) hlt h)
        have HN := Lib.hid (fun h => frL_no (ps := ps) (k := k) h)
        have HLE := Lib.hid (frL_len ps k)
        rw [getP hlt] at HE
        obtain ⟨p, hp⟩ : ∃ p, Hid (ps[k] = p) := ⟨_, Lib.hid rfl⟩
        rw [hp.out] at hc0 hc1 hc2 hc3 hc4 hc5 hle hcw HE HY
        have HBX := Lib.hid (below1 w3 (.cells #[.int .i64 p.i, .int .i64 p.a.k, .int .i64 p.a.p, .int .i64 p.a.n, .slice B p.a.ws.length d, .int .i64 p.t] 65))
        have HNB := Lib.hid (show BoxF (w3.alloc (.cells #[.int .i64 p.i, .int .i64 p.a.k, .int .i64 p.a.p, .int .i64 p.a.n, .slice B p.a.ws.length d, .int .i64 p.t] 65)) w3.heap.size [.int .i64 p.i, .int .i64 p.a.k, .int .i64 p.a.p, .int .i64 p.a.n, .slice B p.a.ws.length d, .int .i64 p.t] from BoxF.new' w3 _ _ _ rfl)
        have hws : w3.heap.size < (w3.alloc (.cells #[.int .i64 p.i, .int .i64 p.a.k, .int .i64 p.a.p, .int .i64 p.a.n, .slice B p.a.ws.length d, .int .i64 p.t] 65)).heap.size := by simp
        go_upto_region 7 with fail
        generalize w3.alloc (.cells #[.int .i64 p.i, .int .i64 p.a.k, .int .i64 p.a.p, .int .i64 p.a.n, .slice B p.a.ws.length d, .int .i64 p.t] 65) = W at *
        have b0 := HNB.out.1 0 _ rfl
        clear hc0 hc1 hc2 hc3 hc4 hc5 hle hcw
        go_wp2_with fail
        refine (hasId_any O _ oc (prs ps ps.length) w3.heap.size p.i W rfl ((HO.out.below HB3.out).below HBX.out) HL.out b0).mono ?_
        rintro e w4 ⟨rfl, hb⟩
        have hb4 := after HBX.out hb
        have HW4 := Lib.hid (own_keep HW.out hb4)
        have HB4 := Lib.hid (HB3.out.trans (hb4.mono HB3.out.size))
        have HN4 := Lib.hid (HNB.out.below hb hws)
        clear hb hb4 b0
        rcases Bool.eq_false_or_eq_true (loneB ps k ps.length) with hl | hl
        · have HYY := Lib.hid (HY.out hl)
          have HH := Lib.hid (show hasId p.i (prs ps ps.length) = false by have := HE.out; rw [hl] at this; simpa using this)
          rw [HH.out]
          have p0 := HN4.out.1 0 _ rfl
          have hL : xs.length ≤ 100 := by rw [HXS.out]; have := HLE.out; omega
          clear HE HY HN HH hl
          go_wp2_with (at_builtin; go_must (refine list_append elInt _ rfl _ _ rfl w2.heap.size P _ pc xs.length 1 1 (IntK.row xs) (IntK.row [p.i]) rfl rfl rfl (own_keep HW4.out ((Below.refl _ _).alloc (Nat.le_refl _) _)) (cells_one _ _ _ _ (by simp)) int_one (by have := HB4.out.size; simp; omega) (by omega) ?_); intro P2 pc2 w5 o2 b2; have HW5 := Lib.hid o2; have HB5 := Lib.hid (HB4.out.trans (((below1 w4 _).mono HB4.out.size).trans b2)); clear o2 b2 p0)
          go_roundw
          case rel =>
            refine ⟨k + 1, hlt, by go_num, xs ++ [p.i], P2, pc2, Lib.hid (by rw [HYY.out, HXS.out]), by rw [List.length_append]; rfl, ?_, HB5.out⟩
            have := HW5.out
            rw [← IntK.row_append] at this
            rw [List.length_append]
            exact Lib.hid this
          case measure => simp [intOf]; omega
        · have HNN := Lib.hid (HN.out hl)
          have HH := Lib.hid (show hasId p.i (prs ps ps.length) = true by have := HE.out; rw [hl] at this; simpa using this)
          rw [HH.out]
          clear HE HY HN HH hl
          go_wp2
          go_roundw
          case rel => exact ⟨k + 1, hlt, by go_num, xs, P, pc, Lib.hid (by rw [HNN.out]; exact HXS.out), rfl, HW4, HB4.out⟩
          case measure => simp [intOf]; omega
      · obtain rfl : k = ps.length := by omega
        have hl := frL_len ps ps.length
        go_wp2
        go_ret2
        exact ToLB.own_ (own_mono HW.out HB2.out.size) (by rw [HP.out, HXS.out]) rfl (by rw [HXS.out]; omega) (fun _ _ => trivial) hr (HB2.out.trans (HB3.out.mono HB2.out.size))
  · rw [hr]
    go_wp2
    go_ret2
    exact ToLB.none_ (by unfold freeL; rw [hr]; rfl) hr HB.out
end Go.Proofs.Ytgchbimjgdoifaa
