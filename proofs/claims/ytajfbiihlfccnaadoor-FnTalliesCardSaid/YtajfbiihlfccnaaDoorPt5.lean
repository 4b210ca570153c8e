/- ParseTally, in the program and in the reference. Conditions: what Cx names, the ranges named. -/
import Derived.Test.YtajfbiihlfccnaaDoorPt4
namespace Go.Proofs.YtajfbiihlfccnaaDoor
open Go.RowKit
set_option linter.unusedVariables false
set_option linter.unusedSimpArgs false
def nI (o : Option Int) : Int := o.getD 0
def bI (o : Option Int) : Bool := o.isSome
theorem optI_eq (o : Option Int) : optI o = .tuple #[.int .i64 (nI o), .bool (bI o)] := by cases o <;> rfl
/-- A tally that may be missing. -/
def resT : Option (Int × Int × Int) → Value
  | some (y, n, a) => .tuple #[.agg #[.int .i64 y, .int .i64 n, .int .i64 a], .bool true]
  | none => .tuple #[.agg #[.int .i64 0, .int .i64 0, .int .i64 0], .bool false]
theorem vl3_eq (y n a : Int) : vldT y n a = vl3 y n a := by
  rw [Bool.eq_iff_iff, vldT_iff, vl3_iff]
theorem tt_tx (y n a : Nat) : ttS y n a = bar (txL y n a) := by
  unfold ttS txL ttH bar dec yesB noB cmB absB
  apply ByteArray.ext
  apply Array.ext'
  split <;> simp
theorem piece_len {c : UInt8} : ∀ {l cur x : List UInt8}, x ∈ spF c cur l → x.length ≤ cur.length + l.length
  | [], cur, x, h => by
    rw [spF] at h
    have := List.mem_singleton.1 h
    subst this
    simp
  | b :: t, cur, x, h => by
    rw [spF] at h
    split at h
    · rcases List.mem_cons.1 h with rfl | h
      · omega
      · have := piece_len h; simp at this ⊢; omega
    · have := piece_len h; simp at this ⊢; omega
theorem pcs_len {c : UInt8} {s x : ByteArray} (h : x ∈ pcs c s) : x.size ≤ s.size := by
  unfold pcs at h
  obtain ⟨l, hl, rfl⟩ := List.mem_map.1 h
  have h1 := piece_len hl
  have h2 : s.data.toList.length = s.size := Array.length_toList
  have h3 : (bar l).size = l.length := by unfold bar ByteArray.size; simp
  rw [h3]
  simpa [h2] using h1
/-- The pieces, where the caller reads them. -/
def AtP (w : World) (O : Option Addr) (ps : List ByteArray) : Prop := ∀ i (h : i < ps.length), ∃ g, O = some ⟨g, 0, none⟩ ∧ w.cell? ⟨g, i, none⟩ = some (.string ps[i])
theorem atP_own {w : World} {base oc : Nat} {O : Option Addr} {ps : List ByteArray} (h : w.ownsRow base 9 1 (.slice O ps.length oc) ps.length (StrK.row ps)) : AtP w O ps := by
  intro i hi
  obtain ⟨ad, hA, hc⟩ := str_at (Cells.of_own h) hi
  rcases h.2 with ⟨h1, h2⟩ | ⟨g, cap, cur, h1, _⟩
  · omega
  · injection h1 with h1
    subst h1
    cases hA
    rw [add_head] at hc
    exact ⟨g, rfl, hc⟩
/-- Between the reads of a tally's numerals. -/
structure St (w v : World) (g : Nat) (qs : List ByteArray) : Prop where
  c : Cx v
  b : Below w.heap.size w v
  nx : BoxF v w.heap.size [.int .i64 0, .int .i64 0, .int .i64 0]
  lt : w.heap.size < v.heap.size
  cel : ∀ i, i < qs.length → v.cell? ⟨g, i, none⟩ = some (.string (qs.getD i ByteArray.empty))
  sz : ∀ i, (qs.getD i ByteArray.empty).size ≤ maxLen
theorem St.below {w v v' : World} {g : Nat} {qs : List ByteArray} (h : St w v g qs) (hb : Below v.heap.size v v') : St w v' g qs :=
  ⟨h.c.below hb, after h.b hb, h.nx.below hb h.lt, Nat.lt_of_lt_of_le h.lt hb.size, fun i hi => keep_cell hb (h.cel i hi), h.sz⟩
theorem St.start {w v : World} {O : Option Addr} {oc base : Nat} {qs : List ByteArray} (hc : Cx v) (hb : Below w.heap.size w v) (nx : BoxF v w.heap.size [.int .i64 0, .int .i64 0, .int .i64 0]) (lt : w.heap.size < v.heap.size)
    (own : v.ownsRow base 9 1 (.slice O qs.length oc) qs.length (StrK.row qs)) (hq : 1 ≤ qs.length) (sz : ∀ x ∈ qs, x.size ≤ maxLen) : ∃ g, O = some ⟨g, 0, none⟩ ∧ St w v g qs := by
  obtain ⟨g, hO, _⟩ := atP_own own 0 (by omega)
  refine ⟨g, hO, hc, hb, nx, lt, fun i hi => ?_, fun i => ?_⟩
  · obtain ⟨g2, hO2, h2⟩ := atP_own own i hi
    rw [hO] at hO2
    cases hO2
    rw [h2, List.getD_eq_getElem?_getD, List.getElem?_eq_getElem hi]
    rfl
  · rw [List.getD_eq_getElem?_getD]
    cases h : qs[i]? with
    | none => show ByteArray.empty.size ≤ maxLen; decide
    | some x => exact sz x (List.mem_of_getElem? h)
theorem getD_bar {ls : List (List UInt8)} (i : Nat) : (ls.map bar).getD i ByteArray.empty = bar (ls.getD i []) := by
  rw [List.getD_eq_getElem?_getD, List.getElem?_map, List.getD_eq_getElem?_getD]
  cases ls[i]? <;> rfl
theorem bar_list (l : List UInt8) : (bar l).data.toList = l := by simp [bar]
theorem fin_b {l : List UInt8} {oy on oa : Option Int} (h : bI oy = false ∨ bI on = false ∨ bI oa = false) : finT l oy on oa = none := by
  cases oy with
  | none => rfl
  | some y => cases on with
    | none => rfl
    | some n => cases oa with
      | none => rfl
      | some a => rcases h with h | h | h <;> cases h
theorem fin_t {l : List UInt8} {oy on oa : Option Int} {y n a : Int} (hy : bI oy = true) (hn : bI on = true) (ha : bI oa = true) (ey : nI oy = y) (en : nI on = n) (ea : nI oa = a) : finT l oy on oa = if vldT y n a = true ∧ txL y.toNat n.toNat a.toNat = l then some (y, n, a) else none := by
  cases oy with
  | none => cases hy
  | some y1 => cases on with
    | none => cases hn
    | some n1 => cases oa with
      | none => cases ha
      | some a1 =>
        rw [show y1 = y from ey, show n1 = n from en, show a1 = a from ea, vl3_eq]
        rfl
theorem pt_short {l : List UInt8} (h : (wsI l).length < 5) : ptI l = none := by unfold ptI; rw [if_pos h]
theorem pt_long {l : List UInt8} (h : ¬ (wsI l).length < 5) {qs : List ByteArray} (hq : qs = (wsI l).map bar) {x0 x2 x4 : ByteArray} (h0 : qs.getD 0 ByteArray.empty = x0) (h2 : qs.getD 2 ByteArray.empty = x2) (h4 : qs.getD 4 ByteArray.empty = x4) : ptI l = finT l (piV x0.data.toList) (piV x2.data.toList) (piV x4.data.toList) := by
  unfold ptI
  rw [if_neg h, ← h0, ← h2, ← h4, hq, getD_bar, getD_bar, getD_bar, bar_list, bar_list, bar_list]

set_option maxHeartbeats 4000000 in
theorem ParseTally_any (s : ByteArray) (w : World) (hs : s.size ≤ 1048576) (h : Cx w) : Calls Tryd.prog 8 #[.string s] w fun e w' => e = .returned (resT (ptI s.data.toList)) ∧ Below w.heap.size w w' := by
  have hsl : s.data.toList.length = s.size := Array.length_toList
  have HC := Lib.hid (h.below (below1 w (.cells #[.int .i64 0, .int .i64 0, .int .i64 0] 23)))
  have HB := Lib.hid (below1 w (.cells #[.int .i64 0, .int .i64 0, .int .i64 0] 23))
  have NX := Lib.hid (show BoxF (w.alloc (.cells #[.int .i64 0, .int .i64 0, .int .i64 0] 23)) w.heap.size [.int .i64 0, .int .i64 0, .int .i64 0] from BoxF.new' w _ _ _ rfl)
  have hz : w.heap.size < (w.alloc (.cells #[.int .i64 0, .int .i64 0, .int .i64 0] 23)).heap.size := by simp
  have hN := spl_len 32 s.data.toList []
  have hP := Lib.hid (show (pcs 32 s).length = (spl 32 s.data.toList).length by unfold pcs; rw [List.length_map])
  have hL : Hid (1 ≤ (pcs 32 s).length ∧ (pcs 32 s).length ≤ 1048577) := Lib.hid ⟨by
    rw [hP.out]
    have := spl_ne (c := 32) (l := s.data.toList) (cur := [])
    rcases Nat.eq_zero_or_pos (spl 32 s.data.toList).length with h0 | h0
    · exact absurd (List.eq_nil_of_length_eq_zero h0) this
    · exact h0, by rw [hP.out]; unfold spl; omega⟩
  have HZ := Lib.hid (fun x (hx : x ∈ pcs 32 s) => Nat.le_trans (pcs_len hx) (show s.size ≤ maxLen by unfold maxLen; omega))
  clear h hN hsl
  go_enter Tryd.func8, Tryd.ntmps8
  go_wp2_with fail
  generalize (w.alloc (.cells #[.int .i64 0, .int .i64 0, .int .i64 0] 23)) = W at *
  refine (split_any 32 s _ hs HC.out).mono ?_
  rintro e v0 ⟨O, oc, rfl, own, hb⟩
  have S0 := Lib.hid (St.start (HC.out.below hb) (after HB.out hb) (NX.out.below hb hz) (Nat.lt_of_lt_of_le hz hb.size) own hL.out.1 HZ.out)
  have HO := Lib.hid own
  have HVB := Lib.hid hb
  obtain ⟨n, hn⟩ : ∃ n, Hid ((pcs 32 s).length = n) := ⟨_, Lib.hid rfl⟩
  rw [hn.out] at HO ⊢
  clear own hb
  by_cases h4 : n = 4
  · obtain rfl : n = 4 := h4
    clear S0
    have HW : Hid ((wsI s.data.toList).length = 5 ∧ pcs 32 s ++ [bar [48]] = (wsI s.data.toList).map bar) := Lib.hid (by
      have h8 : wsI s.data.toList = spl 32 s.data.toList ++ [[48]] := by unfold wsI; rw [if_pos (by have := hP.out; have := hn.out; omega)]
      rw [h8]; exact ⟨by have := hP.out; have := hn.out; rw [List.length_append]; show _ + 1 = 5; omega, by rw [List.map_append]; rfl⟩)
    have HQ : Hid ((pcs 32 s ++ [bar [48]]).length = 5) := Lib.hid (by rw [List.length_append, hn.out]; rfl)
    go_upto_region 4 with (at_builtin; go_must (refine list_append elS _ rfl _ _ rfl W.heap.size O _ oc 4 1 1 (StrK.row (pcs 32 s)) (StrK.row [bar [48]]) rfl rfl rfl (own_keep HO.out ((Below.refl _ _).alloc (Nat.le_refl _) _)) (cellS1 _ _ _ _ (by simp)) oneS (by have := HVB.out.size; simp; omega) (by omega) ?_); intro O2 oc2 v1 own hb; have HO2 := Lib.hid own; have HB2 := Lib.hid hb; clear own hb)
    have hbv : Below W.heap.size W v1 := HVB.out.trans ((((Below.refl v0.heap.size v0).alloc (Nat.le_refl _) _).mono HVB.out.size).trans HB2.out)
    obtain ⟨g, hO, S⟩ := St.start (qs := pcs 32 s ++ [bar [48]]) (HC.out.below hbv) (after HB.out hbv) (NX.out.below hbv hz) (Nat.lt_of_lt_of_le hz hbv.size) (O := O2) (oc := oc2) (base := W.heap.size) (by rw [HQ.out, StrK.row_append]; exact HO2.out) (by rw [HQ.out]; omega) (fun x hx => by
      rcases List.mem_append.1 hx with h | h
      · exact HZ.out x h
      · have := List.mem_singleton.1 h; subst this; show 1 ≤ maxLen; unfold maxLen; omega)
    have S := Lib.hid S
    subst hO
    have k2 : (pcs 32 s ++ [bar [48]]).length = 5 := HQ.out
    clear hbv

    · have c5 : ¬ (((5 : Nat) : Int) < 5) := by omega
      have i0 : (0 : Int) < ((5 : Nat) : Int) := by omega
      have i2 : (2 : Int) < ((5 : Nat) : Int) := by omega
      have i4 : (4 : Int) < ((5 : Nat) : Int) := by omega
      obtain ⟨x0, e0⟩ : ∃ x, Hid ((pcs 32 s ++ [bar [48]]).getD 0 ByteArray.empty = x) := ⟨_, Lib.hid rfl⟩
      obtain ⟨x2, e2⟩ : ∃ x, Hid ((pcs 32 s ++ [bar [48]]).getD 2 ByteArray.empty = x) := ⟨_, Lib.hid rfl⟩
      obtain ⟨x4, e4⟩ : ∃ x, Hid ((pcs 32 s ++ [bar [48]]).getD 4 ByteArray.empty = x) := ⟨_, Lib.hid rfl⟩
      have z0 := Lib.hid (S.out.sz 0)
      have z2 := Lib.hid (S.out.sz 2)
      have z4 := Lib.hid (S.out.sz 4)
      rw [e0.out] at z0
      rw [e2.out] at z2
      rw [e4.out] at z4
      have p0 := S.out.cel 0 (by omega)
      rw [e0.out] at p0
      go_upto_region 9 with (first
        | (go_at_call 45; clear p0; refine (ParseInt_any x0 _ z0.out S.out.c).mono ?_; rintro e v2 ⟨rfl, hb⟩; rw [optI_eq]; have S2 := Lib.hid (S.out.below hb); have p2 := S2.out.cel 2 (by omega); rw [e2.out] at p2; clear hb)
        | (go_at_call 45; clear p2; refine (ParseInt_any x2 _ z2.out S2.out.c).mono ?_; rintro e v3 ⟨rfl, hb⟩; rw [optI_eq]; have S3 := Lib.hid (S2.out.below hb); have p4 := S3.out.cel 4 (by omega); rw [e4.out] at p4; clear hb)
        | (go_at_call 45; clear p4; refine (ParseInt_any x4 _ z4.out S3.out.c).mono ?_; rintro e v4 ⟨rfl, hb⟩; rw [optI_eq]; have S4 := Lib.hid (S3.out.below hb); clear hb))
      obtain ⟨oy, hoy⟩ : ∃ o, Hid (piV x0.data.toList = o) := ⟨_, Lib.hid rfl⟩
      obtain ⟨on, hon⟩ : ∃ o, Hid (piV x2.data.toList = o) := ⟨_, Lib.hid rfl⟩
      obtain ⟨oa, hoa⟩ : ∃ o, Hid (piV x4.data.toList = o) := ⟨_, Lib.hid rfl⟩
      rw [hoy.out, hon.out, hoa.out]
      have HF : Hid (ptI s.data.toList = finT s.data.toList oy on oa) := Lib.hid (by rw [← hoy.out, ← hon.out, ← hoa.out]; exact pt_long (by have := HW.out.1; omega) HW.out.2 e0.out e2.out e4.out)
      obtain ⟨y, hy⟩ : ∃ y, Hid (nI oy = y) := ⟨_, Lib.hid rfl⟩
      obtain ⟨n1, hn1⟩ : ∃ y, Hid (nI on = y) := ⟨_, Lib.hid rfl⟩
      obtain ⟨a, ha⟩ : ∃ y, Hid (nI oa = y) := ⟨_, Lib.hid rfl⟩
      obtain ⟨b0, hb0⟩ : ∃ b, Hid (bI oy = b) := ⟨_, Lib.hid rfl⟩
      obtain ⟨b1, hb1⟩ : ∃ b, Hid (bI on = b) := ⟨_, Lib.hid rfl⟩
      obtain ⟨b2, hb2⟩ : ∃ b, Hid (bI oa = b) := ⟨_, Lib.hid rfl⟩
      rw [hy.out, hn1.out, ha.out, hb0.out, hb1.out, hb2.out]
      go_upto_region 10 with fail

      have S5 := Lib.hid (S4.out.below (below1 v4 (.cells #[.int .i64 y, .int .i64 n1, .int .i64 a] 23)))
      have T5 := Lib.hid (show BoxF (v4.alloc (.cells #[.int .i64 y, .int .i64 n1, .int .i64 a] 23)) v4.heap.size [.int .i64 y, .int .i64 n1, .int .i64 a] from BoxF.new' v4 _ _ _ rfl)
      have lt5 : v4.heap.size < (v4.alloc (.cells #[.int .i64 y, .int .i64 n1, .int .i64 a] 23)).heap.size := by simp
      generalize (v4.alloc (.cells #[.int .i64 y, .int .i64 n1, .int .i64 a] 23)) = v5 at *
      obtain ⟨t, ht⟩ : ∃ t, v4.heap.size = t := ⟨_, rfl⟩
      rw [ht] at T5 lt5 ⊢
      clear ht
      have r0 := S5.out.nx.1 0 _ rfl
      have r1 := S5.out.nx.1 1 _ rfl
      have r2 := S5.out.nx.1 2 _ rfl
      have f0 := S5.out.nx.2 0
      have f1 := S5.out.nx.2 1
      have f2 := S5.out.nx.2 2
      have t0 := T5.out.1 0 _ rfl
      have t1 := T5.out.1 1 _ rfl
      have t2 := T5.out.1 2 _ rfl
      cases b0 with
      | false =>
        have HR := Lib.hid (HF.out.trans (fin_b (Or.inl hb0.out)))
        go_wp2
        have BX := Lib.hid (S5.out.nx.set3 (.int .i64 0) (.int .i64 0) (.int .i64 0))
        have BB : Hid (Below w.heap.size w (((v5.setCell ⟨w.heap.size, 0, none⟩ (.int .i64 0)).setCell ⟨w.heap.size, 1, none⟩ (.int .i64 0)).setCell ⟨w.heap.size, 2, none⟩ (.int .i64 0))) := Lib.hid (((S5.out.b.setCell (p := ⟨w.heap.size, 0, none⟩) (Nat.le_refl _) _).setCell (p := ⟨w.heap.size, 1, none⟩) (Nat.le_refl _) _).setCell (p := ⟨w.heap.size, 2, none⟩) (Nat.le_refl _) _)
        generalize (((v5.setCell ⟨w.heap.size, 0, none⟩ (.int .i64 0)).setCell ⟨w.heap.size, 1, none⟩ (.int .i64 0)).setCell ⟨w.heap.size, 2, none⟩ (.int .i64 0)) = V at *
        have j0 := BX.out.1 0 _ rfl
        have j1 := BX.out.1 1 _ rfl
        have j2 := BX.out.1 2 _ rfl
        refine bodyPost_ret (by simp [results, Tryd.results8, go_sem, j0, j1, j2]; try rfl) rfl ?_
        exact ⟨by rw [HR.out]; first | rfl | (simp [resT]; done), BB.out⟩
      | true =>
        cases b1 with
        | false =>
          have HR := Lib.hid (HF.out.trans (fin_b (Or.inr (Or.inl hb1.out))))
          go_wp2
          have BX := Lib.hid (S5.out.nx.set3 (.int .i64 0) (.int .i64 0) (.int .i64 0))
          have BB : Hid (Below w.heap.size w (((v5.setCell ⟨w.heap.size, 0, none⟩ (.int .i64 0)).setCell ⟨w.heap.size, 1, none⟩ (.int .i64 0)).setCell ⟨w.heap.size, 2, none⟩ (.int .i64 0))) := Lib.hid (((S5.out.b.setCell (p := ⟨w.heap.size, 0, none⟩) (Nat.le_refl _) _).setCell (p := ⟨w.heap.size, 1, none⟩) (Nat.le_refl _) _).setCell (p := ⟨w.heap.size, 2, none⟩) (Nat.le_refl _) _)
          generalize (((v5.setCell ⟨w.heap.size, 0, none⟩ (.int .i64 0)).setCell ⟨w.heap.size, 1, none⟩ (.int .i64 0)).setCell ⟨w.heap.size, 2, none⟩ (.int .i64 0)) = V at *
          have j0 := BX.out.1 0 _ rfl
          have j1 := BX.out.1 1 _ rfl
          have j2 := BX.out.1 2 _ rfl
          refine bodyPost_ret (by simp [results, Tryd.results8, go_sem, j0, j1, j2]; try rfl) rfl ?_
          exact ⟨by rw [HR.out]; first | rfl | (simp [resT]; done), BB.out⟩
        | true =>
          cases b2 with
          | false =>
            have HR := Lib.hid (HF.out.trans (fin_b (Or.inr (Or.inr hb2.out))))
            go_wp2
            have BX := Lib.hid (S5.out.nx.set3 (.int .i64 0) (.int .i64 0) (.int .i64 0))
            have BB : Hid (Below w.heap.size w (((v5.setCell ⟨w.heap.size, 0, none⟩ (.int .i64 0)).setCell ⟨w.heap.size, 1, none⟩ (.int .i64 0)).setCell ⟨w.heap.size, 2, none⟩ (.int .i64 0))) := Lib.hid (((S5.out.b.setCell (p := ⟨w.heap.size, 0, none⟩) (Nat.le_refl _) _).setCell (p := ⟨w.heap.size, 1, none⟩) (Nat.le_refl _) _).setCell (p := ⟨w.heap.size, 2, none⟩) (Nat.le_refl _) _)
            generalize (((v5.setCell ⟨w.heap.size, 0, none⟩ (.int .i64 0)).setCell ⟨w.heap.size, 1, none⟩ (.int .i64 0)).setCell ⟨w.heap.size, 2, none⟩ (.int .i64 0)) = V at *
            have j0 := BX.out.1 0 _ rfl
            have j1 := BX.out.1 1 _ rfl
            have j2 := BX.out.1 2 _ rfl
            refine bodyPost_ret (by simp [results, Tryd.results8, go_sem, j0, j1, j2]; try rfl) rfl ?_
            exact ⟨by rw [HR.out]; first | rfl | (simp [resT]; done), BB.out⟩
          | true =>
            have HT := Lib.hid (HF.out.trans (fin_t hb0.out hb1.out hb2.out hy.out hn1.out ha.out))
            rcases Bool.eq_false_or_eq_true (vldT y n1 a) with hv | hv
            · obtain ⟨h1, h2, h3, h4, h5, h6⟩ := vldT_iff.1 hv
              obtain ⟨yn, hyn⟩ : ∃ k : Nat, y = (k : Int) := ⟨y.toNat, by omega⟩
              obtain ⟨nn, hnn⟩ : ∃ k : Nat, n1 = (k : Int) := ⟨n1.toNat, by omega⟩
              obtain ⟨an, han⟩ : ∃ k : Nat, a = (k : Int) := ⟨a.toNat, by omega⟩
              subst hyn hnn han
              by_cases hx : ttS yn nn an = s
              · have HR : Hid (ptI s.data.toList = some ((yn : Int), (nn : Int), (an : Int))) := Lib.hid (HT.out.trans (if_pos ⟨hv, by rw [← bar_eq, ← hx, tt_tx]; rfl⟩))
                have HX := Lib.hid hx
                clear hx
                go_wp2_with (first
                  | (go_at_call 46; refine (isValidTally_any (yn : Int) (nn : Int) (an : Int) _).mono ?_; rintro e v6 ⟨rfl, hb⟩; rw [hv]; have S6 := Lib.hid (S5.out.below hb); have u0 := keep_cell hb t0; have u1 := keep_cell hb t1; have u2 := keep_cell hb t2; clear hb)
                  | (go_at_call 47; have y9 := u0; clear y9; refine (tallyText_any yn nn an (by omega) (by omega) (by omega) _ S6.out.c.tab).mono ?_; rintro e v7 ⟨rfl, hb⟩; rw [HX.out]; have S7 := Lib.hid (S6.out.below hb); have y0 := keep_cell hb u0; have y1 := keep_cell hb u1; have y2 := keep_cell hb u2; clear u0 u1 u2; have s0 := S7.out.nx.1 0 _ rfl; have s1 := S7.out.nx.1 1 _ rfl; have s2 := S7.out.nx.1 2 _ rfl; have g0 := S7.out.nx.2 0; have g1 := S7.out.nx.2 1; have g2 := S7.out.nx.2 2; clear hb))
                have BX := Lib.hid (S7.out.nx.set3 (.int .i64 yn) (.int .i64 nn) (.int .i64 an))
                have BB : Hid (Below w.heap.size w (((v7.setCell ⟨w.heap.size, 0, none⟩ (.int .i64 yn)).setCell ⟨w.heap.size, 1, none⟩ (.int .i64 nn)).setCell ⟨w.heap.size, 2, none⟩ (.int .i64 an))) := Lib.hid (((S7.out.b.setCell (p := ⟨w.heap.size, 0, none⟩) (Nat.le_refl _) _).setCell (p := ⟨w.heap.size, 1, none⟩) (Nat.le_refl _) _).setCell (p := ⟨w.heap.size, 2, none⟩) (Nat.le_refl _) _)
                generalize (((v7.setCell ⟨w.heap.size, 0, none⟩ (.int .i64 yn)).setCell ⟨w.heap.size, 1, none⟩ (.int .i64 nn)).setCell ⟨w.heap.size, 2, none⟩ (.int .i64 an)) = V at *
                have j0 := BX.out.1 0 _ rfl
                have j1 := BX.out.1 1 _ rfl
                have j2 := BX.out.1 2 _ rfl
                refine bodyPost_ret (by simp [results, Tryd.results8, go_sem, j0, j1, j2]; try rfl) rfl ?_
                exact ⟨by rw [HR.out]; first | rfl | (simp [resT]; done), BB.out⟩
              · have hxs := same_no hx
                have HR : Hid (ptI s.data.toList = none) := Lib.hid (HT.out.trans (if_neg (fun h => hx (by rw [tt_tx]; exact bar_eq.2 h.2))))
                obtain ⟨x, ex⟩ : ∃ x, Hid (ttS yn nn an = x) := ⟨_, Lib.hid rfl⟩
                rw [ex.out] at hxs
                clear hx
                go_wp2_with (first
                  | (go_at_call 46; refine (isValidTally_any (yn : Int) (nn : Int) (an : Int) _).mono ?_; rintro e v6 ⟨rfl, hb⟩; rw [hv]; have S6 := Lib.hid (S5.out.below hb); have u0 := keep_cell hb t0; have u1 := keep_cell hb t1; have u2 := keep_cell hb t2; clear hb)
                  | (go_at_call 47; have y9 := u0; clear y9; refine (tallyText_any yn nn an (by omega) (by omega) (by omega) _ S6.out.c.tab).mono ?_; rintro e v7 ⟨rfl, hb⟩; rw [ex.out]; have S7 := Lib.hid (S6.out.below hb); have y0 := keep_cell hb u0; have y1 := keep_cell hb u1; have y2 := keep_cell hb u2; clear u0 u1 u2; have s0 := S7.out.nx.1 0 _ rfl; have s1 := S7.out.nx.1 1 _ rfl; have s2 := S7.out.nx.1 2 _ rfl; have g0 := S7.out.nx.2 0; have g1 := S7.out.nx.2 1; have g2 := S7.out.nx.2 2; clear hb))
                have BX := Lib.hid (S7.out.nx.set3 (.int .i64 0) (.int .i64 0) (.int .i64 0))
                have BB : Hid (Below w.heap.size w (((v7.setCell ⟨w.heap.size, 0, none⟩ (.int .i64 0)).setCell ⟨w.heap.size, 1, none⟩ (.int .i64 0)).setCell ⟨w.heap.size, 2, none⟩ (.int .i64 0))) := Lib.hid (((S7.out.b.setCell (p := ⟨w.heap.size, 0, none⟩) (Nat.le_refl _) _).setCell (p := ⟨w.heap.size, 1, none⟩) (Nat.le_refl _) _).setCell (p := ⟨w.heap.size, 2, none⟩) (Nat.le_refl _) _)
                generalize (((v7.setCell ⟨w.heap.size, 0, none⟩ (.int .i64 0)).setCell ⟨w.heap.size, 1, none⟩ (.int .i64 0)).setCell ⟨w.heap.size, 2, none⟩ (.int .i64 0)) = V at *
                have j0 := BX.out.1 0 _ rfl
                have j1 := BX.out.1 1 _ rfl
                have j2 := BX.out.1 2 _ rfl
                refine bodyPost_ret (by simp [results, Tryd.results8, go_sem, j0, j1, j2]; try rfl) rfl ?_
                exact ⟨by rw [HR.out]; first | rfl | (simp [resT]; done), BB.out⟩
            · have HR := Lib.hid (HT.out.trans (if_neg (fun h => by rw [hv] at h; cases h.1)))
              go_wp2_with (go_at_call 46; refine (isValidTally_any y n1 a _).mono ?_; rintro e v6 ⟨rfl, hb⟩; rw [hv]; have S6 := Lib.hid (S5.out.below hb); have s0 := S6.out.nx.1 0 _ rfl; have s1 := S6.out.nx.1 1 _ rfl; have s2 := S6.out.nx.1 2 _ rfl; have g0 := S6.out.nx.2 0; have g1 := S6.out.nx.2 1; have g2 := S6.out.nx.2 2; clear hb)
              have BX := Lib.hid (S6.out.nx.set3 (.int .i64 0) (.int .i64 0) (.int .i64 0))
              have BB : Hid (Below w.heap.size w (((v6.setCell ⟨w.heap.size, 0, none⟩ (.int .i64 0)).setCell ⟨w.heap.size, 1, none⟩ (.int .i64 0)).setCell ⟨w.heap.size, 2, none⟩ (.int .i64 0))) := Lib.hid (((S6.out.b.setCell (p := ⟨w.heap.size, 0, none⟩) (Nat.le_refl _) _).setCell (p := ⟨w.heap.size, 1, none⟩) (Nat.le_refl _) _).setCell (p := ⟨w.heap.size, 2, none⟩) (Nat.le_refl _) _)
              generalize (((v6.setCell ⟨w.heap.size, 0, none⟩ (.int .i64 0)).setCell ⟨w.heap.size, 1, none⟩ (.int .i64 0)).setCell ⟨w.heap.size, 2, none⟩ (.int .i64 0)) = V at *
              have j0 := BX.out.1 0 _ rfl
              have j1 := BX.out.1 1 _ rfl
              have j2 := BX.out.1 2 _ rfl
              refine bodyPost_ret (by simp [results, Tryd.results8, go_sem, j0, j1, j2]; try rfl) rfl ?_
              exact ⟨by rw [HR.out]; first | rfl | (simp [resT]; done), BB.out⟩

  · have c4 : ¬ (n : Int) = 4 := by omega
    obtain ⟨g, hO, S⟩ := S0.out
    have S := Lib.hid S
    subst hO
    have k1 := hL.out.1
    have k2 : (pcs 32 s).length = n := hn.out
    clear S0
    have HW : Hid ((wsI s.data.toList).length = n ∧ pcs 32 s = (wsI s.data.toList).map bar) := Lib.hid (by
      have h8 : wsI s.data.toList = spl 32 s.data.toList := by unfold wsI; rw [if_neg (by have := hP.out; omega)]
      rw [h8]; exact ⟨by have := hP.out; omega, rfl⟩)

    by_cases h5 : n < 5
    · have c5 : ((n : Nat) : Int) < 5 := by omega
      have HR := Lib.hid (pt_short (l := s.data.toList) (by have := HW.out.1; omega))
      have r0 := S.out.nx.1 0 _ rfl
      have r1 := S.out.nx.1 1 _ rfl
      have r2 := S.out.nx.1 2 _ rfl
      have f0 := S.out.nx.2 0
      have f1 := S.out.nx.2 1
      have f2 := S.out.nx.2 2
      go_wp2
      have BX := Lib.hid (S.out.nx.set3 (.int .i64 0) (.int .i64 0) (.int .i64 0))
      have BB : Hid (Below w.heap.size w (((v0.setCell ⟨w.heap.size, 0, none⟩ (.int .i64 0)).setCell ⟨w.heap.size, 1, none⟩ (.int .i64 0)).setCell ⟨w.heap.size, 2, none⟩ (.int .i64 0))) := Lib.hid (((S.out.b.setCell (p := ⟨w.heap.size, 0, none⟩) (Nat.le_refl _) _).setCell (p := ⟨w.heap.size, 1, none⟩) (Nat.le_refl _) _).setCell (p := ⟨w.heap.size, 2, none⟩) (Nat.le_refl _) _)
      generalize (((v0.setCell ⟨w.heap.size, 0, none⟩ (.int .i64 0)).setCell ⟨w.heap.size, 1, none⟩ (.int .i64 0)).setCell ⟨w.heap.size, 2, none⟩ (.int .i64 0)) = V at *
      have j0 := BX.out.1 0 _ rfl
      have j1 := BX.out.1 1 _ rfl
      have j2 := BX.out.1 2 _ rfl
      refine bodyPost_ret (by simp [results, Tryd.results8, go_sem, j0, j1, j2]; try rfl) rfl ?_
      exact ⟨by rw [HR.out]; first | rfl | (simp [resT]; done), BB.out⟩
    · have c5 : ¬ (((n : Nat) : Int) < 5) := by omega
      have i0 : (0 : Int) < ((n : Nat) : Int) := by omega
      have i2 : (2 : Int) < ((n : Nat) : Int) := by omega
      have i4 : (4 : Int) < ((n : Nat) : Int) := by omega
      obtain ⟨x0, e0⟩ : ∃ x, Hid ((pcs 32 s).getD 0 ByteArray.empty = x) := ⟨_, Lib.hid rfl⟩
      obtain ⟨x2, e2⟩ : ∃ x, Hid ((pcs 32 s).getD 2 ByteArray.empty = x) := ⟨_, Lib.hid rfl⟩
      obtain ⟨x4, e4⟩ : ∃ x, Hid ((pcs 32 s).getD 4 ByteArray.empty = x) := ⟨_, Lib.hid rfl⟩
      have z0 := Lib.hid (S.out.sz 0)
      have z2 := Lib.hid (S.out.sz 2)
      have z4 := Lib.hid (S.out.sz 4)
      rw [e0.out] at z0
      rw [e2.out] at z2
      rw [e4.out] at z4
      have p0 := S.out.cel 0 (by omega)
      rw [e0.out] at p0
      go_upto_region 9 with (first
        | (go_at_call 45; clear p0; refine (ParseInt_any x0 _ z0.out S.out.c).mono ?_; rintro e v2 ⟨rfl, hb⟩; rw [optI_eq]; have S2 := Lib.hid (S.out.below hb); have p2 := S2.out.cel 2 (by omega); rw [e2.out] at p2; clear hb)
        | (go_at_call 45; clear p2; refine (ParseInt_any x2 _ z2.out S2.out.c).mono ?_; rintro e v3 ⟨rfl, hb⟩; rw [optI_eq]; have S3 := Lib.hid (S2.out.below hb); have p4 := S3.out.cel 4 (by omega); rw [e4.out] at p4; clear hb)
        | (go_at_call 45; clear p4; refine (ParseInt_any x4 _ z4.out S3.out.c).mono ?_; rintro e v4 ⟨rfl, hb⟩; rw [optI_eq]; have S4 := Lib.hid (S3.out.below hb); clear hb))
      obtain ⟨oy, hoy⟩ : ∃ o, Hid (piV x0.data.toList = o) := ⟨_, Lib.hid rfl⟩
      obtain ⟨on, hon⟩ : ∃ o, Hid (piV x2.data.toList = o) := ⟨_, Lib.hid rfl⟩
      obtain ⟨oa, hoa⟩ : ∃ o, Hid (piV x4.data.toList = o) := ⟨_, Lib.hid rfl⟩
      rw [hoy.out, hon.out, hoa.out]
      have HF : Hid (ptI s.data.toList = finT s.data.toList oy on oa) := Lib.hid (by rw [← hoy.out, ← hon.out, ← hoa.out]; exact pt_long (by have := HW.out.1; omega) HW.out.2 e0.out e2.out e4.out)
      obtain ⟨y, hy⟩ : ∃ y, Hid (nI oy = y) := ⟨_, Lib.hid rfl⟩
      obtain ⟨n1, hn1⟩ : ∃ y, Hid (nI on = y) := ⟨_, Lib.hid rfl⟩
      obtain ⟨a, ha⟩ : ∃ y, Hid (nI oa = y) := ⟨_, Lib.hid rfl⟩
      obtain ⟨b0, hb0⟩ : ∃ b, Hid (bI oy = b) := ⟨_, Lib.hid rfl⟩
      obtain ⟨b1, hb1⟩ : ∃ b, Hid (bI on = b) := ⟨_, Lib.hid rfl⟩
      obtain ⟨b2, hb2⟩ : ∃ b, Hid (bI oa = b) := ⟨_, Lib.hid rfl⟩
      rw [hy.out, hn1.out, ha.out, hb0.out, hb1.out, hb2.out]
      go_upto_region 10 with fail

      have S5 := Lib.hid (S4.out.below (below1 v4 (.cells #[.int .i64 y, .int .i64 n1, .int .i64 a] 23)))
      have T5 := Lib.hid (show BoxF (v4.alloc (.cells #[.int .i64 y, .int .i64 n1, .int .i64 a] 23)) v4.heap.size [.int .i64 y, .int .i64 n1, .int .i64 a] from BoxF.new' v4 _ _ _ rfl)
      have lt5 : v4.heap.size < (v4.alloc (.cells #[.int .i64 y, .int .i64 n1, .int .i64 a] 23)).heap.size := by simp
      generalize (v4.alloc (.cells #[.int .i64 y, .int .i64 n1, .int .i64 a] 23)) = v5 at *
      obtain ⟨t, ht⟩ : ∃ t, v4.heap.size = t := ⟨_, rfl⟩
      rw [ht] at T5 lt5 ⊢
      clear ht
      have r0 := S5.out.nx.1 0 _ rfl
      have r1 := S5.out.nx.1 1 _ rfl
      have r2 := S5.out.nx.1 2 _ rfl
      have f0 := S5.out.nx.2 0
      have f1 := S5.out.nx.2 1
      have f2 := S5.out.nx.2 2
      have t0 := T5.out.1 0 _ rfl
      have t1 := T5.out.1 1 _ rfl
      have t2 := T5.out.1 2 _ rfl
      cases b0 with
      | false =>
        have HR := Lib.hid (HF.out.trans (fin_b (Or.inl hb0.out)))
        go_wp2
        have BX := Lib.hid (S5.out.nx.set3 (.int .i64 0) (.int .i64 0) (.int .i64 0))
        have BB : Hid (Below w.heap.size w (((v5.setCell ⟨w.heap.size, 0, none⟩ (.int .i64 0)).setCell ⟨w.heap.size, 1, none⟩ (.int .i64 0)).setCell ⟨w.heap.size, 2, none⟩ (.int .i64 0))) := Lib.hid (((S5.out.b.setCell (p := ⟨w.heap.size, 0, none⟩) (Nat.le_refl _) _).setCell (p := ⟨w.heap.size, 1, none⟩) (Nat.le_refl _) _).setCell (p := ⟨w.heap.size, 2, none⟩) (Nat.le_refl _) _)
        generalize (((v5.setCell ⟨w.heap.size, 0, none⟩ (.int .i64 0)).setCell ⟨w.heap.size, 1, none⟩ (.int .i64 0)).setCell ⟨w.heap.size, 2, none⟩ (.int .i64 0)) = V at *
        have j0 := BX.out.1 0 _ rfl
        have j1 := BX.out.1 1 _ rfl
        have j2 := BX.out.1 2 _ rfl
        refine bodyPost_ret (by simp [results, Tryd.results8, go_sem, j0, j1, j2]; try rfl) rfl ?_
        exact ⟨by rw [HR.out]; first | rfl | (simp [resT]; done), BB.out⟩
      | true =>
        cases b1 with
        | false =>
          have HR := Lib.hid (HF.out.trans (fin_b (Or.inr (Or.inl hb1.out))))
          go_wp2
          have BX := Lib.hid (S5.out.nx.set3 (.int .i64 0) (.int .i64 0) (.int .i64 0))
          have BB : Hid (Below w.heap.size w (((v5.setCell ⟨w.heap.size, 0, none⟩ (.int .i64 0)).setCell ⟨w.heap.size, 1, none⟩ (.int .i64 0)).setCell ⟨w.heap.size, 2, none⟩ (.int .i64 0))) := Lib.hid (((S5.out.b.setCell (p := ⟨w.heap.size, 0, none⟩) (Nat.le_refl _) _).setCell (p := ⟨w.heap.size, 1, none⟩) (Nat.le_refl _) _).setCell (p := ⟨w.heap.size, 2, none⟩) (Nat.le_refl _) _)
          generalize (((v5.setCell ⟨w.heap.size, 0, none⟩ (.int .i64 0)).setCell ⟨w.heap.size, 1, none⟩ (.int .i64 0)).setCell ⟨w.heap.size, 2, none⟩ (.int .i64 0)) = V at *
          have j0 := BX.out.1 0 _ rfl
          have j1 := BX.out.1 1 _ rfl
          have j2 := BX.out.1 2 _ rfl
          refine bodyPost_ret (by simp [results, Tryd.results8, go_sem, j0, j1, j2]; try rfl) rfl ?_
          exact ⟨by rw [HR.out]; first | rfl | (simp [resT]; done), BB.out⟩
        | true =>
          cases b2 with
          | false =>
            have HR := Lib.hid (HF.out.trans (fin_b (Or.inr (Or.inr hb2.out))))
            go_wp2
            have BX := Lib.hid (S5.out.nx.set3 (.int .i64 0) (.int .i64 0) (.int .i64 0))
            have BB : Hid (Below w.heap.size w (((v5.setCell ⟨w.heap.size, 0, none⟩ (.int .i64 0)).setCell ⟨w.heap.size, 1, none⟩ (.int .i64 0)).setCell ⟨w.heap.size, 2, none⟩ (.int .i64 0))) := Lib.hid (((S5.out.b.setCell (p := ⟨w.heap.size, 0, none⟩) (Nat.le_refl _) _).setCell (p := ⟨w.heap.size, 1, none⟩) (Nat.le_refl _) _).setCell (p := ⟨w.heap.size, 2, none⟩) (Nat.le_refl _) _)
            generalize (((v5.setCell ⟨w.heap.size, 0, none⟩ (.int .i64 0)).setCell ⟨w.heap.size, 1, none⟩ (.int .i64 0)).setCell ⟨w.heap.size, 2, none⟩ (.int .i64 0)) = V at *
            have j0 := BX.out.1 0 _ rfl
            have j1 := BX.out.1 1 _ rfl
            have j2 := BX.out.1 2 _ rfl
            refine bodyPost_ret (by simp [results, Tryd.results8, go_sem, j0, j1, j2]; try rfl) rfl ?_
            exact ⟨by rw [HR.out]; first | rfl | (simp [resT]; done), BB.out⟩
          | true =>
            have HT := Lib.hid (HF.out.trans (fin_t hb0.out hb1.out hb2.out hy.out hn1.out ha.out))
            rcases Bool.eq_false_or_eq_true (vldT y n1 a) with hv | hv
            · obtain ⟨h1, h2, h3, h4, h5, h6⟩ := vldT_iff.1 hv
              obtain ⟨yn, hyn⟩ : ∃ k : Nat, y = (k : Int) := ⟨y.toNat, by omega⟩
              obtain ⟨nn, hnn⟩ : ∃ k : Nat, n1 = (k : Int) := ⟨n1.toNat, by omega⟩
              obtain ⟨an, han⟩ : ∃ k : Nat, a = (k : Int) := ⟨a.toNat, by omega⟩
              subst hyn hnn han
              by_cases hx : ttS yn nn an = s
              · have HR : Hid (ptI s.data.toList = some ((yn : Int), (nn : Int), (an : Int))) := Lib.hid (HT.out.trans (if_pos ⟨hv, by rw [← bar_eq, ← hx, tt_tx]; rfl⟩))
                have HX := Lib.hid hx
                clear hx
                go_wp2_with (first
                  | (go_at_call 46; refine (isValidTally_any (yn : Int) (nn : Int) (an : Int) _).mono ?_; rintro e v6 ⟨rfl, hb⟩; rw [hv]; have S6 := Lib.hid (S5.out.below hb); have u0 := keep_cell hb t0; have u1 := keep_cell hb t1; have u2 := keep_cell hb t2; clear hb)
                  | (go_at_call 47; have y9 := u0; clear y9; refine (tallyText_any yn nn an (by omega) (by omega) (by omega) _ S6.out.c.tab).mono ?_; rintro e v7 ⟨rfl, hb⟩; rw [HX.out]; have S7 := Lib.hid (S6.out.below hb); have y0 := keep_cell hb u0; have y1 := keep_cell hb u1; have y2 := keep_cell hb u2; clear u0 u1 u2; have s0 := S7.out.nx.1 0 _ rfl; have s1 := S7.out.nx.1 1 _ rfl; have s2 := S7.out.nx.1 2 _ rfl; have g0 := S7.out.nx.2 0; have g1 := S7.out.nx.2 1; have g2 := S7.out.nx.2 2; clear hb))
                have BX := Lib.hid (S7.out.nx.set3 (.int .i64 yn) (.int .i64 nn) (.int .i64 an))
                have BB : Hid (Below w.heap.size w (((v7.setCell ⟨w.heap.size, 0, none⟩ (.int .i64 yn)).setCell ⟨w.heap.size, 1, none⟩ (.int .i64 nn)).setCell ⟨w.heap.size, 2, none⟩ (.int .i64 an))) := Lib.hid (((S7.out.b.setCell (p := ⟨w.heap.size, 0, none⟩) (Nat.le_refl _) _).setCell (p := ⟨w.heap.size, 1, none⟩) (Nat.le_refl _) _).setCell (p := ⟨w.heap.size, 2, none⟩) (Nat.le_refl _) _)
                generalize (((v7.setCell ⟨w.heap.size, 0, none⟩ (.int .i64 yn)).setCell ⟨w.heap.size, 1, none⟩ (.int .i64 nn)).setCell ⟨w.heap.size, 2, none⟩ (.int .i64 an)) = V at *
                have j0 := BX.out.1 0 _ rfl
                have j1 := BX.out.1 1 _ rfl
                have j2 := BX.out.1 2 _ rfl
                refine bodyPost_ret (by simp [results, Tryd.results8, go_sem, j0, j1, j2]; try rfl) rfl ?_
                exact ⟨by rw [HR.out]; first | rfl | (simp [resT]; done), BB.out⟩
              · have hxs := same_no hx
                have HR : Hid (ptI s.data.toList = none) := Lib.hid (HT.out.trans (if_neg (fun h => hx (by rw [tt_tx]; exact bar_eq.2 h.2))))
                obtain ⟨x, ex⟩ : ∃ x, Hid (ttS yn nn an = x) := ⟨_, Lib.hid rfl⟩
                rw [ex.out] at hxs
                clear hx
                go_wp2_with (first
                  | (go_at_call 46; refine (isValidTally_any (yn : Int) (nn : Int) (an : Int) _).mono ?_; rintro e v6 ⟨rfl, hb⟩; rw [hv]; have S6 := Lib.hid (S5.out.below hb); have u0 := keep_cell hb t0; have u1 := keep_cell hb t1; have u2 := keep_cell hb t2; clear hb)
                  | (go_at_call 47; have y9 := u0; clear y9; refine (tallyText_any yn nn an (by omega) (by omega) (by omega) _ S6.out.c.tab).mono ?_; rintro e v7 ⟨rfl, hb⟩; rw [ex.out]; have S7 := Lib.hid (S6.out.below hb); have y0 := keep_cell hb u0; have y1 := keep_cell hb u1; have y2 := keep_cell hb u2; clear u0 u1 u2; have s0 := S7.out.nx.1 0 _ rfl; have s1 := S7.out.nx.1 1 _ rfl; have s2 := S7.out.nx.1 2 _ rfl; have g0 := S7.out.nx.2 0; have g1 := S7.out.nx.2 1; have g2 := S7.out.nx.2 2; clear hb))
                have BX := Lib.hid (S7.out.nx.set3 (.int .i64 0) (.int .i64 0) (.int .i64 0))
                have BB : Hid (Below w.heap.size w (((v7.setCell ⟨w.heap.size, 0, none⟩ (.int .i64 0)).setCell ⟨w.heap.size, 1, none⟩ (.int .i64 0)).setCell ⟨w.heap.size, 2, none⟩ (.int .i64 0))) := Lib.hid (((S7.out.b.setCell (p := ⟨w.heap.size, 0, none⟩) (Nat.le_refl _) _).setCell (p := ⟨w.heap.size, 1, none⟩) (Nat.le_refl _) _).setCell (p := ⟨w.heap.size, 2, none⟩) (Nat.le_refl _) _)
                generalize (((v7.setCell ⟨w.heap.size, 0, none⟩ (.int .i64 0)).setCell ⟨w.heap.size, 1, none⟩ (.int .i64 0)).setCell ⟨w.heap.size, 2, none⟩ (.int .i64 0)) = V at *
                have j0 := BX.out.1 0 _ rfl
                have j1 := BX.out.1 1 _ rfl
                have j2 := BX.out.1 2 _ rfl
                refine bodyPost_ret (by simp [results, Tryd.results8, go_sem, j0, j1, j2]; try rfl) rfl ?_
                exact ⟨by rw [HR.out]; first | rfl | (simp [resT]; done), BB.out⟩
            · have HR := Lib.hid (HT.out.trans (if_neg (fun h => by rw [hv] at h; cases h.1)))
              go_wp2_with (go_at_call 46; refine (isValidTally_any y n1 a _).mono ?_; rintro e v6 ⟨rfl, hb⟩; rw [hv]; have S6 := Lib.hid (S5.out.below hb); have s0 := S6.out.nx.1 0 _ rfl; have s1 := S6.out.nx.1 1 _ rfl; have s2 := S6.out.nx.1 2 _ rfl; have g0 := S6.out.nx.2 0; have g1 := S6.out.nx.2 1; have g2 := S6.out.nx.2 2; clear hb)
              have BX := Lib.hid (S6.out.nx.set3 (.int .i64 0) (.int .i64 0) (.int .i64 0))
              have BB : Hid (Below w.heap.size w (((v6.setCell ⟨w.heap.size, 0, none⟩ (.int .i64 0)).setCell ⟨w.heap.size, 1, none⟩ (.int .i64 0)).setCell ⟨w.heap.size, 2, none⟩ (.int .i64 0))) := Lib.hid (((S6.out.b.setCell (p := ⟨w.heap.size, 0, none⟩) (Nat.le_refl _) _).setCell (p := ⟨w.heap.size, 1, none⟩) (Nat.le_refl _) _).setCell (p := ⟨w.heap.size, 2, none⟩) (Nat.le_refl _) _)
              generalize (((v6.setCell ⟨w.heap.size, 0, none⟩ (.int .i64 0)).setCell ⟨w.heap.size, 1, none⟩ (.int .i64 0)).setCell ⟨w.heap.size, 2, none⟩ (.int .i64 0)) = V at *
              have j0 := BX.out.1 0 _ rfl
              have j1 := BX.out.1 1 _ rfl
              have j2 := BX.out.1 2 _ rfl
              refine bodyPost_ret (by simp [results, Tryd.results8, go_sem, j0, j1, j2]; try rfl) rfl ?_
              exact ⟨by rw [HR.out]; first | rfl | (simp [resT]; done), BB.out⟩
end Go.Proofs.YtajfbiihlfccnaaDoor
