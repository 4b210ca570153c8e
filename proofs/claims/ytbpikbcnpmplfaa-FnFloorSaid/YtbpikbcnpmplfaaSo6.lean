/- NextSpeaker, in the program and in the reference. Conditions: the ranges named. -/
import Derived.Test.YtbpikbcnpmplfaaSo5
namespace Go.Proofs.Ytbpikbcnpmplfaa
open Go.RowKit
set_option linter.unusedVariables false
set_option linter.unusedSimpArgs false
/-- A call that returns a floor of its own, a number and a Bool. -/
def ToFIB (w : World) (f : Flr) (m : Int) (ok : Bool) (e : Ending) (w' : World) : Prop := ∃ (A : Option Addr) (c : Nat) (D : Option Addr) (d : Nat), e = .returned (.tuple #[.agg #[.int .i64 f.t, .int .i64 f.s, .int .i64 f.sp, .slice A f.wt.length c, .slice D f.sh.length d], .int .i64 m, .bool ok]) ∧ Ow IntK 3 w.heap.size w'.heap.size w' A c f.wt ∧ Ow ShareK 43 w.heap.size w'.heap.size w' D d f.sh ∧ Below w.heap.size w w'
theorem ToFIB.none_ {w w' : World} {f : Flr} {m : Int} {ok : Bool} (hf : f = zeroF) (hm : m = 0) (ho : ok = false) (hb : Below w.heap.size w w') : ToFIB w f m ok (.returned (.tuple #[.agg #[.int .i64 0, .int .i64 0, .int .i64 0, .slice none 0 0, .slice none 0 0], .int .i64 0, .bool false])) w' := by
  subst hf hm ho
  exact ⟨none, 0, none, 0, rfl, ow_nil, ow_nil, hb⟩
theorem FM.ex {t : Int → Int} {xs : List Int} : ∀ {i : Nat}, 0 < i → i ≤ xs.length → ∃ k, FM t xs i k
  | 0, h, _ => absurd h (by omega)
  | 1, _, h => ⟨0, FM.start h⟩
  | i + 2, _, h => by
    obtain ⟨k, hk⟩ := FM.ex (t := t) (xs := xs) (i := i + 1) (by omega) (by omega)
    by_cases hl : t (xs.getD (i + 1) 0) < t (xs.getD k 0)
    · exact ⟨_, hk.yes (by omega) hl⟩
    · exact ⟨_, hk.no (by omega) hl⟩
theorem FirstMin.one {t : Int → Int} {xs : List Int} {k k' : Nat} (h : FirstMin t xs k) (h' : FirstMin t xs k') : k = k' := by
  obtain ⟨a, b, c⟩ := h
  obtain ⟨a', b', c'⟩ := h'
  rcases Nat.lt_trichotomy k k' with hl | hl | hl
  · have := b' k hl; have := c k' a'; omega
  · exact hl
  · have := b k' hl; have := c' k a; omega
theorem ToFIB.fin {w W6 WF : World} {lo hi lo2 hi2 oc d1 : Nat} {O D1 : Option Addr} {ws : List Int} {sh : List Shr} {t s x : Int} (h1 : Ow IntK 3 lo hi W6 O oc ws) (h2 : Ow ShareK 43 lo2 hi2 W6 D1 d1 sh) (hl1 : w.heap.size ≤ lo) (hl2 : w.heap.size ≤ lo2) (hh1 : hi ≤ WF.heap.size) (hh2 : hi2 ≤ WF.heap.size) (hk1 : Keep lo hi W6 WF) (hk2 : Keep lo2 hi2 W6 WF) (hb : Below w.heap.size w WF) :
    ToFIB w ⟨t, s, x, ws, sh⟩ x true (.returned (.tuple #[.agg #[.int .i64 t, .int .i64 s, .int .i64 x, .slice O ws.length oc, .slice D1 sh.length d1], .int .i64 x, .bool true])) WF :=
  ⟨O, oc, D1, d1, rfl, ((h1.stay hk1).low hl1).high hh1, ((h2.stay hk2).low hl2).high hh2, hb⟩
def nxX (f : Flr) : Int := (isortT (trn f) f.wt).headD 0
def nxB (f : Flr) : Bool := vldF f && (f.sp == 0) && decide (0 < f.wt.length)
def nxF (f : Flr) : Flr := if nxB f = true then ⟨f.t, f.s, nxX f, cutAt (findI (fun x => x == nxX f) 0 f.wt).toNat f.wt, f.sh⟩ else zeroF
def nxM (f : Flr) : Int := if nxB f = true then nxX f else 0
theorem nx_no {f : Flr} (h : nxB f = false) : nxF f = zeroF ∧ nxM f = 0 := ⟨if_neg (by simp [h]), if_neg (by simp [h])⟩
theorem nx_yes {f : Flr} (h : nxB f = true) : ∃ k, ∃ hk : k < f.wt.length, FirstMin (trn f) f.wt k ∧ findI (fun x => x == nxX f) 0 f.wt = (k : Int) ∧ f.wt[k] = nxX f ∧ (∀ i (hi : i < f.wt.length), k < i → f.wt[i] ≠ nxX f) ∧ nxF f = ⟨f.t, f.s, nxX f, cutAt k f.wt, f.sh⟩ ∧ nxM f = nxX f ∧ (isortT (trn f) f.wt)[0]? = some (nxX f) := by
  have hh := h
  unfold nxB at h
  simp only [Bool.and_eq_true, decide_eq_true_eq] at h
  obtain ⟨⟨hv, _⟩, h0⟩ := h
  obtain ⟨k', hk'⟩ := FM.ex (t := trn f) h0 (Nat.le_refl _)
  have hm := hk'.fin (Nat.le_refl _)
  have hx : nxX f = f.wt[k']'hm.1 := by unfold nxX; rw [isortT_cut hm]; rfl
  have hlv : lvB f (nxX f) = true := by
    unfold lvB
    rw [hv, Bool.true_and]
    unfold hasB
    rw [List.contains_iff_mem, hx]
    exact List.getElem_mem _
  obtain ⟨k, hk, hfi, hkm, hone, _, _⟩ := lv_yes hlv
  have hkk : k' = k := by
    rcases Nat.lt_trichotomy k' k with hl | hl | hl
    · exact absurd hx.symm (lv_before hk hkm hv k' hm.1 hl)
    · exact hl
    · exact absurd hx.symm (hone k' hm.1 hl)
  subst hkk
  refine ⟨k', hk, hm, hfi, hkm, hone, ?_, if_pos hh, ?_⟩
  · unfold nxF; rw [if_pos hh, hfi]; rfl
  · rw [isortT_cut hm, hx]; rfl
set_option maxHeartbeats 2000000 in
set_option maxRecDepth 100000 in
theorem NextSpeaker_any (A D : Option Addr) (c d : Nat) (f : Flr) (w : World) (ha : Cells w A (IntK.row f.wt)) (hm0 : f.wt.length ≤ 1048576) (hcc : f.wt.length ≤ c) (hd : Cells w D (ShareK.row f.sh)) (hn : f.sh.length ≤ 1048576) :
    Calls Try.prog 23 #[.agg #[.int .i64 f.t, .int .i64 f.s, .int .i64 f.sp, .slice A f.wt.length c, .slice D f.sh.length d]] w (ToFIB w (nxF f) (nxM f) (nxB f)) := by
  have HA := Lib.hid ha
  have HD := Lib.hid hd
  clear ha hd
  have N0 := Lib.hid ((BoxF.new5 w (.int .i64 f.t) (.int .i64 f.s) (.int .i64 f.sp) (.slice A f.wt.length c) (.slice D f.sh.length d) 29 w.heap.size rfl).below (below1 (w.alloc (.cells #[.int .i64 f.t, .int .i64 f.s, .int .i64 f.sp, .slice A f.wt.length c, .slice D f.sh.length d] 29)) (.cells #[.int .i64 0, .int .i64 0, .int .i64 0, .slice none 0 0, .slice none 0 0] 29)) (by simp))
  have N2 := Lib.hid (BoxF.new5 (w.alloc (.cells #[.int .i64 f.t, .int .i64 f.s, .int .i64 f.sp, .slice A f.wt.length c, .slice D f.sh.length d] 29)) (.int .i64 0) (.int .i64 0) (.int .i64 0) (.slice none 0 0) (.slice none 0 0) 29 (w.heap.size + 1) (by simp))
  have HB := Lib.hid (below2 w (.cells #[.int .i64 f.t, .int .i64 f.s, .int .i64 f.sp, .slice A f.wt.length c, .slice D f.sh.length d] 29) (.cells #[.int .i64 0, .int .i64 0, .int .i64 0, .slice none 0 0, .slice none 0 0] 29))
  have hs : w.heap.size + 2 ≤ ((w.alloc (.cells #[.int .i64 f.t, .int .i64 f.s, .int .i64 f.sp, .slice A f.wt.length c, .slice D f.sh.length d] 29)).alloc (.cells #[.int .i64 0, .int .i64 0, .int .i64 0, .slice none 0 0, .slice none 0 0] 29)).heap.size := by simp
  go_enter Try.func23, Try.ntmps23
  go_wp2_with fail
  generalize ((w.alloc (.cells #[.int .i64 f.t, .int .i64 f.s, .int .i64 f.sp, .slice A f.wt.length c, .slice D f.sh.length d] 29)).alloc (.cells #[.int .i64 0, .int .i64 0, .int .i64 0, .slice none 0 0, .slice none 0 0] 29)) = W at *
  refine (IsValidFloor_any A D c d f W (HA.out.below HB.out) hm0 hcc (HD.out.below HB.out) hn).mono ?_
  rintro e w1 ⟨rfl, hb⟩
  have N0 := Lib.hid (N0.out.below hb (by omega))
  have N2 := Lib.hid (N2.out.below hb (by omega))
  have HB := Lib.hid (HB.out.trans (hb.mono HB.out.size))
  have hs := Nat.le_trans hs hb.size
  clear hb
  rcases Bool.eq_false_or_eq_true (vldF f) with hv | hv
  · rw [hv]
    have e00 := N0.out.1 0 _ rfl
    have e01 := N0.out.1 1 _ rfl
    have e02 := N0.out.1 2 _ rfl
    have e03 := N0.out.1 3 _ rfl
    have e04 := N0.out.1 4 _ rfl
    obtain ⟨_, _, _, h10, _⟩ := vldF_parts hv
    by_cases hsp : f.sp = 0
    · have q1 : (f.sp != 0) = false := by simp [hsp]
      have HSP := Lib.hid hsp
      clear hsp
      by_cases hl0 : f.wt.length = 0
      · have q2 : ((f.wt.length : Int) == 0) = true := by simp [hl0]
        have HLB := Lib.hid (show nxB f = false by unfold nxB; simp [hl0])
        have HNO := Lib.hid (nx_no HLB.out)
        clear hl0
        have e20 := N2.out.1 0 _ rfl
        have e21 := N2.out.1 1 _ rfl
        have e22 := N2.out.1 2 _ rfl
        have e23 := N2.out.1 3 _ rfl
        have e24 := N2.out.1 4 _ rfl
        have f20 := N2.out.2 0
        have f21 := N2.out.2 1
        have f22 := N2.out.2 2
        have f23 := N2.out.2 3
        have f24 := N2.out.2 4
        go_wp2
        have KS := N2.out.set5 (.int .i64 0) (.int .i64 0) (.int .i64 0) (.slice none 0 0) (.slice none 0 0)
        have k0 := KS.1 0 _ rfl
        have k1 := KS.1 1 _ rfl
        have k2 := KS.1 2 _ rfl
        have k3 := KS.1 3 _ rfl
        have k4 := KS.1 4 _ rfl
        refine bodyPost_ret (v := .tuple #[.agg #[.int .i64 0, .int .i64 0, .int .i64 0, .slice none 0 0, .slice none 0 0], .int .i64 0, .bool false]) (by simp [results, Try.results23, go_sem, k0, k1, k2, k3, k4]) rfl (ToFIB.none_ HNO.out.1 HNO.out.2 HLB.out ?_)
        have hb9 := HB.out
        go_grown
      · have q2 : ((f.wt.length : Int) == 0) = false := by simp; intro h; exact hl0 (by rw [h]; rfl)
        have h0 : 0 < f.wt.length := by omega
        have HLB := Lib.hid (show nxB f = true by unfold nxB; simp [hv, HSP.out]; omega)
        obtain ⟨k, hk, hfm, hfi, hkm, hone, hxf, hxm, hhd⟩ := nx_yes HLB.out
        have HFM := Lib.hid hfm
        have HFI := Lib.hid hfi
        have HKM := Lib.hid hkm
        have HONE := Lib.hid hone
        have HXF := Lib.hid hxf
        have HXM := Lib.hid hxm
        have HHD := Lib.hid hhd
        clear hfm hfi hkm hone hxf hxm hhd hl0 hv
        obtain ⟨x, hx⟩ : ∃ x, nxX f = x := ⟨_, rfl⟩
        rw [hx] at HFI HKM HONE HXF HXM HHD
        clear hx
        go_wp2_with fail
        refine (newFloor_any A D c d f _ (HA.out.below HB.out) hm0 (HD.out.below HB.out) hn).mono ?_
        rintro e w2 ⟨A1, c1, D1, d1, rfl, o1, o2, hb⟩
        clear e00 e01 e02 e03 e04
        have hlo : w.heap.size + 2 ≤ w1.heap.size := hs
        have N0 := Lib.hid (N0.out.below hb (by omega))
        have N2 := Lib.hid (N2.out.below hb (by omega))
        have HB := Lib.hid (HB.out.trans (hb.mono HB.out.size))
        have hs := Nat.le_trans hs hb.size
        have HO2 := Lib.hid o2
        clear hb o1 o2
        have M0 := N0.out.below (below1 w2 (.cells #[.int .i64 f.t, .int .i64 f.s, .int .i64 f.sp, .slice A1 f.wt.length c1, .slice D1 f.sh.length d1] 29)) (by omega)
        have m00 := M0.1 0 _ rfl
        have m01 := M0.1 1 _ rfl
        have m02 := M0.1 2 _ rfl
        have m03 := M0.1 3 _ rfl
        have m04 := M0.1 4 _ rfl
        clear M0
        have N6 := Lib.hid (BoxF.new5 w2 (.int .i64 f.t) (.int .i64 f.s) (.int .i64 f.sp) (.slice A1 f.wt.length c1) (.slice D1 f.sh.length d1) 29 w2.heap.size rfl)
        have hb := below1 w2 (.cells #[.int .i64 f.t, .int .i64 f.s, .int .i64 f.sp, .slice A1 f.wt.length c1, .slice D1 f.sh.length d1] 29)
        have hg6 : w2.heap.size < (w2.alloc (.cells #[.int .i64 f.t, .int .i64 f.s, .int .i64 f.sp, .slice A1 f.wt.length c1, .slice D1 f.sh.length d1] 29)).heap.size := by simp
        have hlo2 := hs
        have KD := Lib.hid (show Keep w1.heap.size w2.heap.size w2 (w2.alloc (.cells #[.int .i64 f.t, .int .i64 f.s, .int .i64 f.sp, .slice A1 f.wt.length c1, .slice D1 f.sh.length d1] 29)) from Keep.rfl_.alloc (Nat.le_refl _) _)
        go_wp2_with fail
        generalize (w2.alloc (.cells #[.int .i64 f.t, .int .i64 f.s, .int .i64 f.sp, .slice A1 f.wt.length c1, .slice D1 f.sh.length d1] 29)) = V at *
        have N0 := Lib.hid (N0.out.below hb (by omega))
        have N2 := Lib.hid (N2.out.below hb (by omega))
        have HB := Lib.hid (HB.out.trans (hb.mono HB.out.size))
        have hs := Nat.le_trans hs hb.size
        clear hb m00 m01 m02 m03 m04
        refine (speakingOrder_any A D c d f V (HA.out.below HB.out) (by omega) (HD.out.below HB.out) hn).mono ?_
        rintro e w4 ⟨P0, pc, rfl, ow, hb⟩
        obtain ⟨pa, hpa, hp0⟩ := int_at (Cells.of_own ow.1) (show 0 < (isortT (trn f) f.wt).length by rw [isortT_len]; omega)
        have hpx : (isortT (trn f) f.wt)[0]'(by rw [isortT_len]; omega) = x := by have h9 := HHD.out; rw [List.getElem?_eq_getElem (by rw [isortT_len]; omega)] at h9; exact Option.some.inj h9
        rw [hpx] at hp0
        subst hpa
        have hp1 : w4.cell? pa = some (.int .i64 x) := by have h9 := hp0; unfold Addr.add at h9; simpa using h9
        have il : (0 : Int) < ((isortT (trn f) f.wt).length : Int) := by rw [isortT_len]; omega
        have KD := Lib.hid (KD.out.below hb (by omega))
        have N6 := Lib.hid (N6.out.below hb (by omega))
        have hg6 := Nat.lt_of_lt_of_le hg6 hb.size
        have N0 := Lib.hid (N0.out.below hb (by omega))
        have N2 := Lib.hid (N2.out.below hb (by omega))
        have HB := Lib.hid (HB.out.trans (hb.mono HB.out.size))
        have hs := Nat.le_trans hs hb.size
        clear hb ow hpx
        have e00 := N0.out.1 0 _ rfl
        have e01 := N0.out.1 1 _ rfl
        have e02 := N0.out.1 2 _ rfl
        have e03 := N0.out.1 3 _ rfl
        have e04 := N0.out.1 4 _ rfl
        have e60 := N6.out.1 0 _ rfl
        have e61 := N6.out.1 1 _ rfl
        have e62 := N6.out.1 2 _ rfl
        have e63 := N6.out.1 3 _ rfl
        have e64 := N6.out.1 4 _ rfl
        have f60 := N6.out.2 0
        have f61 := N6.out.2 1
        have f62 := N6.out.2 2
        have f63 := N6.out.2 3
        have f64 := N6.out.2 4
        have hst : Below w2.heap.size w4 (w4.setCell ⟨w2.heap.size, 2, none⟩ (.int .i64 x)) := by go_grown
        have NX := N6.out.set (k := 2) (by simp) (.int .i64 x)
        have M0 := N0.out.below hst (by omega)
        have m3 := M0.1 3 _ rfl
        have x2 := NX.1 2 _ rfl
        go_wp2_with fail
        clear e00 e01 e02 e03 e04 e60 e61 e62 e63 e64 f60 f61 f62 f63 f64
        clear m3 x2 M0
        have N6 := Lib.hid NX
        have hb := hst
        clear hst NX
        have HB5 := Lib.hid (HB.out.trans (hb.mono (by have := HB.out.size; omega)))
        have hgs : w4.heap.size ≤ (w4.setCell ⟨w2.heap.size, 2, none⟩ (.int .i64 x)).heap.size := hb.size
        have KD := Lib.hid (KD.out.set (p := ⟨w2.heap.size, 2, none⟩) (.inr (Nat.le_refl _)) (.int .i64 x))
        have N2 := Lib.hid (N2.out.below hb (by omega))
        have N0 := Lib.hid (N0.out.below hb (by omega))
        have HB := HB5
        have hs := Nat.le_trans hs hb.size
        have hg6 := Nat.lt_of_lt_of_le hg6 hgs
        clear hb HB5 hgs
        generalize w4.setCell ⟨w2.heap.size, 2, none⟩ (.int .i64 x) = V5 at *
        refine (without_any A c k f.wt x V5 (HA.out.below HB.out) (by omega) hk HONE.out HFI.out).mono ?_
        rintro e w3 ⟨O, oc, rfl, o3, hb⟩
        have hg7 := Nat.lt_of_lt_of_le hg6 hb.size
        have KD := Lib.hid (KD.out.below hb (by omega))
        have HO3 := Lib.hid o3
        clear o3
        have hV3 := hb.size
        have N0 := Lib.hid (N0.out.below hb (by omega))
        have N2 := Lib.hid (N2.out.below hb (by omega))
        have HB := Lib.hid (HB.out.trans (hb.mono HB.out.size))
        have hs := Nat.le_trans hs hb.size
        have N6 := Lib.hid (N6.out.below hb (by omega))
        clear hb
        have e60 := N6.out.1 0 _ rfl
        have e61 := N6.out.1 1 _ rfl
        have e62 := N6.out.1 2 _ rfl
        have e63 := N6.out.1 3 _ rfl
        have e64 := N6.out.1 4 _ rfl
        have f60 := N6.out.2 0
        have f61 := N6.out.2 1
        have f62 := N6.out.2 2
        have f63 := N6.out.2 3
        have f64 := N6.out.2 4
        have hst : Below w2.heap.size w3 (w3.setCell ⟨w2.heap.size, 3, none⟩ (.slice O (cutAt k f.wt).length oc)) := by go_grown
        have NS := Lib.hid (N6.out.set (k := 3) (by simp) (.slice O (cutAt k f.wt).length oc))
        have N2 := Lib.hid (N2.out.below hst (by omega))
        have N0 := Lib.hid (N0.out.below hst (by omega))
        have HO6 := Lib.hid (HO3.out.stay (Keep.rfl_.set (p := ⟨w2.heap.size, 3, none⟩) (.inl hg6) (.slice O (cutAt k f.wt).length oc)))
        have HO26 := Lib.hid (HO2.out.stay (KD.out.set (p := ⟨w2.heap.size, 3, none⟩) (.inr (Nat.le_refl _)) (.slice O (cutAt k f.wt).length oc)))
        have HB6 := Lib.hid (HB.out.trans (hst.mono (by omega)))
        have hs6 : w3.heap.size ≤ (w3.setCell ⟨w2.heap.size, 3, none⟩ (.slice O (cutAt k f.wt).length oc)).heap.size := by simp
        go_wp2_with fail
        clear hst e60 f60 e61 f61 e62 f62 e63 f63 e64 f64
        generalize (w3.setCell ⟨w2.heap.size, 3, none⟩ (.slice O (cutAt k f.wt).length oc)) = W6 at *
        have s0 := NS.out.1 0 _ rfl
        have s1 := NS.out.1 1 _ rfl
        have s2 := NS.out.1 2 _ rfl
        have s3 := NS.out.1 3 _ rfl
        have s4 := NS.out.1 4 _ rfl
        have e20 := N2.out.1 0 _ rfl
        have e21 := N2.out.1 1 _ rfl
        have e22 := N2.out.1 2 _ rfl
        have e23 := N2.out.1 3 _ rfl
        have e24 := N2.out.1 4 _ rfl
        have f20 := N2.out.2 0
        have f21 := N2.out.2 1
        have f22 := N2.out.2 2
        have f23 := N2.out.2 3
        have f24 := N2.out.2 4
        have hl1 : w.heap.size ≤ V5.heap.size := by omega
        have hl2 : w.heap.size ≤ w1.heap.size := by omega
        have hl3 : w.heap.size + 1 < w1.heap.size := by omega
        have hl4 : w.heap.size + 1 < V5.heap.size := by omega
        have hl5 : w2.heap.size ≤ W6.heap.size := by omega
        go_big_region
        have KS := N2.out.set5 (.int .i64 f.t) (.int .i64 f.s) (.int .i64 x) (.slice O (cutAt k f.wt).length oc) (.slice D1 f.sh.length d1)
        have k0 := KS.1 0 _ rfl
        have k1 := KS.1 1 _ rfl
        have k2 := KS.1 2 _ rfl
        have k3 := KS.1 3 _ rfl
        have k4 := KS.1 4 _ rfl
        go_wp2
        refine bodyPost_ret (v := .tuple #[.agg #[.int .i64 f.t, .int .i64 f.s, .int .i64 x, .slice O (cutAt k f.wt).length oc, .slice D1 f.sh.length d1], .int .i64 x, .bool true]) (by simp [results, Try.results23, go_sem, k0, k1, k2, k3, k4]) rfl ?_
        rw [HLB.out, HXF.out, HXM.out]
        have hb9 := HB6.out
        refine ToFIB.fin HO6.out HO26.out hl1 hl2 ?_ ?_ ?_ ?_ ?_
        · simp; omega
        · simp; omega
        · (repeat (first | with_reducible exact Keep.rfl_ | with_reducible refine Keep.drew ?_ | with_reducible refine Keep.set ?_ (.inl ?_) _)) <;> (show w.heap.size + 1 < _; exact hl4)
        · (repeat (first | with_reducible exact Keep.rfl_ | with_reducible refine Keep.drew ?_ | with_reducible refine Keep.set ?_ (.inl ?_) _)) <;> (show w.heap.size + 1 < _; exact hl3)
        · go_grown
    · have q1 : (f.sp != 0) = true := by simp [hsp]
      have HLB := Lib.hid (show nxB f = false by unfold nxB; simp [hsp])
      have HNO := Lib.hid (nx_no HLB.out)
      clear hsp
      have e20 := N2.out.1 0 _ rfl
      have e21 := N2.out.1 1 _ rfl
      have e22 := N2.out.1 2 _ rfl
      have e23 := N2.out.1 3 _ rfl
      have e24 := N2.out.1 4 _ rfl
      have f20 := N2.out.2 0
      have f21 := N2.out.2 1
      have f22 := N2.out.2 2
      have f23 := N2.out.2 3
      have f24 := N2.out.2 4
      go_wp2
      have KS := N2.out.set5 (.int .i64 0) (.int .i64 0) (.int .i64 0) (.slice none 0 0) (.slice none 0 0)
      have k0 := KS.1 0 _ rfl
      have k1 := KS.1 1 _ rfl
      have k2 := KS.1 2 _ rfl
      have k3 := KS.1 3 _ rfl
      have k4 := KS.1 4 _ rfl
      refine bodyPost_ret (v := .tuple #[.agg #[.int .i64 0, .int .i64 0, .int .i64 0, .slice none 0 0, .slice none 0 0], .int .i64 0, .bool false]) (by simp [results, Try.results23, go_sem, k0, k1, k2, k3, k4]) rfl (ToFIB.none_ HNO.out.1 HNO.out.2 HLB.out ?_)
      have hb9 := HB.out
      go_grown
  · rw [hv]
    have HLB := Lib.hid (show nxB f = false by unfold nxB; rw [hv]; rfl)
    have HNO := Lib.hid (nx_no HLB.out)
    have e20 := N2.out.1 0 _ rfl
    have e21 := N2.out.1 1 _ rfl
    have e22 := N2.out.1 2 _ rfl
    have e23 := N2.out.1 3 _ rfl
    have e24 := N2.out.1 4 _ rfl
    have f20 := N2.out.2 0
    have f21 := N2.out.2 1
    have f22 := N2.out.2 2
    have f23 := N2.out.2 3
    have f24 := N2.out.2 4
    go_wp2
    have KS := N2.out.set5 (.int .i64 0) (.int .i64 0) (.int .i64 0) (.slice none 0 0) (.slice none 0 0)
    have k0 := KS.1 0 _ rfl
    have k1 := KS.1 1 _ rfl
    have k2 := KS.1 2 _ rfl
    have k3 := KS.1 3 _ rfl
    have k4 := KS.1 4 _ rfl
    refine bodyPost_ret (v := .tuple #[.agg #[.int .i64 0, .int .i64 0, .int .i64 0, .slice none 0 0, .slice none 0 0], .int .i64 0, .bool false]) (by simp [results, Try.results23, go_sem, k0, k1, k2, k3, k4]) rfl (ToFIB.none_ HNO.out.1 HNO.out.2 HLB.out ?_)
    have hb9 := HB.out
    go_grown
set_option maxHeartbeats 2000000 in
set_option maxRecDepth 100000 in
theorem sNextSpeaker_any (A D : Option Addr) (c d : Nat) (f : Flr) (w : World) (ha : Cells w A (IntK.row f.wt)) (hm0 : f.wt.length ≤ 1048576) (hcc : f.wt.length ≤ c) (hd : Cells w D (ShareK.row f.sh)) (hn : f.sh.length ≤ 1048576) :
    Calls Try.prog 37 #[.agg #[.int .i64 f.t, .int .i64 f.s, .int .i64 f.sp, .slice A f.wt.length c, .slice D f.sh.length d]] w (ToFIB w (nxF f) (nxM f) (nxB f)) := by
  have HA := Lib.hid ha
  have HD := Lib.hid hd
  clear ha hd
  have N0 := Lib.hid ((BoxF.new5 w (.int .i64 f.t) (.int .i64 f.s) (.int .i64 f.sp) (.slice A f.wt.length c) (.slice D f.sh.length d) 29 w.heap.size rfl).below (below1 (w.alloc (.cells #[.int .i64 f.t, .int .i64 f.s, .int .i64 f.sp, .slice A f.wt.length c, .slice D f.sh.length d] 29)) (.cells #[.int .i64 0, .int .i64 0, .int .i64 0, .slice none 0 0, .slice none 0 0] 29)) (by simp))
  have N2 := Lib.hid (BoxF.new5 (w.alloc (.cells #[.int .i64 f.t, .int .i64 f.s, .int .i64 f.sp, .slice A f.wt.length c, .slice D f.sh.length d] 29)) (.int .i64 0) (.int .i64 0) (.int .i64 0) (.slice none 0 0) (.slice none 0 0) 29 (w.heap.size + 1) (by simp))
  have HB := Lib.hid (below2 w (.cells #[.int .i64 f.t, .int .i64 f.s, .int .i64 f.sp, .slice A f.wt.length c, .slice D f.sh.length d] 29) (.cells #[.int .i64 0, .int .i64 0, .int .i64 0, .slice none 0 0, .slice none 0 0] 29))
  have hs : w.heap.size + 2 ≤ ((w.alloc (.cells #[.int .i64 f.t, .int .i64 f.s, .int .i64 f.sp, .slice A f.wt.length c, .slice D f.sh.length d] 29)).alloc (.cells #[.int .i64 0, .int .i64 0, .int .i64 0, .slice none 0 0, .slice none 0 0] 29)).heap.size := by simp
  go_enter Try.func37, Try.ntmps37
  go_wp2_with fail
  generalize ((w.alloc (.cells #[.int .i64 f.t, .int .i64 f.s, .int .i64 f.sp, .slice A f.wt.length c, .slice D f.sh.length d] 29)).alloc (.cells #[.int .i64 0, .int .i64 0, .int .i64 0, .slice none 0 0, .slice none 0 0] 29)) = W at *
  refine (l8Good_any A D c d f W (HA.out.below HB.out) hm0 hcc (HD.out.below HB.out) hn).mono ?_
  rintro e w1 ⟨rfl, hb⟩
  have N0 := Lib.hid (N0.out.below hb (by omega))
  have N2 := Lib.hid (N2.out.below hb (by omega))
  have HB := Lib.hid (HB.out.trans (hb.mono HB.out.size))
  have hs := Nat.le_trans hs hb.size
  clear hb
  rcases Bool.eq_false_or_eq_true (vldF f) with hv | hv
  · rw [hv]
    have e00 := N0.out.1 0 _ rfl
    have e01 := N0.out.1 1 _ rfl
    have e02 := N0.out.1 2 _ rfl
    have e03 := N0.out.1 3 _ rfl
    have e04 := N0.out.1 4 _ rfl
    obtain ⟨_, _, _, h10, _⟩ := vldF_parts hv
    by_cases hsp : f.sp = 0
    · have q1 : (f.sp != 0) = false := by simp [hsp]
      have HSP := Lib.hid hsp
      clear hsp
      by_cases hl0 : f.wt.length = 0
      · have q2 : ((f.wt.length : Int) == 0) = true := by simp [hl0]
        have HLB := Lib.hid (show nxB f = false by unfold nxB; simp [hl0])
        have HNO := Lib.hid (nx_no HLB.out)
        clear hl0
        have e20 := N2.out.1 0 _ rfl
        have e21 := N2.out.1 1 _ rfl
        have e22 := N2.out.1 2 _ rfl
        have e23 := N2.out.1 3 _ rfl
        have e24 := N2.out.1 4 _ rfl
        have f20 := N2.out.2 0
        have f21 := N2.out.2 1
        have f22 := N2.out.2 2
        have f23 := N2.out.2 3
        have f24 := N2.out.2 4
        go_wp2
        have KS := N2.out.set5 (.int .i64 0) (.int .i64 0) (.int .i64 0) (.slice none 0 0) (.slice none 0 0)
        have k0 := KS.1 0 _ rfl
        have k1 := KS.1 1 _ rfl
        have k2 := KS.1 2 _ rfl
        have k3 := KS.1 3 _ rfl
        have k4 := KS.1 4 _ rfl
        refine bodyPost_ret (v := .tuple #[.agg #[.int .i64 0, .int .i64 0, .int .i64 0, .slice none 0 0, .slice none 0 0], .int .i64 0, .bool false]) (by simp [results, Try.results37, go_sem, k0, k1, k2, k3, k4]) rfl (ToFIB.none_ HNO.out.1 HNO.out.2 HLB.out ?_)
        have hb9 := HB.out
        go_grown
      · have q2 : ((f.wt.length : Int) == 0) = false := by simp; intro h; exact hl0 (by rw [h]; rfl)
        have h0 : 0 < f.wt.length := by omega
        have HLB := Lib.hid (show nxB f = true by unfold nxB; simp [hv, HSP.out]; omega)
        obtain ⟨k, hk, hfm, hfi, hkm, hone, hxf, hxm, hhd⟩ := nx_yes HLB.out
        have HFM := Lib.hid hfm
        have HFI := Lib.hid hfi
        have HKM := Lib.hid hkm
        have HONE := Lib.hid hone
        have HXF := Lib.hid hxf
        have HXM := Lib.hid hxm
        have HHD := Lib.hid hhd
        clear hfm hfi hkm hone hxf hxm hhd hl0 hv
        obtain ⟨x, hx⟩ : ∃ x, nxX f = x := ⟨_, rfl⟩
        rw [hx] at HFI HKM HONE HXF HXM HHD
        clear hx
        go_wp2_with fail
        refine (l8Next_any A D c d f _ (HA.out.below HB.out) h0 (by omega) (HD.out.below HB.out) hn).mono ?_
        rintro e wn ⟨⟨k', rfl, hfm'⟩, hb⟩
        obtain rfl : k = k' := HFM.out.one hfm'
        clear hfm'
        clear e00 e01 e02 e03 e04
        have N0 := Lib.hid (N0.out.below hb (by omega))
        have N2 := Lib.hid (N2.out.below hb (by omega))
        have HB := Lib.hid (HB.out.trans (hb.mono HB.out.size))
        have hs := Nat.le_trans hs hb.size
        clear hb
        have e00 := N0.out.1 0 _ rfl
        have e01 := N0.out.1 1 _ rfl
        have e02 := N0.out.1 2 _ rfl
        have e03 := N0.out.1 3 _ rfl
        have e04 := N0.out.1 4 _ rfl
        go_wp2_with fail
        refine (l8Own_any A D c d f _ (HA.out.below HB.out) hm0 (HD.out.below HB.out) hn).mono ?_
        rintro e w2 ⟨A1, c1, D1, d1, rfl, o1, o2, hb⟩
        clear e00 e01 e02 e03 e04
        have hlo : w.heap.size + 2 ≤ wn.heap.size := hs
        have N0 := Lib.hid (N0.out.below hb (by omega))
        have N2 := Lib.hid (N2.out.below hb (by omega))
        have HB := Lib.hid (HB.out.trans (hb.mono HB.out.size))
        have hs := Nat.le_trans hs hb.size
        have HO2 := Lib.hid o2
        clear hb o1 o2
        have m03 := (N0.out.below (below1 w2 (.cells #[.int .i64 f.t, .int .i64 f.s, .int .i64 f.sp, .slice A1 f.wt.length c1, .slice D1 f.sh.length d1] 29)) (by omega)).1 3 _ rfl
        have x03 := (N0.out.below (below1 w2 (.cells #[.int .i64 f.t, .int .i64 f.s, .int .i64 x, .slice A1 f.wt.length c1, .slice D1 f.sh.length d1] 29)) (by omega)).1 3 _ rfl
        have N6 := Lib.hid (BoxF.new5 w2 (.int .i64 f.t) (.int .i64 f.s) (.int .i64 x) (.slice A1 f.wt.length c1) (.slice D1 f.sh.length d1) 29 w2.heap.size rfl)
        have hb := below1 w2 (.cells #[.int .i64 f.t, .int .i64 f.s, .int .i64 x, .slice A1 f.wt.length c1, .slice D1 f.sh.length d1] 29)
        have hg6 : w2.heap.size < (w2.alloc (.cells #[.int .i64 f.t, .int .i64 f.s, .int .i64 x, .slice A1 f.wt.length c1, .slice D1 f.sh.length d1] 29)).heap.size := by simp
        have hlo2 := hs
        have KD := Lib.hid (show Keep wn.heap.size w2.heap.size w2 (w2.alloc (.cells #[.int .i64 f.t, .int .i64 f.s, .int .i64 x, .slice A1 f.wt.length c1, .slice D1 f.sh.length d1] 29)) from Keep.rfl_.alloc (Nat.le_refl _) _)
        obtain ⟨a, hAa, hck⟩ := int_at ((HA.out.below HB.out).below (below1 w2 (.cells #[.int .i64 f.t, .int .i64 f.s, .int .i64 f.sp, .slice A1 f.wt.length c1, .slice D1 f.sh.length d1] 29))) hk
        rw [HKM.out] at hck
        have i1 : (k : Int) < (f.wt.length : Int) := by omega
        subst hAa
        go_wp2_with fail
        generalize (w2.alloc (.cells #[.int .i64 f.t, .int .i64 f.s, .int .i64 x, .slice A1 f.wt.length c1, .slice D1 f.sh.length d1] 29)) = V5 at *
        have N0 := Lib.hid (N0.out.below hb (by omega))
        have N2 := Lib.hid (N2.out.below hb (by omega))
        have HB := Lib.hid (HB.out.trans (hb.mono HB.out.size))
        have hs := Nat.le_trans hs hb.size
        clear hb hck x03
        refine (l8Without_any (some a) c k f.wt V5 (HA.out.below HB.out) (by omega) hcc hk).mono ?_
        rintro e w3 ⟨O, oc, rfl, o3, hb⟩
        have hg7 := Nat.lt_of_lt_of_le hg6 hb.size
        have KD := Lib.hid (KD.out.below hb (by omega))
        have HO3 := Lib.hid o3
        clear o3
        have hV3 := hb.size
        have N0 := Lib.hid (N0.out.below hb (by omega))
        have N2 := Lib.hid (N2.out.below hb (by omega))
        have HB := Lib.hid (HB.out.trans (hb.mono HB.out.size))
        have hs := Nat.le_trans hs hb.size
        have N6 := Lib.hid (N6.out.below hb (by omega))
        clear hb
        have e60 := N6.out.1 0 _ rfl
        have e61 := N6.out.1 1 _ rfl
        have e62 := N6.out.1 2 _ rfl
        have e63 := N6.out.1 3 _ rfl
        have e64 := N6.out.1 4 _ rfl
        have f60 := N6.out.2 0
        have f61 := N6.out.2 1
        have f62 := N6.out.2 2
        have f63 := N6.out.2 3
        have f64 := N6.out.2 4
        have hst : Below w2.heap.size w3 (w3.setCell ⟨w2.heap.size, 3, none⟩ (.slice O (cutAt k f.wt).length oc)) := by go_grown
        have NS := Lib.hid (N6.out.set (k := 3) (by simp) (.slice O (cutAt k f.wt).length oc))
        have N2 := Lib.hid (N2.out.below hst (by omega))
        have N0 := Lib.hid (N0.out.below hst (by omega))
        have HO6 := Lib.hid (HO3.out.stay (Keep.rfl_.set (p := ⟨w2.heap.size, 3, none⟩) (.inl hg6) (.slice O (cutAt k f.wt).length oc)))
        have HO26 := Lib.hid (HO2.out.stay (KD.out.set (p := ⟨w2.heap.size, 3, none⟩) (.inr (Nat.le_refl _)) (.slice O (cutAt k f.wt).length oc)))
        have HB6 := Lib.hid (HB.out.trans (hst.mono (by omega)))
        have hs6 : w3.heap.size ≤ (w3.setCell ⟨w2.heap.size, 3, none⟩ (.slice O (cutAt k f.wt).length oc)).heap.size := by simp
        go_wp2_with fail
        clear hst e60 f60 e61 f61 e62 f62 e63 f63 e64 f64
        generalize (w3.setCell ⟨w2.heap.size, 3, none⟩ (.slice O (cutAt k f.wt).length oc)) = W6 at *
        have s0 := NS.out.1 0 _ rfl
        have s1 := NS.out.1 1 _ rfl
        have s2 := NS.out.1 2 _ rfl
        have s3 := NS.out.1 3 _ rfl
        have s4 := NS.out.1 4 _ rfl
        have e20 := N2.out.1 0 _ rfl
        have e21 := N2.out.1 1 _ rfl
        have e22 := N2.out.1 2 _ rfl
        have e23 := N2.out.1 3 _ rfl
        have e24 := N2.out.1 4 _ rfl
        have f20 := N2.out.2 0
        have f21 := N2.out.2 1
        have f22 := N2.out.2 2
        have f23 := N2.out.2 3
        have f24 := N2.out.2 4
        have e03 := N0.out.1 3 _ rfl
        obtain ⟨a2, h8, hck2⟩ := int_at (HA.out.below HB6.out) hk
        obtain rfl := Option.some.inj h8
        rw [HKM.out] at hck2
        have hlk : (a.add k).block < w.heap.size := by (obtain ⟨a4, h5, h6⟩ := int_at HA.out hk); (obtain rfl := Option.some.inj h5); exact World.block_lt_of_cell? _ _ h6
        have hfar : ∀ (U : World) (i : Nat) (v : Value), (U.setCell ⟨w.heap.size + 1, i, none⟩ v).cell? (a.add k) = U.cell? (a.add k) := fun U i v => World.cell?_of_block (Below.heap_setCell _ _ _ _ (by show (a.add k).block ≠ _; simp only []; omega))
        have hl1 : w.heap.size ≤ V5.heap.size := by omega
        have hl2 : w.heap.size ≤ wn.heap.size := by omega
        have hl3 : w.heap.size + 1 < wn.heap.size := by omega
        have hl4 : w.heap.size + 1 < V5.heap.size := by omega
        have hl5 : w2.heap.size ≤ W6.heap.size := by omega
        go_big_region
        have KS := N2.out.set5 (.int .i64 f.t) (.int .i64 f.s) (.int .i64 x) (.slice O (cutAt k f.wt).length oc) (.slice D1 f.sh.length d1)
        have k0 := KS.1 0 _ rfl
        have k1 := KS.1 1 _ rfl
        have k2 := KS.1 2 _ rfl
        have k3 := KS.1 3 _ rfl
        have k4 := KS.1 4 _ rfl
        go_wp2
        refine bodyPost_ret (v := .tuple #[.agg #[.int .i64 f.t, .int .i64 f.s, .int .i64 x, .slice O (cutAt k f.wt).length oc, .slice D1 f.sh.length d1], .int .i64 x, .bool true]) (by simp [results, Try.results37, go_sem, k0, k1, k2, k3, k4]) rfl ?_
        rw [HLB.out, HXF.out, HXM.out]
        have hb9 := HB6.out
        refine ToFIB.fin HO6.out HO26.out hl1 hl2 ?_ ?_ ?_ ?_ ?_
        · simp; omega
        · simp; omega
        · (repeat (first | with_reducible exact Keep.rfl_ | with_reducible refine Keep.drew ?_ | with_reducible refine Keep.set ?_ (.inl ?_) _)) <;> (show w.heap.size + 1 < _; exact hl4)
        · (repeat (first | with_reducible exact Keep.rfl_ | with_reducible refine Keep.drew ?_ | with_reducible refine Keep.set ?_ (.inl ?_) _)) <;> (show w.heap.size + 1 < _; exact hl3)
        · go_grown
    · have q1 : (f.sp != 0) = true := by simp [hsp]
      have HLB := Lib.hid (show nxB f = false by unfold nxB; simp [hsp])
      have HNO := Lib.hid (nx_no HLB.out)
      clear hsp
      have e20 := N2.out.1 0 _ rfl
      have e21 := N2.out.1 1 _ rfl
      have e22 := N2.out.1 2 _ rfl
      have e23 := N2.out.1 3 _ rfl
      have e24 := N2.out.1 4 _ rfl
      have f20 := N2.out.2 0
      have f21 := N2.out.2 1
      have f22 := N2.out.2 2
      have f23 := N2.out.2 3
      have f24 := N2.out.2 4
      go_wp2
      have KS := N2.out.set5 (.int .i64 0) (.int .i64 0) (.int .i64 0) (.slice none 0 0) (.slice none 0 0)
      have k0 := KS.1 0 _ rfl
      have k1 := KS.1 1 _ rfl
      have k2 := KS.1 2 _ rfl
      have k3 := KS.1 3 _ rfl
      have k4 := KS.1 4 _ rfl
      refine bodyPost_ret (v := .tuple #[.agg #[.int .i64 0, .int .i64 0, .int .i64 0, .slice none 0 0, .slice none 0 0], .int .i64 0, .bool false]) (by simp [results, Try.results37, go_sem, k0, k1, k2, k3, k4]) rfl (ToFIB.none_ HNO.out.1 HNO.out.2 HLB.out ?_)
      have hb9 := HB.out
      go_grown
  · rw [hv]
    have HLB := Lib.hid (show nxB f = false by unfold nxB; rw [hv]; rfl)
    have HNO := Lib.hid (nx_no HLB.out)
    have e20 := N2.out.1 0 _ rfl
    have e21 := N2.out.1 1 _ rfl
    have e22 := N2.out.1 2 _ rfl
    have e23 := N2.out.1 3 _ rfl
    have e24 := N2.out.1 4 _ rfl
    have f20 := N2.out.2 0
    have f21 := N2.out.2 1
    have f22 := N2.out.2 2
    have f23 := N2.out.2 3
    have f24 := N2.out.2 4
    go_wp2
    have KS := N2.out.set5 (.int .i64 0) (.int .i64 0) (.int .i64 0) (.slice none 0 0) (.slice none 0 0)
    have k0 := KS.1 0 _ rfl
    have k1 := KS.1 1 _ rfl
    have k2 := KS.1 2 _ rfl
    have k3 := KS.1 3 _ rfl
    have k4 := KS.1 4 _ rfl
    refine bodyPost_ret (v := .tuple #[.agg #[.int .i64 0, .int .i64 0, .int .i64 0, .slice none 0 0, .slice none 0 0], .int .i64 0, .bool false]) (by simp [results, Try.results37, go_sem, k0, k1, k2, k3, k4]) rfl (ToFIB.none_ HNO.out.1 HNO.out.2 HLB.out ?_)
    have hb9 := HB.out
    go_grown
end Go.Proofs.Ytbpikbcnpmplfaa
