/- Who asks for the floor, in the program and in the reference. Conditions: the ranges named. -/
import Derived.Test.YtbpikbcnpmplfaaFlN
import Derived.Test.YtbpikbcnpmplfaaFlE2
namespace Go.Proofs.Ytbpikbcnpmplfaa
open Go.RowKit
set_option linter.unusedVariables false

def asB (f : Flr) (m : Int) : Bool := vldF f && memB m && !(m == f.sp) && !hasB m f.wt && entB f m && !((f.wt.length : Int) == 10)
def asF (f : Flr) (m : Int) : Flr := if asB f m then ⟨f.t, f.s, f.sp, f.wt ++ [m], f.sh⟩ else zeroF
set_option maxHeartbeats 4000000 in
theorem AskFloor_any (A D : Option Addr) (c d : Nat) (f : Flr) (m : Int) (w : World) (ha : Cells w A (IntK.row f.wt)) (hm0 : f.wt.length ≤ 1048576) (hcc : f.wt.length ≤ c) (hd : Cells w D (ShareK.row f.sh)) (hn : f.sh.length ≤ 1048576) :
    Calls Try.prog 31 #[.agg #[.int .i64 f.t, .int .i64 f.s, .int .i64 f.sp, .slice A f.wt.length c, .slice D f.sh.length d], .int .i64 m] w (ToFB w (asF f m) (asB f m)) := by
  have HA := Lib.hid ha
  have HD := Lib.hid hd
  clear ha hd
  rcases Bool.eq_false_or_eq_true (vldF f) with hv | hv
  · rcases Bool.eq_false_or_eq_true (memB m) with hm | hm
    · rcases Bool.eq_false_or_eq_true (m == f.sp) with hs | hs
      · have HK := Lib.hid (show asB f m = false by unfold asB; rw [hs]; simp)
        have HF := Lib.hid (show asF f m = zeroF by unfold asF; rw [HK.out]; rfl)
        go_enter Try.func31, Try.ntmps31
        go_wp2_with fail
        refine (IsValidFloor_any A D c d f _ ((HA.out.alloc_ _).alloc_ _) hm0 hcc ((HD.out.alloc_ _).alloc_ _) hn).mono ?_
        rintro e w1 ⟨rfl, hb⟩
        rw [hv]
        obtain ⟨hc, hfz⟩ := bcell hb
        have hB := Lib.hid (after (w := w) (by go_grown) hb)
        have hz : w.heap.size + 1 < w1.heap.size := by have := hb.size; simp at this; omega
        have hz0 : w.heap.size < w1.heap.size := by omega
        have h0 := fun o => hc w.heap.size o (by simp; omega)
        have h1 := fun o => hc (w.heap.size + 1) o (by simp)
        have f1 := fun o => hfz (w.heap.size + 1) o (by simp)
        clear hc hfz hb hv
        go_wp2_with (first | (go_at_call 63; refine (isMember_any _ _).mono ?_; rintro e w2 ⟨rfl, rfl⟩) | (go_at_call 64; refine (containsInt_any _ _ _ f.wt _ _ rfl (HA.out.below hB.out) hm0).mono ?_; rintro e w2 ⟨rfl, rfl⟩))
        refine bodyPost_ret (v := .tuple #[.agg #[.int .i64 0, .int .i64 0, .int .i64 0, .slice none 0 0, .slice none 0 0], .bool false]) (by simp [results, Try.results31, go_sem, h1]) rfl (ToFB.none_ HF.out HK.out ?_)
        have := hB.out
        go_grown
      · rcases Bool.eq_false_or_eq_true (hasB m f.wt) with hh | hh
        · have HK := Lib.hid (show asB f m = false by unfold asB; rw [hh]; simp)
          have HF := Lib.hid (show asF f m = zeroF by unfold asF; rw [HK.out]; rfl)
          go_enter Try.func31, Try.ntmps31
          go_wp2_with fail
          refine (IsValidFloor_any A D c d f _ ((HA.out.alloc_ _).alloc_ _) hm0 hcc ((HD.out.alloc_ _).alloc_ _) hn).mono ?_
          rintro e w1 ⟨rfl, hb⟩
          rw [hv]
          obtain ⟨hc, hfz⟩ := bcell hb
          have hB := Lib.hid (after (w := w) (by go_grown) hb)
          have hz : w.heap.size + 1 < w1.heap.size := by have := hb.size; simp at this; omega
          have hz0 : w.heap.size < w1.heap.size := by omega
          have h0 := fun o => hc w.heap.size o (by simp; omega)
          have h1 := fun o => hc (w.heap.size + 1) o (by simp)
          have f1 := fun o => hfz (w.heap.size + 1) o (by simp)
          clear hc hfz hb hv
          go_wp2_with (first | (go_at_call 63; refine (isMember_any _ _).mono ?_; rintro e w2 ⟨rfl, rfl⟩) | (go_at_call 64; refine (containsInt_any _ _ _ f.wt _ _ rfl (HA.out.below hB.out) hm0).mono ?_; rintro e w2 ⟨rfl, rfl⟩))
          refine bodyPost_ret (v := .tuple #[.agg #[.int .i64 0, .int .i64 0, .int .i64 0, .slice none 0 0, .slice none 0 0], .bool false]) (by simp [results, Try.results31, go_sem, h1]) rfl (ToFB.none_ HF.out HK.out ?_)
          have := hB.out
          go_grown
        · rcases Bool.eq_false_or_eq_true (entB f m) with he | he
          · rcases Bool.eq_false_or_eq_true ((f.wt.length : Int) == 10) with hl | hl
            · have HK := Lib.hid (show asB f m = false by unfold asB; rw [hl]; simp)
              have HF := Lib.hid (show asF f m = zeroF by unfold asF; rw [HK.out]; rfl)
              go_enter Try.func31, Try.ntmps31
              go_wp2_with fail
              refine (IsValidFloor_any A D c d f _ ((HA.out.alloc_ _).alloc_ _) hm0 hcc ((HD.out.alloc_ _).alloc_ _) hn).mono ?_
              rintro e w1 ⟨rfl, hb⟩
              rw [hv]
              obtain ⟨hc, hfz⟩ := bcell hb
              have hB := Lib.hid (after (w := w) (by go_grown) hb)
              have hz : w.heap.size + 1 < w1.heap.size := by have := hb.size; simp at this; omega
              have hz0 : w.heap.size < w1.heap.size := by omega
              have h0 := fun o => hc w.heap.size o (by simp; omega)
              have h1 := fun o => hc (w.heap.size + 1) o (by simp)
              have f1 := fun o => hfz (w.heap.size + 1) o (by simp)
              clear hc hfz hb hv
              go_wp2_with (first | (go_at_call 63; refine (isMember_any _ _).mono ?_; rintro e w2 ⟨rfl, rfl⟩) | (go_at_call 64; refine (containsInt_any _ _ _ f.wt _ _ rfl (HA.out.below hB.out) hm0).mono ?_; rintro e w2 ⟨rfl, rfl⟩) | (go_at_call 65; refine (isEntitled_any A D c d f m _ (HD.out.below hB.out) hn).mono ?_; rintro e w2 ⟨rfl, hb⟩; obtain ⟨hc, hfz⟩ := bcell hb; have g0 := fun o => (hc w.heap.size o hz0).trans (h0 o); have g1 := fun o => (hc (w.heap.size + 1) o hz).trans (h1 o); have k1 := fun o => (hfz (w.heap.size + 1) o hz).trans (f1 o); have hB2 := Lib.hid (hB.out.trans (hb.mono (by omega))); have hy : w.heap.size + 1 < w2.heap.size := (by have := hb.size; omega); have hy0 : w.heap.size < w2.heap.size := (by omega); clear hc hfz hb))
              refine bodyPost_ret (v := .tuple #[.agg #[.int .i64 0, .int .i64 0, .int .i64 0, .slice none 0 0, .slice none 0 0], .bool false]) (by simp [results, Try.results31, go_sem, g1]) rfl (ToFB.none_ HF.out HK.out ?_)
              have := hB2.out
              go_grown
            · have HK := Lib.hid (show asB f m = true by unfold asB; rw [hv, hm, hs, hh, he, hl]; rfl)
              have HF := Lib.hid (show asF f m = ⟨f.t, f.s, f.sp, f.wt ++ [m], f.sh⟩ by unfold asF; rw [HK.out]; rfl)
              have hlen : f.wt.length ≤ 10 := (vldF_parts hv).2.2.2.1
              go_enter Try.func31, Try.ntmps31
              go_wp2_with fail
              refine (IsValidFloor_any A D c d f _ ((HA.out.alloc_ _).alloc_ _) hm0 hcc ((HD.out.alloc_ _).alloc_ _) hn).mono ?_
              rintro e w1 ⟨rfl, hb⟩
              rw [hv]
              obtain ⟨hc, hfz⟩ := bcell hb
              have hB := Lib.hid (after (w := w) (by go_grown) hb)
              have hz : w.heap.size + 1 < w1.heap.size := by have := hb.size; simp at this; omega
              have hz0 : w.heap.size < w1.heap.size := by omega
              have h0 := fun o => hc w.heap.size o (by simp; omega)
              have h1 := fun o => hc (w.heap.size + 1) o (by simp)
              have f1 := fun o => hfz (w.heap.size + 1) o (by simp)
              clear hc hfz hb hv
              go_wp2_with (first | (go_at_call 63; refine (isMember_any _ _).mono ?_; rintro e w2 ⟨rfl, rfl⟩) | (go_at_call 64; refine (containsInt_any _ _ _ f.wt _ _ rfl (HA.out.below hB.out) hm0).mono ?_; rintro e w2 ⟨rfl, rfl⟩) | (go_at_call 65; refine (isEntitled_any A D c d f m _ (HD.out.below hB.out) hn).mono ?_; rintro e w2 ⟨rfl, hb⟩; obtain ⟨hc, hfz⟩ := bcell hb; have g0 := fun o => (hc w.heap.size o hz0).trans (h0 o); have g1 := fun o => (hc (w.heap.size + 1) o hz).trans (h1 o); have k1 := fun o => (hfz (w.heap.size + 1) o hz).trans (f1 o); have hB2 := Lib.hid (hB.out.trans (hb.mono (by omega))); have hy : w.heap.size + 1 < w2.heap.size := (by have := hb.size; omega); have hy0 : w.heap.size < w2.heap.size := (by omega); clear hc hfz hb))
              refine (newFloor_any A D c d f _ (HA.out.below hB2.out) hm0 (HD.out.below hB2.out) hn).mono ?_
              rintro e w3 ⟨A1, c1, D1, d1, rfl, o1, o2, hb⟩
              obtain ⟨hc, hfz⟩ := bcell hb
              have q1 := fun o => (hc (w.heap.size + 1) o hy).trans (g1 o)
              have r1 := fun o => (hfz (w.heap.size + 1) o hy).trans (k1 o)
              have hB3 := Lib.hid (hB2.out.trans (hb.mono (by omega)))
              have hx : w.heap.size + 1 < w3.heap.size := by have := hb.size; omega
              have hx2 := hb.size
              have HB23 := Lib.hid hb
              have H1 := Lib.hid o1
              have H2 := Lib.hid o2
              clear hc hfz hb o1 o2 h0 h1 f1 g0 g1 k1
              have HN := Lib.hid (show (IntK.row [m]).length = 1 * 1 from rfl)
              have hne : (Value.slice A1 f.wt.length c1).ownBlock ≠ some w3.heap.size := fun e => by have := (H1.out.1.lt _ e).2; omega
              have HNE := Lib.hid hne
              clear hne
              go_wp2_with (at_builtin; go_must (refine list_append_g elInt _ rfl _ _ rfl w2.heap.size A1 _ c1 f.wt.length 1 1 (IntK.row f.wt) (IntK.row [m]) rfl rfl HN.out (own_app H1.out.1 (below2 _ _ _)) (cells_one _ _ _ _ (by simp)) int_one (by simp; omega) (by omega) ?_); intro O d2 w4 own hb hg; have hC := Lib.hid (hg.block w3.heap.size (by simp; omega) (fun e => HNE.out e.symm)); have u3 := fun o => World.cell?_of_block (a := ⟨w3.heap.size, o, none⟩) hC.out; have v3 := fun o => World.frozen?_of_block (a := ⟨w3.heap.size, o, none⟩) hC.out; have HW := Lib.hid (((HB23.out.alloc hx2 _).alloc (by simp; omega) _).trans hb); have HO := Lib.hid own; have HG := Lib.hid hg; have hx4 : w3.heap.size + 2 ≤ w4.heap.size := (by have := hb.size; simp at this; omega); have hx5 : w3.heap.size < w4.heap.size := (by omega); have hx6 : w.heap.size + 1 < w4.heap.size := (by omega); have z1 := fun o => (HW.out.cell (p := ⟨w.heap.size + 1, o, none⟩) hy).trans ((HB23.out.cell (p := ⟨w.heap.size + 1, o, none⟩) hy).symm.trans (q1 o)); have zf := fun o => (HW.out.frozen (p := ⟨w.heap.size + 1, o, none⟩) hy).trans ((HB23.out.frozen (p := ⟨w.heap.size + 1, o, none⟩) hy).symm.trans (r1 o)); have y0 := (u3 0).trans (show _ = some (.int .i64 f.t) by simp [go_sem]); have y1 := (u3 1).trans (show _ = some (.int .i64 f.s) by simp [go_sem]); have y2 := (u3 2).trans (show _ = some (.int .i64 f.sp) by simp [go_sem]); have y3 := (u3 3).trans (show _ = some (.slice A1 f.wt.length c1) by simp [go_sem]); have y4 := (u3 4).trans (show _ = some (.slice D1 f.sh.length d1) by simp [go_sem]); have vf := fun o => (v3 o).trans (show _ = false by simp [go_sem]); clear own hb hg u3 v3 q1 r1)
              refine bodyPost_ret (v := .tuple #[.agg #[.int .i64 f.t, .int .i64 f.s, .int .i64 f.sp, .slice O (f.wt.length + 1) d2, .slice D1 f.sh.length d1], .bool true]) (by simp [results, Try.results31, go_sem, z1]) rfl ?_
              rw [HF.out, HK.out]
              have hT : w4.heap[w3.heap.size]? = some (.cells #[.int .i64 f.t, .int .i64 f.s, .int .i64 f.sp, .slice A1 f.wt.length c1, .slice D1 f.sh.length d1] 29 (0, 0)) := hC.out.trans ((Below.heap_alloc _ _ _ (by simp)).trans (heap_alloc_new w3 _))
              have n1 := own_off_type HO.out hT (by decide)
              have n2 : (Value.slice O (f.wt.length + 1) d2).ownBlock ≠ some (w.heap.size + 1) := fun e => by have := (HO.out.lt _ e).1; omega
              have hO := HO.out
              rw [← Kd.row_append] at hO
              have hO2 := own_len hO (show f.wt.length + 1 = (f.wt ++ [m]).length by simp)
              rw [show f.wt.length + 1 = (f.wt ++ [m]).length by simp] at n1 n2 ⊢
              refine ⟨O, d2, D1, d1, rfl, ((Ow.mk (ownsRow_setCell_other (ownsRow_setCell_other (ownsRow_setCell_other (ownsRow_setCell_other (ownsRow_setCell_other (ownsRow_setCell_other hO2 n1 _) n2 _) n2 _) n2 _) n2 _) n2 _) (by simp; omega) (fun _ _ => trivial)).low (by omega)), ?_, ?_⟩
              · have k1 := ((H2.out.stay ((Keep.rfl_.alloc (Nat.le_refl _) (.cells #[.int .i64 f.t, .int .i64 f.s, .int .i64 f.sp, .slice A1 f.wt.length c1, .slice D1 f.sh.length d1] 29)).alloc (by simp) (.cells #[.int .i64 m] 3)))).kept (H1.out.stay ((Keep.rfl_.alloc (Nat.le_refl _) (.cells #[.int .i64 f.t, .int .i64 f.s, .int .i64 f.sp, .slice A1 f.wt.length c1, .slice D1 f.sh.length d1] 29)).alloc (by simp) (.cells #[.int .i64 m] 3))) (by decide) HG.out
                refine ((k1.stay ?_).low (by omega)).high (by simp; omega)
                exact (((((Keep.rfl_.set (.inr (by simp)) _).set (.inl (by simp; omega)) _).set (.inl (by simp; omega)) _).set (.inl (by simp; omega)) _).set (.inl (by simp; omega)) _).set (.inl (by simp; omega)) _
              · have := hB2.out.trans (HW.out.mono (by omega))
                go_grown
          · have HK := Lib.hid (show asB f m = false by unfold asB; rw [he]; simp)
            have HF := Lib.hid (show asF f m = zeroF by unfold asF; rw [HK.out]; rfl)
            go_enter Try.func31, Try.ntmps31
            go_wp2_with fail
            refine (IsValidFloor_any A D c d f _ ((HA.out.alloc_ _).alloc_ _) hm0 hcc ((HD.out.alloc_ _).alloc_ _) hn).mono ?_
            rintro e w1 ⟨rfl, hb⟩
            rw [hv]
            obtain ⟨hc, hfz⟩ := bcell hb
            have hB := Lib.hid (after (w := w) (by go_grown) hb)
            have hz : w.heap.size + 1 < w1.heap.size := by have := hb.size; simp at this; omega
            have hz0 : w.heap.size < w1.heap.size := by omega
            have h0 := fun o => hc w.heap.size o (by simp; omega)
            have h1 := fun o => hc (w.heap.size + 1) o (by simp)
            have f1 := fun o => hfz (w.heap.size + 1) o (by simp)
            clear hc hfz hb hv
            go_wp2_with (first | (go_at_call 63; refine (isMember_any _ _).mono ?_; rintro e w2 ⟨rfl, rfl⟩) | (go_at_call 64; refine (containsInt_any _ _ _ f.wt _ _ rfl (HA.out.below hB.out) hm0).mono ?_; rintro e w2 ⟨rfl, rfl⟩) | (go_at_call 65; refine (isEntitled_any A D c d f m _ (HD.out.below hB.out) hn).mono ?_; rintro e w2 ⟨rfl, hb⟩; obtain ⟨hc, hfz⟩ := bcell hb; have g0 := fun o => (hc w.heap.size o hz0).trans (h0 o); have g1 := fun o => (hc (w.heap.size + 1) o hz).trans (h1 o); have k1 := fun o => (hfz (w.heap.size + 1) o hz).trans (f1 o); have hB2 := Lib.hid (hB.out.trans (hb.mono (by omega))); have hy : w.heap.size + 1 < w2.heap.size := (by have := hb.size; omega); have hy0 : w.heap.size < w2.heap.size := (by omega); clear hc hfz hb))
            refine bodyPost_ret (v := .tuple #[.agg #[.int .i64 0, .int .i64 0, .int .i64 0, .slice none 0 0, .slice none 0 0], .bool false]) (by simp [results, Try.results31, go_sem, g1]) rfl (ToFB.none_ HF.out HK.out ?_)
            have := hB2.out
            go_grown
    · have HK := Lib.hid (show asB f m = false by unfold asB; rw [hm]; simp)
      have HF := Lib.hid (show asF f m = zeroF by unfold asF; rw [HK.out]; rfl)
      go_enter Try.func31, Try.ntmps31
      go_wp2_with fail
      refine (IsValidFloor_any A D c d f _ ((HA.out.alloc_ _).alloc_ _) hm0 hcc ((HD.out.alloc_ _).alloc_ _) hn).mono ?_
      rintro e w1 ⟨rfl, hb⟩
      rw [hv]
      obtain ⟨hc, hfz⟩ := bcell hb
      have hB := Lib.hid (after (w := w) (by go_grown) hb)
      have hz : w.heap.size + 1 < w1.heap.size := by have := hb.size; simp at this; omega
      have hz0 : w.heap.size < w1.heap.size := by omega
      have h0 := fun o => hc w.heap.size o (by simp; omega)
      have h1 := fun o => hc (w.heap.size + 1) o (by simp)
      have f1 := fun o => hfz (w.heap.size + 1) o (by simp)
      clear hc hfz hb hv
      go_wp2_with (first | (go_at_call 63; refine (isMember_any _ _).mono ?_; rintro e w2 ⟨rfl, rfl⟩) | (go_at_call 64; refine (containsInt_any _ _ _ f.wt _ _ rfl (HA.out.below hB.out) hm0).mono ?_; rintro e w2 ⟨rfl, rfl⟩))
      refine bodyPost_ret (v := .tuple #[.agg #[.int .i64 0, .int .i64 0, .int .i64 0, .slice none 0 0, .slice none 0 0], .bool false]) (by simp [results, Try.results31, go_sem, h1]) rfl (ToFB.none_ HF.out HK.out ?_)
      have := hB.out
      go_grown
  · have HK := Lib.hid (show asB f m = false by unfold asB; rw [hv]; simp)
    have HF := Lib.hid (show asF f m = zeroF by unfold asF; rw [HK.out]; rfl)
    go_enter Try.func31, Try.ntmps31
    go_wp2_with fail
    refine (IsValidFloor_any A D c d f _ ((HA.out.alloc_ _).alloc_ _) hm0 hcc ((HD.out.alloc_ _).alloc_ _) hn).mono ?_
    rintro e w1 ⟨rfl, hb⟩
    rw [hv]
    obtain ⟨hc, hfz⟩ := bcell hb
    have hB := Lib.hid (after (w := w) (by go_grown) hb)
    have hz : w.heap.size + 1 < w1.heap.size := by have := hb.size; simp at this; omega
    have hz0 : w.heap.size < w1.heap.size := by omega
    have h0 := fun o => hc w.heap.size o (by simp; omega)
    have h1 := fun o => hc (w.heap.size + 1) o (by simp)
    have f1 := fun o => hfz (w.heap.size + 1) o (by simp)
    clear hc hfz hb hv
    go_wp2_with (first | (go_at_call 63; refine (isMember_any _ _).mono ?_; rintro e w2 ⟨rfl, rfl⟩) | (go_at_call 64; refine (containsInt_any _ _ _ f.wt _ _ rfl (HA.out.below hB.out) hm0).mono ?_; rintro e w2 ⟨rfl, rfl⟩))
    refine bodyPost_ret (v := .tuple #[.agg #[.int .i64 0, .int .i64 0, .int .i64 0, .slice none 0 0, .slice none 0 0], .bool false]) (by simp [results, Try.results31, go_sem, h1]) rfl (ToFB.none_ HF.out HK.out ?_)
    have := hB.out
    go_grown
set_option maxHeartbeats 4000000 in
theorem sAskFloor_any (A D : Option Addr) (c d : Nat) (f : Flr) (m : Int) (w : World) (ha : Cells w A (IntK.row f.wt)) (hm0 : f.wt.length ≤ 1048576) (hcc : f.wt.length ≤ c) (hd : Cells w D (ShareK.row f.sh)) (hn : f.sh.length ≤ 1048576) :
    Calls Try.prog 32 #[.agg #[.int .i64 f.t, .int .i64 f.s, .int .i64 f.sp, .slice A f.wt.length c, .slice D f.sh.length d], .int .i64 m] w (ToFB w (asF f m) (asB f m)) := by
  have HA := Lib.hid ha
  have HD := Lib.hid hd
  clear ha hd
  have HX : Hid ((f.sp == m) = (m == f.sp)) := Lib.hid (Bool.eq_iff_iff.2 (by simp only [beq_iff_eq]; exact eq_comm))
  rcases Bool.eq_false_or_eq_true (vldF f) with hv | hv
  · rcases Bool.eq_false_or_eq_true (memB m) with hm | hm
    · rcases Bool.eq_false_or_eq_true (hasB m f.wt) with hh | hh
      · have HK := Lib.hid (show asB f m = false by unfold asB; rw [hh]; simp)
        have HF := Lib.hid (show asF f m = zeroF by unfold asF; rw [HK.out]; rfl)
        go_enter Try.func32, Try.ntmps32
        go_wp2_with fail
        refine (l8Good_any A D c d f _ ((HA.out.alloc_ _).alloc_ _) hm0 hcc ((HD.out.alloc_ _).alloc_ _) hn).mono ?_
        rintro e w1 ⟨rfl, hb⟩
        rw [hv]
        obtain ⟨hc, hfz⟩ := bcell hb
        have hB := Lib.hid (after (w := w) (by go_grown) hb)
        have hz : w.heap.size + 1 < w1.heap.size := by have := hb.size; simp at this; omega
        have hz0 : w.heap.size < w1.heap.size := by omega
        have h0 := fun o => hc w.heap.size o (by simp; omega)
        have h1 := fun o => hc (w.heap.size + 1) o (by simp)
        have f1 := fun o => hfz (w.heap.size + 1) o (by simp)
        clear hc hfz hb hv
        go_wp2_with (first | (go_at_call 76; refine (l7Member_any _ _).mono ?_; rintro e w2 ⟨rfl, rfl⟩) | (go_at_call 73; refine (l1Has_any _ _ _ f.wt _ _ rfl (HA.out.below hB.out) hm0).mono ?_; rintro e w2 ⟨rfl, rfl⟩))
        refine bodyPost_ret (v := .tuple #[.agg #[.int .i64 0, .int .i64 0, .int .i64 0, .slice none 0 0, .slice none 0 0], .bool false]) (by simp [results, Try.results32, go_sem, h1]) rfl (ToFB.none_ HF.out HK.out ?_)
        have := hB.out
        go_grown
      · rcases Bool.eq_false_or_eq_true (f.sp == m) with hs | hs
        · have HK := Lib.hid (show asB f m = false by unfold asB; rw [← HX.out, hs]; simp)
          have HF := Lib.hid (show asF f m = zeroF by unfold asF; rw [HK.out]; rfl)
          go_enter Try.func32, Try.ntmps32
          go_wp2_with fail
          refine (l8Good_any A D c d f _ ((HA.out.alloc_ _).alloc_ _) hm0 hcc ((HD.out.alloc_ _).alloc_ _) hn).mono ?_
          rintro e w1 ⟨rfl, hb⟩
          rw [hv]
          obtain ⟨hc, hfz⟩ := bcell hb
          have hB := Lib.hid (after (w := w) (by go_grown) hb)
          have hz : w.heap.size + 1 < w1.heap.size := by have := hb.size; simp at this; omega
          have hz0 : w.heap.size < w1.heap.size := by omega
          have h0 := fun o => hc w.heap.size o (by simp; omega)
          have h1 := fun o => hc (w.heap.size + 1) o (by simp)
          have f1 := fun o => hfz (w.heap.size + 1) o (by simp)
          clear hc hfz hb hv
          go_wp2_with (first | (go_at_call 76; refine (l7Member_any _ _).mono ?_; rintro e w2 ⟨rfl, rfl⟩) | (go_at_call 73; refine (l1Has_any _ _ _ f.wt _ _ rfl (HA.out.below hB.out) hm0).mono ?_; rintro e w2 ⟨rfl, rfl⟩))
          refine bodyPost_ret (v := .tuple #[.agg #[.int .i64 0, .int .i64 0, .int .i64 0, .slice none 0 0, .slice none 0 0], .bool false]) (by simp [results, Try.results32, go_sem, h1]) rfl (ToFB.none_ HF.out HK.out ?_)
          have := hB.out
          go_grown
        · rcases Bool.eq_false_or_eq_true (entB f m) with he | he
          · rcases Bool.eq_false_or_eq_true ((f.wt.length : Int) == 10) with hl | hl
            · have HK := Lib.hid (show asB f m = false by unfold asB; rw [hl]; simp)
              have HF := Lib.hid (show asF f m = zeroF by unfold asF; rw [HK.out]; rfl)
              go_enter Try.func32, Try.ntmps32
              go_wp2_with fail
              refine (l8Good_any A D c d f _ ((HA.out.alloc_ _).alloc_ _) hm0 hcc ((HD.out.alloc_ _).alloc_ _) hn).mono ?_
              rintro e w1 ⟨rfl, hb⟩
              rw [hv]
              obtain ⟨hc, hfz⟩ := bcell hb
              have hB := Lib.hid (after (w := w) (by go_grown) hb)
              have hz : w.heap.size + 1 < w1.heap.size := by have := hb.size; simp at this; omega
              have hz0 : w.heap.size < w1.heap.size := by omega
              have h0 := fun o => hc w.heap.size o (by simp; omega)
              have h1 := fun o => hc (w.heap.size + 1) o (by simp)
              have f1 := fun o => hfz (w.heap.size + 1) o (by simp)
              clear hc hfz hb hv
              go_wp2_with (first | (go_at_call 76; refine (l7Member_any _ _).mono ?_; rintro e w2 ⟨rfl, rfl⟩) | (go_at_call 73; refine (l1Has_any _ _ _ f.wt _ _ rfl (HA.out.below hB.out) hm0).mono ?_; rintro e w2 ⟨rfl, rfl⟩) | (go_at_call 77; refine (l8Entitled_any A D c d f m _ (HD.out.below hB.out) hn).mono ?_; rintro e w2 ⟨rfl, hb⟩; obtain ⟨hc, hfz⟩ := bcell hb; have g0 := fun o => (hc w.heap.size o hz0).trans (h0 o); have g1 := fun o => (hc (w.heap.size + 1) o hz).trans (h1 o); have k1 := fun o => (hfz (w.heap.size + 1) o hz).trans (f1 o); have hB2 := Lib.hid (hB.out.trans (hb.mono (by omega))); have hy : w.heap.size + 1 < w2.heap.size := (by have := hb.size; omega); have hy0 : w.heap.size < w2.heap.size := (by omega); clear hc hfz hb))
              refine bodyPost_ret (v := .tuple #[.agg #[.int .i64 0, .int .i64 0, .int .i64 0, .slice none 0 0, .slice none 0 0], .bool false]) (by simp [results, Try.results32, go_sem, g1]) rfl (ToFB.none_ HF.out HK.out ?_)
              have := hB2.out
              go_grown
            · have HK := Lib.hid (show asB f m = true by unfold asB; rw [hv, hm, hh, ← HX.out, hs, he, hl]; rfl)
              have HF := Lib.hid (show asF f m = ⟨f.t, f.s, f.sp, f.wt ++ [m], f.sh⟩ by unfold asF; rw [HK.out]; rfl)
              have hlen : f.wt.length ≤ 10 := (vldF_parts hv).2.2.2.1
              go_enter Try.func32, Try.ntmps32
              go_wp2_with fail
              refine (l8Good_any A D c d f _ ((HA.out.alloc_ _).alloc_ _) hm0 hcc ((HD.out.alloc_ _).alloc_ _) hn).mono ?_
              rintro e w1 ⟨rfl, hb⟩
              rw [hv]
              obtain ⟨hc, hfz⟩ := bcell hb
              have hB := Lib.hid (after (w := w) (by go_grown) hb)
              have hz : w.heap.size + 1 < w1.heap.size := by have := hb.size; simp at this; omega
              have hz0 : w.heap.size < w1.heap.size := by omega
              have h0 := fun o => hc w.heap.size o (by simp; omega)
              have h1 := fun o => hc (w.heap.size + 1) o (by simp)
              have f1 := fun o => hfz (w.heap.size + 1) o (by simp)
              clear hc hfz hb hv
              go_wp2_with (first | (go_at_call 76; refine (l7Member_any _ _).mono ?_; rintro e w2 ⟨rfl, rfl⟩) | (go_at_call 73; refine (l1Has_any _ _ _ f.wt _ _ rfl (HA.out.below hB.out) hm0).mono ?_; rintro e w2 ⟨rfl, rfl⟩) | (go_at_call 77; refine (l8Entitled_any A D c d f m _ (HD.out.below hB.out) hn).mono ?_; rintro e w2 ⟨rfl, hb⟩; obtain ⟨hc, hfz⟩ := bcell hb; have g0 := fun o => (hc w.heap.size o hz0).trans (h0 o); have g1 := fun o => (hc (w.heap.size + 1) o hz).trans (h1 o); have k1 := fun o => (hfz (w.heap.size + 1) o hz).trans (f1 o); have hB2 := Lib.hid (hB.out.trans (hb.mono (by omega))); have hy : w.heap.size + 1 < w2.heap.size := (by have := hb.size; omega); have hy0 : w.heap.size < w2.heap.size := (by omega); clear hc hfz hb))
              refine (l8Own_any A D c d f _ (HA.out.below hB2.out) hm0 (HD.out.below hB2.out) hn).mono ?_
              rintro e w3 ⟨A1, c1, D1, d1, rfl, o1, o2, hb⟩
              obtain ⟨hc, hfz⟩ := bcell hb
              have q1 := fun o => (hc (w.heap.size + 1) o hy).trans (g1 o)
              have r1 := fun o => (hfz (w.heap.size + 1) o hy).trans (k1 o)
              have hB3 := Lib.hid (hB2.out.trans (hb.mono (by omega)))
              have hx : w.heap.size + 1 < w3.heap.size := by have := hb.size; omega
              have hx2 := hb.size
              have HB23 := Lib.hid hb
              have H1 := Lib.hid o1
              have H2 := Lib.hid o2
              clear hc hfz hb o1 o2 h0 h1 f1 g0 g1 k1
              have HN := Lib.hid (show (IntK.row [m]).length = 1 * 1 from rfl)
              have hne : (Value.slice A1 f.wt.length c1).ownBlock ≠ some w3.heap.size := fun e => by have := (H1.out.1.lt _ e).2; omega
              have HNE := Lib.hid hne
              clear hne
              go_wp2_with (at_builtin; go_must (refine list_append_g elInt _ rfl _ _ rfl w2.heap.size A1 _ c1 f.wt.length 1 1 (IntK.row f.wt) (IntK.row [m]) rfl rfl HN.out (own_app H1.out.1 (below2 _ _ _)) (cells_one _ _ _ _ (by simp)) int_one (by simp; omega) (by omega) ?_); intro O d2 w4 own hb hg; have hC := Lib.hid (hg.block w3.heap.size (by simp; omega) (fun e => HNE.out e.symm)); have u3 := fun o => World.cell?_of_block (a := ⟨w3.heap.size, o, none⟩) hC.out; have v3 := fun o => World.frozen?_of_block (a := ⟨w3.heap.size, o, none⟩) hC.out; have HW := Lib.hid (((HB23.out.alloc hx2 _).alloc (by simp; omega) _).trans hb); have HO := Lib.hid own; have HG := Lib.hid hg; have hx4 : w3.heap.size + 2 ≤ w4.heap.size := (by have := hb.size; simp at this; omega); have hx5 : w3.heap.size < w4.heap.size := (by omega); have hx6 : w.heap.size + 1 < w4.heap.size := (by omega); have z1 := fun o => (HW.out.cell (p := ⟨w.heap.size + 1, o, none⟩) hy).trans ((HB23.out.cell (p := ⟨w.heap.size + 1, o, none⟩) hy).symm.trans (q1 o)); have zf := fun o => (HW.out.frozen (p := ⟨w.heap.size + 1, o, none⟩) hy).trans ((HB23.out.frozen (p := ⟨w.heap.size + 1, o, none⟩) hy).symm.trans (r1 o)); have y0 := (u3 0).trans (show _ = some (.int .i64 f.t) by simp [go_sem]); have y1 := (u3 1).trans (show _ = some (.int .i64 f.s) by simp [go_sem]); have y2 := (u3 2).trans (show _ = some (.int .i64 f.sp) by simp [go_sem]); have y3 := (u3 3).trans (show _ = some (.slice A1 f.wt.length c1) by simp [go_sem]); have y4 := (u3 4).trans (show _ = some (.slice D1 f.sh.length d1) by simp [go_sem]); have vf := fun o => (v3 o).trans (show _ = false by simp [go_sem]); clear own hb hg u3 v3 q1 r1)
              refine bodyPost_ret (v := .tuple #[.agg #[.int .i64 f.t, .int .i64 f.s, .int .i64 f.sp, .slice O (f.wt.length + 1) d2, .slice D1 f.sh.length d1], .bool true]) (by simp [results, Try.results32, go_sem, z1]) rfl ?_
              rw [HF.out, HK.out]
              have hT : w4.heap[w3.heap.size]? = some (.cells #[.int .i64 f.t, .int .i64 f.s, .int .i64 f.sp, .slice A1 f.wt.length c1, .slice D1 f.sh.length d1] 29 (0, 0)) := hC.out.trans ((Below.heap_alloc _ _ _ (by simp)).trans (heap_alloc_new w3 _))
              have n1 := own_off_type HO.out hT (by decide)
              have n2 : (Value.slice O (f.wt.length + 1) d2).ownBlock ≠ some (w.heap.size + 1) := fun e => by have := (HO.out.lt _ e).1; omega
              have hO := HO.out
              rw [← Kd.row_append] at hO
              have hO2 := own_len hO (show f.wt.length + 1 = (f.wt ++ [m]).length by simp)
              rw [show f.wt.length + 1 = (f.wt ++ [m]).length by simp] at n1 n2 ⊢
              refine ⟨O, d2, D1, d1, rfl, ((Ow.mk (ownsRow_setCell_other (ownsRow_setCell_other (ownsRow_setCell_other (ownsRow_setCell_other (ownsRow_setCell_other (ownsRow_setCell_other hO2 n1 _) n2 _) n2 _) n2 _) n2 _) n2 _) (by simp; omega) (fun _ _ => trivial)).low (by omega)), ?_, ?_⟩
              · have k1 := ((H2.out.stay ((Keep.rfl_.alloc (Nat.le_refl _) (.cells #[.int .i64 f.t, .int .i64 f.s, .int .i64 f.sp, .slice A1 f.wt.length c1, .slice D1 f.sh.length d1] 29)).alloc (by simp) (.cells #[.int .i64 m] 3)))).kept (H1.out.stay ((Keep.rfl_.alloc (Nat.le_refl _) (.cells #[.int .i64 f.t, .int .i64 f.s, .int .i64 f.sp, .slice A1 f.wt.length c1, .slice D1 f.sh.length d1] 29)).alloc (by simp) (.cells #[.int .i64 m] 3))) (by decide) HG.out
                refine ((k1.stay ?_).low (by omega)).high (by simp; omega)
                exact (((((Keep.rfl_.set (.inr (by simp)) _).set (.inl (by simp; omega)) _).set (.inl (by simp; omega)) _).set (.inl (by simp; omega)) _).set (.inl (by simp; omega)) _).set (.inl (by simp; omega)) _
              · have := hB2.out.trans (HW.out.mono (by omega))
                go_grown
          · have HK := Lib.hid (show asB f m = false by unfold asB; rw [he]; simp)
            have HF := Lib.hid (show asF f m = zeroF by unfold asF; rw [HK.out]; rfl)
            go_enter Try.func32, Try.ntmps32
            go_wp2_with fail
            refine (l8Good_any A D c d f _ ((HA.out.alloc_ _).alloc_ _) hm0 hcc ((HD.out.alloc_ _).alloc_ _) hn).mono ?_
            rintro e w1 ⟨rfl, hb⟩
            rw [hv]
            obtain ⟨hc, hfz⟩ := bcell hb
            have hB := Lib.hid (after (w := w) (by go_grown) hb)
            have hz : w.heap.size + 1 < w1.heap.size := by have := hb.size; simp at this; omega
            have hz0 : w.heap.size < w1.heap.size := by omega
            have h0 := fun o => hc w.heap.size o (by simp; omega)
            have h1 := fun o => hc (w.heap.size + 1) o (by simp)
            have f1 := fun o => hfz (w.heap.size + 1) o (by simp)
            clear hc hfz hb hv
            go_wp2_with (first | (go_at_call 76; refine (l7Member_any _ _).mono ?_; rintro e w2 ⟨rfl, rfl⟩) | (go_at_call 73; refine (l1Has_any _ _ _ f.wt _ _ rfl (HA.out.below hB.out) hm0).mono ?_; rintro e w2 ⟨rfl, rfl⟩) | (go_at_call 77; refine (l8Entitled_any A D c d f m _ (HD.out.below hB.out) hn).mono ?_; rintro e w2 ⟨rfl, hb⟩; obtain ⟨hc, hfz⟩ := bcell hb; have g0 := fun o => (hc w.heap.size o hz0).trans (h0 o); have g1 := fun o => (hc (w.heap.size + 1) o hz).trans (h1 o); have k1 := fun o => (hfz (w.heap.size + 1) o hz).trans (f1 o); have hB2 := Lib.hid (hB.out.trans (hb.mono (by omega))); have hy : w.heap.size + 1 < w2.heap.size := (by have := hb.size; omega); have hy0 : w.heap.size < w2.heap.size := (by omega); clear hc hfz hb))
            refine bodyPost_ret (v := .tuple #[.agg #[.int .i64 0, .int .i64 0, .int .i64 0, .slice none 0 0, .slice none 0 0], .bool false]) (by simp [results, Try.results32, go_sem, g1]) rfl (ToFB.none_ HF.out HK.out ?_)
            have := hB2.out
            go_grown
    · have HK := Lib.hid (show asB f m = false by unfold asB; rw [hm]; simp)
      have HF := Lib.hid (show asF f m = zeroF by unfold asF; rw [HK.out]; rfl)
      go_enter Try.func32, Try.ntmps32
      go_wp2_with fail
      refine (l8Good_any A D c d f _ ((HA.out.alloc_ _).alloc_ _) hm0 hcc ((HD.out.alloc_ _).alloc_ _) hn).mono ?_
      rintro e w1 ⟨rfl, hb⟩
      rw [hv]
      obtain ⟨hc, hfz⟩ := bcell hb
      have hB := Lib.hid (after (w := w) (by go_grown) hb)
      have hz : w.heap.size + 1 < w1.heap.size := by have := hb.size; simp at this; omega
      have hz0 : w.heap.size < w1.heap.size := by omega
      have h0 := fun o => hc w.heap.size o (by simp; omega)
      have h1 := fun o => hc (w.heap.size + 1) o (by simp)
      have f1 := fun o => hfz (w.heap.size + 1) o (by simp)
      clear hc hfz hb hv
      go_wp2_with (first | (go_at_call 76; refine (l7Member_any _ _).mono ?_; rintro e w2 ⟨rfl, rfl⟩) | (go_at_call 73; refine (l1Has_any _ _ _ f.wt _ _ rfl (HA.out.below hB.out) hm0).mono ?_; rintro e w2 ⟨rfl, rfl⟩))
      refine bodyPost_ret (v := .tuple #[.agg #[.int .i64 0, .int .i64 0, .int .i64 0, .slice none 0 0, .slice none 0 0], .bool false]) (by simp [results, Try.results32, go_sem, h1]) rfl (ToFB.none_ HF.out HK.out ?_)
      have := hB.out
      go_grown
  · have HK := Lib.hid (show asB f m = false by unfold asB; rw [hv]; simp)
    have HF := Lib.hid (show asF f m = zeroF by unfold asF; rw [HK.out]; rfl)
    go_enter Try.func32, Try.ntmps32
    go_wp2_with fail
    refine (l8Good_any A D c d f _ ((HA.out.alloc_ _).alloc_ _) hm0 hcc ((HD.out.alloc_ _).alloc_ _) hn).mono ?_
    rintro e w1 ⟨rfl, hb⟩
    rw [hv]
    obtain ⟨hc, hfz⟩ := bcell hb
    have hB := Lib.hid (after (w := w) (by go_grown) hb)
    have hz : w.heap.size + 1 < w1.heap.size := by have := hb.size; simp at this; omega
    have hz0 : w.heap.size < w1.heap.size := by omega
    have h0 := fun o => hc w.heap.size o (by simp; omega)
    have h1 := fun o => hc (w.heap.size + 1) o (by simp)
    have f1 := fun o => hfz (w.heap.size + 1) o (by simp)
    clear hc hfz hb hv
    go_wp2_with (first | (go_at_call 76; refine (l7Member_any _ _).mono ?_; rintro e w2 ⟨rfl, rfl⟩) | (go_at_call 73; refine (l1Has_any _ _ _ f.wt _ _ rfl (HA.out.below hB.out) hm0).mono ?_; rintro e w2 ⟨rfl, rfl⟩))
    refine bodyPost_ret (v := .tuple #[.agg #[.int .i64 0, .int .i64 0, .int .i64 0, .slice none 0 0, .slice none 0 0], .bool false]) (by simp [results, Try.results32, go_sem, h1]) rfl (ToFB.none_ HF.out HK.out ?_)
    have := hB.out
    go_grown
end Go.Proofs.Ytbpikbcnpmplfaa
