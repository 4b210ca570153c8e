/- Floors: their copies, sizes, comparisons and marks in the laws. Conditions: the ranges named. -/
import Derived.Test.YtbpikbcnpmplfaaShare
namespace Go.Proofs.Ytbpikbcnpmplfaa
open Go.RowKit
set_option linter.unusedVariables false

/-- A floor, as data. -/
structure Flr where
  t : Int
  s : Int
  sp : Int
  wt : List Int
  sh : List Shr
def RdF (B : Nat) (w : World) (A : Option Addr) (c : Nat) (D : Option Addr) (d : Nat) (f : Flr) : Prop := Rd IntK B w A c f.wt ∧ Rd ShareK B w D d f.sh
def OwF (lo hi : Nat) (w : World) (A : Option Addr) (c : Nat) (D : Option Addr) (d : Nat) (f : Flr) : Prop := Ow IntK 3 lo hi w A c f.wt ∧ Ow ShareK 43 lo hi w D d f.sh
section
variable {B B' lo hi lo' hi' : Nat} {w w' : World} {A A' D D' : Option Addr} {c c' d d' : Nat} {f : Flr}
theorem RdF.below (h : RdF B w A c D d f) (hb : Below B' w w') (hB : B ≤ B') : RdF B w' A c D d f := ⟨h.1.below hb hB, h.2.below hb hB⟩
theorem RdF.up (h : RdF B w A c D d f) (hB : B ≤ B') : RdF B' w A c D d f := ⟨h.1.up hB, h.2.up hB⟩
theorem OwF.rd (h : OwF lo hi w A c D d f) : RdF hi w A c D d f := ⟨h.1.rd, h.2.rd⟩
theorem OwF.below (h : OwF lo hi w A c D d f) (hb : Below B w w') (hB : hi ≤ B) : OwF lo hi w' A c D d f := ⟨h.1.below hb hB, h.2.below hb hB⟩
theorem OwF.only (h : OwF lo hi w A c D d f) (ho : Only lo' hi' w w') (hd : hi ≤ lo' ∨ hi' ≤ lo) : OwF lo hi w' A c D d f := ⟨h.1.only ho hd, h.2.only ho hd⟩
theorem OwF.low (h : OwF lo hi w A c D d f) (hl : lo' ≤ lo) : OwF lo' hi w A c D d f := ⟨h.1.low hl, h.2.low hl⟩
theorem OwF.high (h : OwF lo hi w A c D d f) (hl : hi ≤ hi') : OwF lo hi' w A c D d f := ⟨h.1.high hl, h.2.high hl⟩
end
/-- A call that returns a floor in memory of its own. -/
def ToF (w : World) (f : Flr) (e : Ending) (w' : World) : Prop := ∃ (A : Option Addr) (c : Nat) (D : Option Addr) (d : Nat), e = .returned (.agg #[.int .i64 f.t, .int .i64 f.s, .int .i64 f.sp, .slice A f.wt.length c, .slice D f.sh.length d]) ∧ OwF w.heap.size w'.heap.size w' A c D d f ∧ Below w.heap.size w w'
set_option maxHeartbeats 1000000 in
theorem toFloor_any (B : Nat) (A D : Option Addr) (c d : Nat) (f : Flr) (w : World) (h : RdF B w A c D d f) : Calls Try.prog 9 #[.agg #[.int .i64 f.t, .int .i64 f.s, .int .i64 f.sp, .slice A f.wt.length c, .slice D f.sh.length d]] w (ToF w f) := by
  have ha := h.1.cells
  have hd := h.2.cells
  have hn := h.1.2.2.1
  have hm := h.2.2.2.1
  clear h
  go_enter Try.func9, Try.ntmps9
  go_wp2_with fail
  refine (toIntS_any A c f.wt _ (((ha.alloc_ _).alloc_ _).alloc_ _) hn).mono ?_
  rintro e w1 ⟨A1, c1, rfl, o1, hb⟩
  obtain ⟨hc, hfz⟩ := bcell hb
  have hB := Lib.hid (after (w := w) (by go_grown) hb)
  have hz : w.heap.size + 2 < w1.heap.size := by have := hb.size; simp at this; omega
  have h0 := fun o => hc w.heap.size o (by simp; omega)
  have h1 := fun o => hc (w.heap.size + 1) o (by simp)
  have h2 := fun o => hc (w.heap.size + 1 + 1) o (by simp)
  have f1 := fun o => hfz (w.heap.size + 1) o (by simp)
  have f2 := fun o => hfz (w.heap.size + 1 + 1) o (by simp)
  clear hc hfz hb
  have HO := Lib.hid (o1.low (lo' := w.heap.size + 3) (by simp))
  clear o1
  go_wp2_with fail
  refine (toShareS_any D d f.sh _ (hd.below (by have := hB.out; go_grown)) hm (fun _ _ => trivial)).mono ?_
  rintro e w2 ⟨D1, d1, rfl, o2, hb⟩
  obtain ⟨hc, hfz⟩ := bcell hb
  have hB2 := Lib.hid hb
  have hB3 := Lib.hid (after (w := w) (by have := hB.out; go_grown) hb)
  have hz2 : w1.heap.size ≤ w2.heap.size := by have := hb.size; simpa using this
  have e1 := fun o => hc (w.heap.size + 1) o (by simp; omega)
  have e2 := fun o => hc (w.heap.size + 1 + 1) o (by simp; omega)
  have k1 := fun o => hfz (w.heap.size + 1) o (by simp; omega)
  have k2 := fun o => hfz (w.heap.size + 1 + 1) o (by simp; omega)
  clear hc hfz hb hd ha
  have HP := Lib.hid o2
  clear o2
  go_wp2
  refine bodyPost_ret (v := .agg #[.int .i64 f.t, .int .i64 f.s, .int .i64 f.sp, .slice A1 f.wt.length c1, .slice D1 f.sh.length d1]) (by simp [results, Try.results9, go_sem, e1, h1]) rfl ?_
  refine ⟨A1, c1, D1, d1, rfl, ⟨((HO.out.stay ?_).low (by omega)).high (by simp <;> omega), ((HP.out.stay ?_).low (by simp <;> omega)).high (by simp)⟩, ?_⟩
  · repeat (refine Keep.set ?_ (.inl (by simp)) _)
    refine Keep.below ?_ hB2.out (by simp)
    exact Keep.set Keep.rfl_ (.inl (by simp)) _
  · repeat (refine Keep.set ?_ (.inl (by simp; omega)) _)
    exact Keep.rfl_
  · have := hB3.out
    go_grown
theorem szFloor_any (B : Nat) (A D : Option Addr) (c d : Nat) (f : Flr) (left : Int) (w : World) (hn : f.wt.length ≤ maxLen) (hm : f.sh.length ≤ maxLen) (h0 : 0 ≤ left) (h1 : left ≤ 1048576) :
    Calls Try.prog 7 #[.agg #[.int .i64 f.t, .int .i64 f.s, .int .i64 f.sp, .slice A f.wt.length c, .slice D f.sh.length d], .int .i64 left] w fun e w' => e = .returned (.int .i64 (if szN f.wt.length left < 0 then -1 else szN f.sh.length (szN f.wt.length left))) ∧ Below w.heap.size w w' := by
  rcases Int.lt_or_le (szN f.wt.length left) 0 with hz | hz
  · go_enter Try.func7, Try.ntmps7
    go_wp2_with (go_at_call 42; refine (szIntS_any _ _ _ _ _ hn h0 h1).mono ?_; rintro e w' ⟨rfl, rfl⟩)
    go_ret
    exact ⟨rfl, by go_grown⟩
  · have hz' : ¬ szN f.wt.length left < 0 := by omega
    have h1' : szN f.wt.length left ≤ 1048576 := by have := (szN_ok hz').2; omega
    rcases Int.lt_or_le (szN f.sh.length (szN f.wt.length left)) 0 with hy | hy
    · have HY := Lib.hid (szN_neg hy)
      go_enter Try.func7, Try.ntmps7
      go_wp2_with (first | (go_at_call 42; refine (szIntS_any _ _ _ _ _ hn h0 h1).mono ?_; rintro e w' ⟨rfl, rfl⟩) | (go_at_call 43; refine (szShareS_any _ _ _ _ _ hm hz h1').mono ?_; rintro e w' ⟨rfl, rfl⟩))
      go_ret
      exact ⟨ret_int HY.out.symm, by go_grown⟩
    · go_enter Try.func7, Try.ntmps7
      go_wp2_with (first | (go_at_call 42; refine (szIntS_any _ _ _ _ _ hn h0 h1).mono ?_; rintro e w' ⟨rfl, rfl⟩) | (go_at_call 43; refine (szShareS_any _ _ _ _ _ hm hz h1').mono ?_; rintro e w' ⟨rfl, rfl⟩))
      go_ret
      exact ⟨rfl, by go_grown⟩
set_option maxHeartbeats 1000000 in
theorem eqFloor_same (B B' : Nat) (A D A' D' : Option Addr) (c d c' d' : Nat) (f : Flr) (w : World) (h : RdF B w A c D d f) (h' : RdF B' w A' c' D' d' f) :
    Calls Try.prog 11 #[.agg #[.int .i64 f.t, .int .i64 f.s, .int .i64 f.sp, .slice A f.wt.length c, .slice D f.sh.length d], .agg #[.int .i64 f.t, .int .i64 f.s, .int .i64 f.sp, .slice A' f.wt.length c', .slice D' f.sh.length d']] w fun e w' => e = .returned (.bool true) ∧ Below w.heap.size w w' := by
  have H := Lib.hid h
  have H' := Lib.hid h'
  have hd : decide (f.wt = f.wt) = true := decide_eq_true rfl
  clear h h'
  go_enter Try.func11, Try.ntmps11
  go_wp2_with fail
  refine (eqIntS_any A A' c c' f.wt f.wt _ (((H.out.1.cells).alloc_ _).alloc_ _) (((H'.out.1.cells).alloc_ _).alloc_ _) H.out.1.2.2.1 H.out.1.2.2.1).mono ?_
  rintro e w1 ⟨rfl, hb⟩
  obtain ⟨hc, hfz⟩ := bcell hb
  have hB := Lib.hid (after (w := w) (by go_grown) hb)
  have hz : w.heap.size + 1 < w1.heap.size := by have := hb.size; simp at this; omega
  have h0 := fun o => hc w.heap.size o (by simp; omega)
  have h1 := fun o => hc (w.heap.size + 1) o (by simp)
  clear hc hfz hb
  go_wp2_with fail
  refine (eqShareS_same w1.heap.size w1.heap.size D D' d d' f.sh _ (Rd.up (B := w.heap.size) ?_ (by omega)) (Rd.up (B := w.heap.size) ?_ (by omega))).mono ?_
  · exact ⟨H.out.2.1, (CellsB.of_cells H.out.2.cells).below hB.out (Nat.le_refl _), H.out.2.2.2⟩
  · exact ⟨H'.out.2.1, (CellsB.of_cells H'.out.2.cells).below hB.out (Nat.le_refl _), H'.out.2.2.2⟩
  rintro e w2 ⟨rfl, hb⟩
  have hB2 := Lib.hid (after hB.out hb)
  clear hb
  go_wp2
  go_ret
  exact ⟨rfl, hB2.out⟩
/-- What the marks are, from k on. -/
def markF (k : Nat) (f : Flr) : Flr := ⟨f.t, f.s, f.sp, marksI k f.wt.length, mkL (markShare (k + f.wt.length)) f.sh.length⟩
set_option maxHeartbeats 1000000 in
theorem markFloor_any (lo hi : Nat) (A D : Option Addr) (c d k : Nat) (kk : Int) (hkk : kk = (k : Int)) (f : Flr) (w : World) (h : OwF lo hi w A c D d f) (hhi : hi ≤ w.heap.size) (hk0 : 0 < k) (hk : k ≤ 10000000) :
    Calls Try.prog 12 #[.agg #[.int .i64 f.t, .int .i64 f.s, .int .i64 f.sp, .slice A f.wt.length c, .slice D f.sh.length d], .int .i64 kk] w fun e w' => e = .returned (.int .i64 (kk + f.wt.length + 3 * f.sh.length)) ∧ OwF lo hi w' A c D d (markF k f) ∧ Only lo hi w w' := by
  have H := Lib.hid h
  have hn := h.1.2.2.1
  have hm := h.2.2.2.1
  have hkb : kk ≤ 10000000 := by omega
  have hk1 : 0 < kk := by omega
  have HK := Lib.hid hkk
  clear h hkk
  have H1 := Lib.hid (H.out.1.stay ((Keep.rfl_ (lo := lo) (hi := hi) (w := w)).alloc hhi (.cells #[.int .i64 f.t, .int .i64 f.s, .int .i64 f.sp, .slice A f.wt.length c, .slice D f.sh.length d] 29)))
  go_enter Try.func12, Try.ntmps12
  go_wp2_with fail
  refine (markIntS_any lo hi A c k kk HK.out f.wt _ H1.out (by omega)).mono ?_
  rintro e w1 ⟨rfl, o1, ho, hg⟩
  have hz : w.heap.size + 1 ≤ w1.heap.size := by have := ho.size; simpa using this
  have h0 := fun o => World.cell?_of_block (a := ⟨w.heap.size, o, none⟩) (ho.block w.heap.size (by simp) (.inr hhi))
  have HO := Lib.hid ho
  have H2 := Lib.hid ((H.out.2.stay ((Keep.rfl_ (lo := lo) (hi := hi) (w := w)).alloc hhi (.cells #[.int .i64 f.t, .int .i64 f.s, .int .i64 f.sp, .slice A f.wt.length c, .slice D f.sh.length d] 29))).kept H1.out (by decide) hg)
  have HP := Lib.hid o1
  clear ho o1 hg H1
  go_wp2_with fail
  refine (markShareS_any lo hi D d (k + f.wt.length) (kk + f.wt.length) (by have := HK.out; omega) f.sh _ H2.out (by omega) (by omega)).mono ?_
  rintro e w2 ⟨rfl, o2, ho, hg⟩
  have HO2 := Lib.hid ((Only.of_below (lo := lo) (hi := hi) ((Below.refl w.heap.size w).alloc (Nat.le_refl _) (.cells #[.int .i64 f.t, .int .i64 f.s, .int .i64 f.sp, .slice A f.wt.length c, .slice D f.sh.length d] 29))).trans (HO.out.trans ho))
  have HP2 := Lib.hid (HP.out.kept H2.out (by decide) hg)
  have HQ2 := Lib.hid o2
  clear ho o2 hg HO HP H2
  go_wp2
  go_ret
  refine ⟨by first | rfl | (congr 2; omega), ⟨?_, ?_⟩, HO2.out⟩
  · have := HP2.out
    simpa [markF, marksI_len] using this
  · have := HQ2.out
    simpa [markF, mkL_len] using this
set_option maxHeartbeats 1000000 in
theorem heldFloor_yes (B : Nat) (A D : Option Addr) (c d k : Nat) (kk : Int) (hkk : kk = (k : Int)) (f : Flr) (w : World) (h : RdF B w A c D d (markF k f)) (hk0 : 0 < k) (hk : k ≤ 10000000) :
    Calls Try.prog 13 #[.agg #[.int .i64 f.t, .int .i64 f.s, .int .i64 f.sp, .slice A f.wt.length c, .slice D f.sh.length d], .int .i64 kk] w fun e w' => e = .returned (.int .i64 (kk + f.wt.length + 3 * f.sh.length)) ∧ Below w.heap.size w w' := by
  have hn : f.wt.length ≤ 1048576 := by have := h.1.2.2.1; simpa [markF, marksI_len] using this
  have hm : f.sh.length ≤ 1048576 := by have := h.2.2.2.1; simpa [markF, mkL_len] using this
  have hk1 : 0 < kk := by omega
  have hkb : kk ≤ 10000000 := by omega
  have HK := Lib.hid hkk
  have b0 : ¬ kk + (f.wt.length : Int) < 0 := by omega
  have b1 : ¬ kk + (f.wt.length : Int) + 3 * f.sh.length < 0 := by omega
  have H1 : Hid (Rd IntK w.heap.size (w.alloc (.cells #[.int .i64 f.t, .int .i64 f.s, .int .i64 f.sp, .slice A f.wt.length c, .slice D f.sh.length d] 29)) A c (marksI k f.wt.length)) := by
    have h1 := h.1
    exact ⟨h1.1, (CellsB.of_cells h1.cells).below ((Below.refl w.heap.size w).alloc (Nat.le_refl _) _) (Nat.le_refl _), h1.2.2⟩
  have H2 : Hid (Rd ShareK w.heap.size (w.alloc (.cells #[.int .i64 f.t, .int .i64 f.s, .int .i64 f.sp, .slice A f.wt.length c, .slice D f.sh.length d] 29)) D d (mkL (markShare (k + f.wt.length)) f.sh.length)) := by
    have h1 := h.2
    exact ⟨h1.1, (CellsB.of_cells h1.cells).below ((Below.refl w.heap.size w).alloc (Nat.le_refl _) _) (Nat.le_refl _), h1.2.2⟩
  clear h hkk
  go_enter Try.func13, Try.ntmps13
  go_wp2_with (first | (go_at_call 54; refine (heldIntS_yes A f.wt.length c k w.heap.size kk HK.out _ H1.out (by omega)).mono ?_; rintro e w' ⟨rfl, rfl⟩) | (go_at_call 55; refine (heldShareS_yes D f.sh.length d (k + f.wt.length) w.heap.size (kk + f.wt.length) (by have := HK.out; omega) _ H2.out (by omega) (by omega)).mono ?_; rintro e w' ⟨rfl, rfl⟩))
  go_ret
  exact ⟨by first | rfl | (congr 2; omega), by go_grown⟩
end Go.Proofs.Ytbpikbcnpmplfaa
