/- AmendmentLine, in the program and in the reference; the walk of its law. Conditions: the words that the program's table holds. -/
import Derived.Test.YtfncfaamdedmjaaDoorAl2
namespace Go.Proofs.YtfncfaamdedmjaaDoor
open Go.RowKit
set_option linter.unusedVariables false
set_option linter.unusedSimpArgs false
set_option maxHeartbeats 1000000 in
theorem AmendmentLine_any0 (A : Option Addr) (c : Nat) (k p n : Int) (ws : List ByteArray) (w : World) (ha : Cells w A (strs ws)) (hf : Fit ws) (hcc : ws.length ≤ c) (hA : 0 < ws.length → ∃ ad, A = some ad ∧ ad = ⟨ad.block, ad.off, none⟩) (hW : Wds w) :
    Calls Tryd.prog 9 #[.agg #[.int .i64 k, .int .i64 p, .int .i64 n, .slice A ws.length c]] w fun e w' => e = .returned (.tuple #[.string (alS ⟨k, p, n, ws⟩), .bool (vldA ⟨k, p, n, ws⟩)]) ∧ Below w.heap.size w w' := by
  have HB := Lib.hid (below1 w (.cells #[.int .i64 k, .int .i64 p, .int .i64 n, .slice A ws.length c] 28))
  have HR := Lib.hid (ha.below HB.out)
  have NX := Lib.hid (BoxL.new w #[.int .i64 k, .int .i64 p, .int .i64 n, .slice A ws.length c] 28)
  have hz : w.heap.size + 1 ≤ (w.alloc (.cells #[.int .i64 k, .int .i64 p, .int .i64 n, .slice A ws.length c] 28)).heap.size := by simp
  have HW := Lib.hid (hW.below HB.out)
  clear ha
  go_enter Tryd.func9, Tryd.ntmps9
  go_wp2_with fail
  generalize w.alloc (.cells #[.int .i64 k, .int .i64 p, .int .i64 n, .slice A ws.length c] 28) = W at *
  refine (IsValidAmendment_any A c ⟨k, p, n, ws⟩ W HR.out hf).mono ?_
  rintro e w1 ⟨rfl, hb⟩
  have HB := Lib.hid (after HB.out hb)
  have HR := Lib.hid (HR.out.below hb)
  have NX := Lib.hid (NX.out.below hb hz)
  have HW := Lib.hid (HW.out.below hb)
  clear hb
  rcases Bool.eq_false_or_eq_true (vldA ⟨k, p, n, ws⟩) with hv | hv
  · have HV := Lib.hid hv
    have HX := Lib.hid (show alS ⟨k, p, n, ws⟩ = aline ⟨k, p, n, ws⟩ from if_pos hv)
    rw [hv]
    obtain ⟨p0, p1, hcase, h5, h10⟩ : 0 ≤ p ∧ p ≤ 20 ∧ ((k = 1 ∧ n = 0 ∧ 1 ≤ ws.length) ∨ (k = 2 ∧ 1 ≤ n ∧ n ≤ 5 ∧ ws.length = 0) ∨ (k = 3 ∧ 1 ≤ n ∧ n ≤ 5 ∧ 1 ≤ ws.length)) ∧ ws.length ≤ 5 ∧ ∀ w ∈ ws, w.size ≤ 10 := vldA_parts hv
    have HR5 := Lib.hid (show RdS w1.heap.size w1 A c ws from ⟨hcc, CellsB.of_cells HR.out, hf⟩)
    obtain ⟨pn, hpn⟩ : ∃ i : Nat, p = (i : Int) := ⟨p.toNat, by omega⟩
    subst hpn
    have e0 := NX.out.2 0 _ rfl
    have e1 := NX.out.2 1 _ rfl
    have e2 := NX.out.2 2 _ rfl
    have e3 := NX.out.2 3 _ rfl
    clear hv
    rcases hcase with ⟨hk, hn, hl⟩ | ⟨hk, hn, hn5, hl⟩ | ⟨hk, hn, hn5, hl⟩
    · obtain ⟨nn, hnn⟩ : ∃ i : Nat, n = (i : Int) := ⟨n.toNat, by omega⟩
      subst hk hnn
      have hnn5 : nn ≤ 5 := by omega
      have HZ := Lib.hid (show nn = 0 by omega)
      have HL := Lib.hid (show 0 < ws.length from hl)
      clear hn hl
      go_wp2_with fail
      refine (amendmentLine_1 A c pn nn ws w1 (by omega) hnn5 HR5.out hA HL.out h5 h10 HW.out).mono ?_
      rintro e w2 ⟨rfl, hb⟩
      have HB2 := Lib.hid (after HB.out hb)
      clear hb e0 e1 e2 e3
      go_wp2
      go_ret2
      rw [HX.out, HV.out]
      exact ⟨by first | rfl | (simp; done) | (simp [Array.getD]; done), HB2.out⟩
    · obtain ⟨nn, hnn⟩ : ∃ i : Nat, n = (i : Int) := ⟨n.toNat, by omega⟩
      subst hk hnn
      have hnn5 : nn ≤ 5 := by omega
      have HZ := Lib.hid (show 0 < nn by omega)
      have HL := Lib.hid (show ws.length = 0 from hl)
      clear hn hl
      go_wp2_with fail
      refine (amendmentLine_2 A c pn nn ws w1 (by omega) hnn5 HR5.out hA HL.out h5 h10 HW.out).mono ?_
      rintro e w2 ⟨rfl, hb⟩
      have HB2 := Lib.hid (after HB.out hb)
      clear hb e0 e1 e2 e3
      go_wp2
      go_ret2
      rw [HX.out, HV.out]
      exact ⟨by first | rfl | (simp; done) | (simp [Array.getD]; done), HB2.out⟩
    · obtain ⟨nn, hnn⟩ : ∃ i : Nat, n = (i : Int) := ⟨n.toNat, by omega⟩
      subst hk hnn
      have hnn5 : nn ≤ 5 := by omega
      have HZ := Lib.hid (show 0 < nn by omega)
      have HL := Lib.hid (show 0 < ws.length from hl)
      clear hn hl
      go_wp2_with fail
      refine (amendmentLine_3 A c pn nn ws w1 (by omega) hnn5 HR5.out hA HL.out h5 h10 HW.out).mono ?_
      rintro e w2 ⟨rfl, hb⟩
      have HB2 := Lib.hid (after HB.out hb)
      clear hb e0 e1 e2 e3
      go_wp2
      go_ret2
      rw [HX.out, HV.out]
      exact ⟨by first | rfl | (simp; done) | (simp [Array.getD]; done), HB2.out⟩
  · have HV := Lib.hid hv
    have HX := Lib.hid (show alS ⟨k, p, n, ws⟩ = ByteArray.empty from if_neg (by simp [hv]))
    rw [hv]
    clear hv
    go_wp2
    go_ret2
    rw [HX.out, HV.out]
    exact ⟨by first | rfl | (simp; done) | (simp [Array.getD]; done), HB.out⟩
set_option maxHeartbeats 1000000 in
theorem sAmendmentLine_any0 (A : Option Addr) (c : Nat) (k p n : Int) (ws : List ByteArray) (w : World) (ha : Cells w A (strs ws)) (hf : Fit ws) (hcc : ws.length ≤ c) :
    Calls Tryd.prog 7 #[.agg #[.int .i64 k, .int .i64 p, .int .i64 n, .slice A ws.length c]] w fun e w' => e = .returned (.tuple #[.string (alS ⟨k, p, n, ws⟩), .bool (vldA ⟨k, p, n, ws⟩)]) ∧ Below w.heap.size w w' := by
  have HB := Lib.hid (below1 w (.cells #[.int .i64 k, .int .i64 p, .int .i64 n, .slice A ws.length c] 28))
  have HR := Lib.hid (ha.below HB.out)
  have NX := Lib.hid (BoxL.new w #[.int .i64 k, .int .i64 p, .int .i64 n, .slice A ws.length c] 28)
  have hz : w.heap.size + 1 ≤ (w.alloc (.cells #[.int .i64 k, .int .i64 p, .int .i64 n, .slice A ws.length c] 28)).heap.size := by simp
  clear ha
  go_enter Tryd.func7, Tryd.ntmps7
  go_wp2_with fail
  generalize w.alloc (.cells #[.int .i64 k, .int .i64 p, .int .i64 n, .slice A ws.length c] 28) = W at *
  refine (l9Good_any A c ⟨k, p, n, ws⟩ W HR.out hf).mono ?_
  rintro e w1 ⟨rfl, hb⟩
  have HB := Lib.hid (after HB.out hb)
  have HR := Lib.hid (HR.out.below hb)
  have NX := Lib.hid (NX.out.below hb hz)
  clear hb
  rcases Bool.eq_false_or_eq_true (vldA ⟨k, p, n, ws⟩) with hv | hv
  · have HV := Lib.hid hv
    have HX := Lib.hid (show alS ⟨k, p, n, ws⟩ = aline ⟨k, p, n, ws⟩ from if_pos hv)
    rw [hv]
    obtain ⟨p0, p1, hcase, h5, h10⟩ : 0 ≤ p ∧ p ≤ 20 ∧ ((k = 1 ∧ n = 0 ∧ 1 ≤ ws.length) ∨ (k = 2 ∧ 1 ≤ n ∧ n ≤ 5 ∧ ws.length = 0) ∨ (k = 3 ∧ 1 ≤ n ∧ n ≤ 5 ∧ 1 ≤ ws.length)) ∧ ws.length ≤ 5 ∧ ∀ w ∈ ws, w.size ≤ 10 := vldA_parts hv
    have HR5 := Lib.hid (show RdS w1.heap.size w1 A c ws from ⟨hcc, CellsB.of_cells HR.out, hf⟩)
    obtain ⟨pn, hpn⟩ : ∃ i : Nat, p = (i : Int) := ⟨p.toNat, by omega⟩
    subst hpn
    have e0 := NX.out.2 0 _ rfl
    have e1 := NX.out.2 1 _ rfl
    have e2 := NX.out.2 2 _ rfl
    have e3 := NX.out.2 3 _ rfl
    clear hv
    rcases hcase with ⟨hk, hn, hl⟩ | ⟨hk, hn, hn5, hl⟩ | ⟨hk, hn, hn5, hl⟩
    · obtain ⟨nn, hnn⟩ : ∃ i : Nat, n = (i : Int) := ⟨n.toNat, by omega⟩
      subst hk hnn
      have hnn5 : nn ≤ 5 := by omega
      have HZ := Lib.hid (show nn = 0 by omega)
      have HL := Lib.hid (show 0 < ws.length from hl)
      clear hn hl
      go_wp2_with fail
      refine (l9Line_1 A c pn nn ws w1 (by omega) hnn5 HR5.out h5 HZ.out h10).mono ?_
      rintro e w2 ⟨rfl, hb⟩
      have HB2 := Lib.hid (after HB.out hb)
      clear hb e0 e1 e2 e3
      go_wp2
      go_ret2
      rw [HX.out, HV.out]
      exact ⟨by first | rfl | (simp; done) | (simp [Array.getD]; done), HB2.out⟩
    · obtain ⟨nn, hnn⟩ : ∃ i : Nat, n = (i : Int) := ⟨n.toNat, by omega⟩
      subst hk hnn
      have hnn5 : nn ≤ 5 := by omega
      have HZ := Lib.hid (show 0 < nn by omega)
      have HL := Lib.hid (show ws.length = 0 from hl)
      clear hn hl
      go_wp2_with fail
      refine (l9Line_2 A c pn nn ws w1 (by omega) hnn5 HR5.out h5 HZ.out h10).mono ?_
      rintro e w2 ⟨rfl, hb⟩
      have HB2 := Lib.hid (after HB.out hb)
      clear hb e0 e1 e2 e3
      go_wp2
      go_ret2
      rw [HX.out, HV.out]
      exact ⟨by first | rfl | (simp; done) | (simp [Array.getD]; done), HB2.out⟩
    · obtain ⟨nn, hnn⟩ : ∃ i : Nat, n = (i : Int) := ⟨n.toNat, by omega⟩
      subst hk hnn
      have hnn5 : nn ≤ 5 := by omega
      have HZ := Lib.hid (show 0 < nn by omega)
      have HL := Lib.hid (show 0 < ws.length from hl)
      clear hn hl
      go_wp2_with fail
      refine (l9Line_3 A c pn nn ws w1 (by omega) hnn5 HR5.out h5 HZ.out h10).mono ?_
      rintro e w2 ⟨rfl, hb⟩
      have HB2 := Lib.hid (after HB.out hb)
      clear hb e0 e1 e2 e3
      go_wp2
      go_ret2
      rw [HX.out, HV.out]
      exact ⟨by first | rfl | (simp; done) | (simp [Array.getD]; done), HB2.out⟩
  · have HV := Lib.hid hv
    have HX := Lib.hid (show alS ⟨k, p, n, ws⟩ = ByteArray.empty from if_neg (by simp [hv]))
    rw [hv]
    clear hv
    go_wp2
    go_ret2
    rw [HX.out, HV.out]
    exact ⟨by first | rfl | (simp; done) | (simp [Array.getD]; done), HB.out⟩
theorem AmendmentLine_any (A : Option Addr) (c : Nat) (a : Amd) (w : World) (ha : Cells w A (strs a.ws)) (hf : Fit a.ws) (hcc : a.ws.length ≤ c) (hA : 0 < a.ws.length → ∃ ad, A = some ad ∧ ad = ⟨ad.block, ad.off, none⟩) (hW : Wds w) :
    Calls Tryd.prog 9 #[.agg #[.int .i64 a.k, .int .i64 a.p, .int .i64 a.n, .slice A a.ws.length c]] w fun e w' => e = .returned (.tuple #[.string (alS a), .bool (vldA a)]) ∧ Below w.heap.size w w' := AmendmentLine_any0 A c a.k a.p a.n a.ws w ha hf hcc hA hW
theorem sAmendmentLine_any (A : Option Addr) (c : Nat) (a : Amd) (w : World) (ha : Cells w A (strs a.ws)) (hf : Fit a.ws) (hcc : a.ws.length ≤ c) :
    Calls Tryd.prog 7 #[.agg #[.int .i64 a.k, .int .i64 a.p, .int .i64 a.n, .slice A a.ws.length c]] w fun e w' => e = .returned (.tuple #[.string (alS a), .bool (vldA a)]) ∧ Below w.heap.size w w' := sAmendmentLine_any0 A c a.k a.p a.n a.ws w ha hf hcc
namespace fnExactAmendmentLine
set_option maxHeartbeats 800000 in
theorem walk (A : Option Addr) (c : Nat) (a : Amd) (w : World) (hW : Wds w) (hc : a.ws.length ≤ c) (ha : Cells w A (strs a.ws)) (hn : a.ws.length ≤ maxLen) (hs : ∀ s ∈ a.ws, s.size ≤ maxLen) (wk : (Lit.int .i64 a.k).wf = true) (wp : (Lit.int .i64 a.p).wf = true) (wn : (Lit.int .i64 a.n).wf = true) :
    Calls Tryd.prog 3 #[.agg #[.int .i64 a.k, .int .i64 a.p, .int .i64 a.n, .slice A a.ws.length c]] w fun e w' => e = .returned (.bool true) ∧ Below w.heap.size w w' := by
  clear wk wp wn hc
  have HW := Lib.hid hW
  clear hW
  by_cases hz : szF a.ws 1048576 < 0
  · go_enter Tryd.func3, Tryd.ntmps3
    go_wp2_with (go_at_call 6; refine (szAmendment_any _ _ _ _ _ (by exact ha.alloc_ _) hn hs (by omega) (by omega)).mono ?_; rintro e w' ⟨rfl, hb⟩; have hB := after (w := w) (by go_grown) hb; clear hb)
    go_ret
    exact ⟨rfl, hB⟩
  · have hf : Fit a.ws := ⟨by have := (szF_ok (Int.not_lt.1 hz)).1; omega, hs⟩
    have x0 := ha.alloc_ (.cells #[.int .i64 a.k, .int .i64 a.p, .int .i64 a.n, .slice A a.ws.length c] 24)
    have b0 := Box4.new w (.int .i64 a.k) (.int .i64 a.p) (.int .i64 a.n) (.slice A a.ws.length c) 24
    have h0 : Below w.heap.size w (w.alloc (.cells #[.int .i64 a.k, .int .i64 a.p, .int .i64 a.n, .slice A a.ws.length c] 24)) := by go_grown
    go_enter Tryd.func3, Tryd.ntmps3
    go_wp2_with fail
    generalize w.alloc (.cells #[.int .i64 a.k, .int .i64 a.p, .int .i64 a.n, .slice A a.ws.length c] 24) = w0 at *
    refine (szAmendment_any A c a _ w0 x0 hn hs (by omega) (by omega)).mono ?_
    rintro e w1 ⟨rfl, hb1⟩
    have x1 := x0.below hb1
    have b1 := b0.below hb1
    have h1 := after h0 hb1
    obtain ⟨e0, e1, e2, e3⟩ := b1
    go_wp2_with fail
    refine (toAmendment_any A c a w1 x1 hf).mono ?_
    rintro e w2 ⟨g1, rfl, own1, hb2⟩
    have x2 := x1.below hb2
    have b2 := Box4.below ⟨e0, e1, e2, e3⟩ hb2
    have h2 := after h1 hb2
    have r1 := Cells.of_own own1
    clear own1 hb1 hb2 e0 e1 e2 e3 x1 h1
    go_wp2_with fail
    refine (sAmendmentLine_any _ _ a w2 r1 hf (Nat.le_refl _)).mono ?_
    rintro e w3 ⟨rfl, hb3⟩
    have x3 := x2.below hb3
    have h3 := after h2 hb3
    obtain ⟨e0, e1, e2, e3⟩ := b2.below hb3
    clear hb3 x2 h2 b2 r1
    go_wp2_with fail
    refine (toAmendment_any A c a w3 x3 hf).mono ?_
    rintro e w4 ⟨g2, rfl, own2, hb4⟩
    have x4 := x3.below hb4
    have b4 := Box4.below ⟨e0, e1, e2, e3⟩ hb4
    have h4 := after h3 hb4
    have r2 := Cells.of_own own2
    clear own2 hb4 e0 e1 e2 e3 x3 h3
    have n4 := Box4.new w4 (.int .i64 a.k) (.int .i64 a.p) (.int .i64 a.n) (.slice (some ⟨g2, 0, none⟩) a.ws.length a.ws.length) 28
    have hn4 : Below w4.heap.size w4 (w4.alloc (.cells #[.int .i64 a.k, .int .i64 a.p, .int .i64 a.n, .slice (some ⟨g2, 0, none⟩) a.ws.length a.ws.length] 28)) := by go_grown
    go_wp2_with fail
    generalize w4.alloc (.cells #[.int .i64 a.k, .int .i64 a.p, .int .i64 a.n, .slice (some ⟨g2, 0, none⟩) a.ws.length a.ws.length] 28) = w5 at *
    have x5 := x4.below hn4
    have b5 := b4.below hn4
    have h5 := after h4 hn4
    have r5 := r2.below hn4
    clear hn4 x4 b4 h4 r2
    refine (AmendmentLine_any _ _ a w5 r5 hf (Nat.le_refl _) (fun _ => ⟨_, rfl, rfl⟩) (HW.out.below h5)).mono ?_
    rintro e w6 ⟨rfl, hb6⟩
    have x6 := x5.below hb6
    have h6 := after h5 hb6
    have r6 := r5.below hb6
    obtain ⟨e0, e1, e2, e3⟩ := b5.below hb6
    obtain ⟨d0, d1, d2, d3⟩ := n4.below hb6
    clear hb6 x5 b5 h5 r5 n4
    have z0 : w.heap.size < w6.heap.size := World.block_lt_of_cell? _ _ e0
    have z1 : w4.heap.size < w6.heap.size := World.block_lt_of_cell? _ _ d0
    go_wp2_with fail
    go_region_held3 (fun w' => Below w6.heap.size w6 w' ∧ (∀ b o, b < w6.heap.size → w'.cell? ⟨b, o, none⟩ = w6.cell? ⟨b, o, none⟩))
      ((first | (refine mkS ?_; assumption) | (refine drewS ?_; assumption) | (refine mkS ?_; go_grown)))
      (first
        | (go_at_call 8; refine (toAmendment_any A c a _ ?_ hf).mono ?_; exact x6.below (S1 (by assumption)); rintro e w' ⟨g3, rfl, own3, hb⟩; have r3 := Cells.of_own own3; clear own3; have hB := (callS (by assumption) (Nat.le_refl _) hb).1; clear hb)
        | (go_at_call 10; refine (eqAmendment_same _ _ _ _ a a _ ?_ ?_ hf rfl).mono ?_; exact r6.below hB; exact r3; rintro e w' ⟨rfl, hb⟩; have hB2 := (callS (by assumption) (Nat.le_refl _) hb).1; clear hb))
    go_wp2
    go_ret
    exact ⟨rfl, after h6 hB2⟩
end fnExactAmendmentLine
end Go.Proofs.YtfncfaamdedmjaaDoor
