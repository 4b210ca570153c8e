/- The statement FnHistoriesSaid of the given rows: for every input the law returns true and leaves what it was handed as it was. Conditions: none. -/
import Derived.Test.YtnnphhhjkhoglaaGreatDoorMHi3
import Derived.Test.YtnnphhhjkhoglaaGreatDoorCu1
import Derived.Test.YtnnphhhjkhoglaaGreatDoorMk
import Derived.Test.YtnnphhhjkhoglaaGreatDoorDk4L
import Derived.Test.YtnnphhhjkhoglaaGreatDoorOpn
import Derived.Deep.DrawnRows
import Derived.Deep.Cut
import Derived.Deep.CutRange
import Derived.Deep.DeepCutAuto
import Derived.Deep.RegionHeld3
import Derived.Test.YtnnphhhjkhoglaaGreatDoorCards
import Derived.Test.YtnnphhhjkhoglaaGreatDoorTie
import Derived.Deep.DeepHandedRow
import Derived.Lib.LaidTab
import Derived.LaidMore
import Derived.ProofKit
import Derived.OpenVars
import Derived.ChangeVars
import Derived.OpenShut
import Derived.ShutString
import Derived.Carry
import Derived.Stop.LaidErr
import Derived.Lib.SmallJoins
namespace Go.Proofs.YtnnphhhjkhoglaaGreatDoor
open Go.RowKit
set_option linter.unusedVariables false
set_option linter.unusedSimpArgs false
set_option maxHeartbeats 1000000 in
theorem AmendmentLine_any0 (A : Option Addr) (c : Nat) (k p n : Int) (ws : List ByteArray) (w : World) (ha : Cells w A (strs ws)) (hf : Fit ws) (hcc : ws.length ≤ c) (hA : 0 < ws.length → ∃ ad, A = some ad ∧ ad = ⟨ad.block, ad.off, none⟩) (hW : Wds w) :
    Calls Tryz.prog 13 #[.agg #[.int .i64 k, .int .i64 p, .int .i64 n, .slice A ws.length c]] w fun e w' => e = .returned (.tuple #[.string (alS ⟨k, p, n, ws⟩), .bool (vldA ⟨k, p, n, ws⟩)]) ∧ Below w.heap.size w w' := by
  have HB := Lib.hid (below1 w (.cells #[.int .i64 k, .int .i64 p, .int .i64 n, .slice A ws.length c] 35))
  have HR := Lib.hid (ha.below HB.out)
  have NX := Lib.hid (BoxL.new w #[.int .i64 k, .int .i64 p, .int .i64 n, .slice A ws.length c] 35)
  have hz : w.heap.size + 1 ≤ (w.alloc (.cells #[.int .i64 k, .int .i64 p, .int .i64 n, .slice A ws.length c] 35)).heap.size := by simp
  have HW := Lib.hid (hW.below HB.out)
  clear ha
  go_enter Tryz.func13, Tryz.ntmps13
  go_wp2_with fail
  generalize w.alloc (.cells #[.int .i64 k, .int .i64 p, .int .i64 n, .slice A ws.length c] 35) = W at *
  refine (IsValidAmendment_any A c ⟨k, p, n, ws⟩ W HR.out hf).mono ?_
  rintro e w1 ⟨rfl, hb⟩
  have HB := Lib.hid (after HB.out hb)
  have HR := Lib.hid (HR.out.below hb)
  have NX := Lib.hid (NX.out.below hb hz)
  have HW := Lib.hid (HW.out.below hb)
  clear hb
  rcases Bool.eq_false_or_eq_true (vldA ⟨k, p, n, ws⟩) with hv | hv
  · have HV := Lib.hid hv
    have HX := Lib.hid (show alS ⟨k, p, n, ws⟩ = aline ⟨k, p, n, ws⟩ from if_pos hv)
    rw [hv]
    obtain ⟨p0, p1, hcase, h5, h10⟩ : 0 ≤ p ∧ p ≤ 20 ∧ ((k = 1 ∧ n = 0 ∧ 1 ≤ ws.length) ∨ (k = 2 ∧ 1 ≤ n ∧ n ≤ 5 ∧ ws.length = 0) ∨ (k = 3 ∧ 1 ≤ n ∧ n ≤ 5 ∧ 1 ≤ ws.length)) ∧ ws.length ≤ 5 ∧ ∀ w ∈ ws, w.size ≤ 10 := vldA_parts hv
    have HR5 := Lib.hid (show RdS w1.heap.size w1 A c ws from ⟨hcc, CellsB.of_cells HR.out, hf⟩)
    obtain ⟨pn, hpn⟩ : ∃ i : Nat, p = (i : Int) := ⟨p.toNat, by omega⟩
    subst hpn
    have e0 := NX.out.2 0 _ rfl
    have e1 := NX.out.2 1 _ rfl
    have e2 := NX.out.2 2 _ rfl
    have e3 := NX.out.2 3 _ rfl
    clear hv
    rcases hcase with ⟨hk, hn, hl⟩ | ⟨hk, hn, hn5, hl⟩ | ⟨hk, hn, hn5, hl⟩
    · obtain ⟨nn, hnn⟩ : ∃ i : Nat, n = (i : Int) := ⟨n.toNat, by omega⟩
      subst hk hnn
      have hnn5 : nn ≤ 5 := by omega
      have HZ := Lib.hid (show nn = 0 by omega)
      have HL := Lib.hid (show 0 < ws.length from hl)
      clear hn hl
      go_wp2_with fail
      refine (amendmentLine_1 A c pn nn ws w1 (by omega) hnn5 HR5.out hA HL.out h5 h10 HW.out).mono ?_
      rintro e w2 ⟨rfl, hb⟩
      have HB2 := Lib.hid (after HB.out hb)
      clear hb e0 e1 e2 e3
      go_wp2
      go_ret2
      rw [HX.out, HV.out]
      exact ⟨by first | rfl | (simp; done) | (simp [Array.getD]; done), HB2.out⟩
    · obtain ⟨nn, hnn⟩ : ∃ i : Nat, n = (i : Int) := ⟨n.toNat, by omega⟩
      subst hk hnn
      have hnn5 : nn ≤ 5 := by omega
      have HZ := Lib.hid (show 0 < nn by omega)
      have HL := Lib.hid (show ws.length = 0 from hl)
      clear hn hl
      go_wp2_with fail
      refine (amendmentLine_2 A c pn nn ws w1 (by omega) hnn5 HR5.out hA HL.out h5 h10 HW.out).mono ?_
      rintro e w2 ⟨rfl, hb⟩
      have HB2 := Lib.hid (after HB.out hb)
      clear hb e0 e1 e2 e3
      go_wp2
      go_ret2
      rw [HX.out, HV.out]
      exact ⟨by first | rfl | (simp; done) | (simp [Array.getD]; done), HB2.out⟩
    · obtain ⟨nn, hnn⟩ : ∃ i : Nat, n = (i : Int) := ⟨n.toNat, by omega⟩
      subst hk hnn
      have hnn5 : nn ≤ 5 := by omega
      have HZ := Lib.hid (show 0 < nn by omega)
      have HL := Lib.hid (show 0 < ws.length from hl)
      clear hn hl
      go_wp2_with fail
      refine (amendmentLine_3 A c pn nn ws w1 (by omega) hnn5 HR5.out hA HL.out h5 h10 HW.out).mono ?_
      rintro e w2 ⟨rfl, hb⟩
      have HB2 := Lib.hid (after HB.out hb)
      clear hb e0 e1 e2 e3
      go_wp2
      go_ret2
      rw [HX.out, HV.out]
      exact ⟨by first | rfl | (simp; done) | (simp [Array.getD]; done), HB2.out⟩
  · have HV := Lib.hid hv
    have HX := Lib.hid (show alS ⟨k, p, n, ws⟩ = ByteArray.empty from if_neg (by simp [hv]))
    rw [hv]
    clear hv
    go_wp2
    go_ret2
    rw [HX.out, HV.out]
    exact ⟨by first | rfl | (simp; done) | (simp [Array.getD]; done), HB.out⟩
set_option maxHeartbeats 1000000 in
theorem sAmendmentLine_any0 (A : Option Addr) (c : Nat) (k p n : Int) (ws : List ByteArray) (w : World) (ha : Cells w A (strs ws)) (hf : Fit ws) (hcc : ws.length ≤ c) :
    Calls Tryz.prog 15 #[.agg #[.int .i64 k, .int .i64 p, .int .i64 n, .slice A ws.length c]] w fun e w' => e = .returned (.tuple #[.string (alS ⟨k, p, n, ws⟩), .bool (vldA ⟨k, p, n, ws⟩)]) ∧ Below w.heap.size w w' := by
  have HB := Lib.hid (below1 w (.cells #[.int .i64 k, .int .i64 p, .int .i64 n, .slice A ws.length c] 35))
  have HR := Lib.hid (ha.below HB.out)
  have NX := Lib.hid (BoxL.new w #[.int .i64 k, .int .i64 p, .int .i64 n, .slice A ws.length c] 35)
  have hz : w.heap.size + 1 ≤ (w.alloc (.cells #[.int .i64 k, .int .i64 p, .int .i64 n, .slice A ws.length c] 35)).heap.size := by simp
  clear ha
  go_enter Tryz.func15, Tryz.ntmps15
  go_wp2_with fail
  generalize w.alloc (.cells #[.int .i64 k, .int .i64 p, .int .i64 n, .slice A ws.length c] 35) = W at *
  refine (l9Good_any A c ⟨k, p, n, ws⟩ W HR.out hf).mono ?_
  rintro e w1 ⟨rfl, hb⟩
  have HB := Lib.hid (after HB.out hb)
  have HR := Lib.hid (HR.out.below hb)
  have NX := Lib.hid (NX.out.below hb hz)
  clear hb
  rcases Bool.eq_false_or_eq_true (vldA ⟨k, p, n, ws⟩) with hv | hv
  · have HV := Lib.hid hv
    have HX := Lib.hid (show alS ⟨k, p, n, ws⟩ = aline ⟨k, p, n, ws⟩ from if_pos hv)
    rw [hv]
    obtain ⟨p0, p1, hcase, h5, h10⟩ : 0 ≤ p ∧ p ≤ 20 ∧ ((k = 1 ∧ n = 0 ∧ 1 ≤ ws.length) ∨ (k = 2 ∧ 1 ≤ n ∧ n ≤ 5 ∧ ws.length = 0) ∨ (k = 3 ∧ 1 ≤ n ∧ n ≤ 5 ∧ 1 ≤ ws.length)) ∧ ws.length ≤ 5 ∧ ∀ w ∈ ws, w.size ≤ 10 := vldA_parts hv
    have HR5 := Lib.hid (show RdS w1.heap.size w1 A c ws from ⟨hcc, CellsB.of_cells HR.out, hf⟩)
    obtain ⟨pn, hpn⟩ : ∃ i : Nat, p = (i : Int) := ⟨p.toNat, by omega⟩
    subst hpn
    have e0 := NX.out.2 0 _ rfl
    have e1 := NX.out.2 1 _ rfl
    have e2 := NX.out.2 2 _ rfl
    have e3 := NX.out.2 3 _ rfl
    clear hv
    rcases hcase with ⟨hk, hn, hl⟩ | ⟨hk, hn, hn5, hl⟩ | ⟨hk, hn, hn5, hl⟩
    · obtain ⟨nn, hnn⟩ : ∃ i : Nat, n = (i : Int) := ⟨n.toNat, by omega⟩
      subst hk hnn
      have hnn5 : nn ≤ 5 := by omega
      have HZ := Lib.hid (show nn = 0 by omega)
      have HL := Lib.hid (show 0 < ws.length from hl)
      clear hn hl
      go_wp2_with fail
      refine (l9Line_1 A c pn nn ws w1 (by omega) hnn5 HR5.out h5 HZ.out h10).mono ?_
      rintro e w2 ⟨rfl, hb⟩
      have HB2 := Lib.hid (after HB.out hb)
      clear hb e0 e1 e2 e3
      go_wp2
      go_ret2
      rw [HX.out, HV.out]
      exact ⟨by first | rfl | (simp; done) | (simp [Array.getD]; done), HB2.out⟩
    · obtain ⟨nn, hnn⟩ : ∃ i : Nat, n = (i : Int) := ⟨n.toNat, by omega⟩
      subst hk hnn
      have hnn5 : nn ≤ 5 := by omega
      have HZ := Lib.hid (show 0 < nn by omega)
      have HL := Lib.hid (show ws.length = 0 from hl)
      clear hn hl
      go_wp2_with fail
      refine (l9Line_2 A c pn nn ws w1 (by omega) hnn5 HR5.out h5 HZ.out h10).mono ?_
      rintro e w2 ⟨rfl, hb⟩
      have HB2 := Lib.hid (after HB.out hb)
      clear hb e0 e1 e2 e3
      go_wp2
      go_ret2
      rw [HX.out, HV.out]
      exact ⟨by first | rfl | (simp; done) | (simp [Array.getD]; done), HB2.out⟩
    · obtain ⟨nn, hnn⟩ : ∃ i : Nat, n = (i : Int) := ⟨n.toNat, by omega⟩
      subst hk hnn
      have hnn5 : nn ≤ 5 := by omega
      have HZ := Lib.hid (show 0 < nn by omega)
      have HL := Lib.hid (show 0 < ws.length from hl)
      clear hn hl
      go_wp2_with fail
      refine (l9Line_3 A c pn nn ws w1 (by omega) hnn5 HR5.out h5 HZ.out h10).mono ?_
      rintro e w2 ⟨rfl, hb⟩
      have HB2 := Lib.hid (after HB.out hb)
      clear hb e0 e1 e2 e3
      go_wp2
      go_ret2
      rw [HX.out, HV.out]
      exact ⟨by first | rfl | (simp; done) | (simp [Array.getD]; done), HB2.out⟩
  · have HV := Lib.hid hv
    have HX := Lib.hid (show alS ⟨k, p, n, ws⟩ = ByteArray.empty from if_neg (by simp [hv]))
    rw [hv]
    clear hv
    go_wp2
    go_ret2
    rw [HX.out, HV.out]
    exact ⟨by first | rfl | (simp; done) | (simp [Array.getD]; done), HB.out⟩
theorem AmendmentLine_any (A : Option Addr) (c : Nat) (a : Amd) (w : World) (ha : Cells w A (strs a.ws)) (hf : Fit a.ws) (hcc : a.ws.length ≤ c) (hA : 0 < a.ws.length → ∃ ad, A = some ad ∧ ad = ⟨ad.block, ad.off, none⟩) (hW : Wds w) :
    Calls Tryz.prog 13 #[.agg #[.int .i64 a.k, .int .i64 a.p, .int .i64 a.n, .slice A a.ws.length c]] w fun e w' => e = .returned (.tuple #[.string (alS a), .bool (vldA a)]) ∧ Below w.heap.size w w' := AmendmentLine_any0 A c a.k a.p a.n a.ws w ha hf hcc hA hW
theorem sAmendmentLine_any (A : Option Addr) (c : Nat) (a : Amd) (w : World) (ha : Cells w A (strs a.ws)) (hf : Fit a.ws) (hcc : a.ws.length ≤ c) :
    Calls Tryz.prog 15 #[.agg #[.int .i64 a.k, .int .i64 a.p, .int .i64 a.n, .slice A a.ws.length c]] w fun e w' => e = .returned (.tuple #[.string (alS a), .bool (vldA a)]) ∧ Below w.heap.size w w' := sAmendmentLine_any0 A c a.k a.p a.n a.ws w ha hf hcc
namespace fnExactAmendmentLine
end fnExactAmendmentLine
end Go.Proofs.YtnnphhhjkhoglaaGreatDoor
namespace Go.Proofs.YtnnphhhjkhoglaaGreatDoor
open Go.RowKit
set_option linter.unusedVariables false
set_option linter.unusedSimpArgs false
/-- A struct in a block that is there. -/
def BoxX (w : World) (q : Nat) (vs : List Value) : Prop := BoxF w q vs ∧ q < w.heap.size
theorem BoxX.step {w w' : World} {q : Nat} {vs : List Value} (h : BoxX w q vs) (hb : Below w.heap.size w w') : BoxX w' q vs := ⟨h.1.below hb h.2, Nat.lt_of_lt_of_le h.2 hb.size⟩
theorem BoxX.new (w : World) (vs : Array Value) (T : TypeId) : BoxX (w.alloc (.cells vs T)) w.heap.size vs.toList := ⟨BoxF.new' w vs T _ rfl, by simp⟩
theorem RdS.grow {w w' : World} {A : Option Addr} {c : Nat} {ss : List ByteArray} (h : RdS w.heap.size w A c ss) (hb : Below w.heap.size w w') : RdS w'.heap.size w' A c ss := RdS.step h hb
theorem OwS.rdX {lo : Nat} {w : World} {A : Option Addr} {c : Nat} {ss : List ByteArray} (h : OwS lo w.heap.size w A c ss) : RdS w.heap.size w A c ss := OwS.rd h
theorem BytesC.grow {w w' : World} {A : Option Addr} {n : Nat} (h : BytesC w A n) (hb : Below w.heap.size w w') : BytesC w' A n := h.block fun a _ hl => hb.block _ hl
theorem drew_exF {w : World} {m n : Nat} : ∃ k, (w.drewN m).drewN n = w.drewN k := ⟨m + n, World.drewN_drewN _ _ _⟩
theorem vBig_any (A : Option Addr) (n c : Nat) (w : World) : Calls Tryz.prog 4 #[.slice A n c] w fun e w' => e = .returned (.bool (decide (65536 < n))) ∧ Below w.heap.size w w' := by
  go_enter Tryz.func4, Tryz.ntmps4
  go_wp2
  go_ret
  exact ⟨ret_bool (by simp; try omega), Below.refl _ _⟩
set_option maxHeartbeats 1000000 in
theorem vTexts_same {B B' : Nat} {A A' : Option Addr} {c c' : Nat} {ss : List ByteArray} {w : World} (h : RdS B w A c ss) (h' : RdS B' w A' c' ss) :
    Calls Tryz.prog 8 #[.slice A ss.length c, .slice A' ss.length c'] w fun e w' => e = .returned (.bool true) ∧ Below w.heap.size w w' := by
  have ha := h.cells
  have hb := h'.cells
  have hn := h.2.2.1
  have hne : ((ss.length : Int) != (ss.length : Int)) = false := by simp
  clear h h'
  go_enter Tryz.func8, Tryz.ntmps8
  go_wp2
  go_loopw [5] (fun i wr => ∃ k : Nat, k ≤ ss.length ∧ i = .int .i64 k ∧ ∃ m, wr = w.drewN m) (fun i _ => ss.length - (intOf i).toNat)
  case atStart => exact ⟨0, Nat.zero_le _, rfl, 0, rfl⟩
  case round =>
    obtain ⟨k, hk, rfl, m, rfl⟩ := hrel
    by_cases hlt : k < ss.length
    · obtain ⟨a, rfl, hca⟩ := ha k (.string ss[k]) (strs_get hlt)
      obtain ⟨b, rfl, hcb⟩ := hb k (.string ss[k]) (strs_get hlt)
      have i1 : (k : Int) < (ss.length : Int) := by omega
      obtain ⟨s, hs⟩ : ∃ s, ss[k] = s := ⟨_, rfl⟩
      rw [hs] at hca hcb
      have hss := same_yes (rfl : s = s)
      clear hs
      go_wp2
      go_quiet (fail)
      go_wp2
      go_roundw
      case rel => exact ⟨k + 1, hlt, by go_num, by first | exact ⟨_, rfl⟩ | exact drew_exF⟩
      case measure => simp [intOf]; omega
    · obtain rfl : k = ss.length := by omega
      go_wp2
      go_ret
      exact ⟨rfl, below_drewN (Below.refl _ _) m⟩
end Go.Proofs.YtnnphhhjkhoglaaGreatDoor
namespace Go.Proofs.YtnnphhhjkhoglaaGreatDoor
open Go.RowKit
set_option linter.unusedVariables false
set_option linter.unusedSimpArgs false
theorem vAmendment_same {B B' : Nat} {A A' : Option Addr} {c c' : Nat} {a : Amd} {w : World} (h : RdS B w A c a.ws) (h' : RdS B' w A' c' a.ws) :
    Calls Tryz.prog 11 #[.agg #[.int .i64 a.k, .int .i64 a.p, .int .i64 a.n, .slice A a.ws.length c], .agg #[.int .i64 a.k, .int .i64 a.p, .int .i64 a.n, .slice A' a.ws.length c']] w fun e w' => e = .returned (.bool true) ∧ Below w.heap.size w w' := by
  have hb := below2 w (.cells #[.int .i64 a.k, .int .i64 a.p, .int .i64 a.n, .slice A a.ws.length c] 35) (.cells #[.int .i64 a.k, .int .i64 a.p, .int .i64 a.n, .slice A' a.ws.length c'] 35)
  have HX : Hid (∀ (X Y : Nat) (C C' : Option Addr) (d d' : Nat) (W : World), RdS X W C d a.ws → RdS Y W C' d' a.ws → Calls Tryz.prog 8 #[.slice C a.ws.length d, .slice C' a.ws.length d'] W fun e w' => e = .returned (.bool true) ∧ Below W.heap.size W w') := Lib.hid fun X Y C C' d d' W h1 h2 => vTexts_same h1 h2
  have H1 := Lib.hid (RdS.below (show RdS w.heap.size w A c a.ws from ⟨h.1, CellsB.of_cells (h.cells), h.2.2⟩) hb (Nat.le_refl _))
  have H2 := Lib.hid (RdS.below (show RdS w.heap.size w A' c' a.ws from ⟨h'.1, CellsB.of_cells (h'.cells), h'.2.2⟩) hb (Nat.le_refl _))
  have HB := Lib.hid hb
  have k1 : (a.k == a.k) = true := by simp
  have k2 : (a.p == a.p) = true := by simp
  have k3 : (a.n == a.n) = true := by simp
  clear h h' hb
  go_enter Tryz.func11, Tryz.ntmps11
  go_wp2_with fail
  refine (HX.out _ _ _ _ _ _ _ H1.out H2.out).mono ?_
  rintro e w1 ⟨rfl, hb⟩
  have HB1 := Lib.hid (HB.out.trans (hb.mono HB.out.size))
  clear hb
  go_wp2
  go_ret
  exact ⟨rfl, HB1.out⟩
end Go.Proofs.YtnnphhhjkhoglaaGreatDoor
namespace Go.Proofs.YtnnphhhjkhoglaaGreatDoor
open Go.RowKit
set_option linter.unusedVariables false
/-- A row of texts that is read. -/
structure NowS (w : World) (T : Option Addr) (t : Nat) (ss : List ByteArray) : Prop where
  cells : Cells w T (strs ss)
  cap : ss.length ≤ t
  fit : Fit ss
  form : 0 < ss.length → ∃ ad, T = some ad ∧ ad = ⟨ad.block, ad.off, none⟩
/-- A list of amendments that is read. -/
structure NowQ (w : World) (O : Option Addr) (oc : Nat) (qs : List Amd) : Prop where
  dl : DLQ w O oc qs
  fit : FitQ qs
section
variable {w w' : World} {T O : Option Addr} {t oc lo hi : Nat} {ss : List ByteArray} {qs : List Amd}
theorem NowS.call (h : NowS w T t ss) (hb : Below w.heap.size w w') : NowS w' T t ss := ⟨h.cells.below hb, h.cap, h.fit, h.form⟩
theorem NowS.own (h : OwS lo hi w T t ss) : NowS w T t ss := ⟨h.rd.cells, own_cap h.1, h.2.2, own_form h⟩
theorem NowS.ofI (h : OwI lo w T t ss) (hf : Fit ss) : NowS w T t ss := NowS.own (OwS.mk h hf)
theorem NowS.rds (h : NowS w T t ss) : RdS w.heap.size w T t ss := ⟨h.cap, CellsB.of_cells h.cells, h.fit⟩
theorem NowQ.call (h : NowQ w O oc qs) (hb : Below w.heap.size w w') : NowQ w' O oc qs := ⟨h.dl.below hb, h.fit⟩
theorem NowQ.own (h : OwQ lo hi w O oc qs) : NowQ w O oc qs := ⟨h.rd.1.dl, h.rd.2⟩
end
theorem shq_fit {qs : List Amd} (h : ShQ qs) (hl : qs.length ≤ 9) : FitQ qs :=
  ⟨by omega, fun q hq => short_fit (h q hq).2 (by have := (h q hq).1; omega), by have := cntV_small (fun q hq => (h q hq).1); omega⟩
theorem alS_size (a : Amd) : (alS a).size ≤ 1048576 := by
  unfold alS
  by_cases h : vldA a = true
  · rw [if_pos h]; have := aline_size h; omega
  · rw [if_neg h]; exact Nat.zero_le _
theorem line_back {a : Amd} (h : vldA a = true) : amR (amI (alS a).data.toList) = a ∧ amB (amI (alS a).data.toList) = true := by
  have h1 : (alS a).data.toList = alL a := by unfold alS alL; rw [if_pos h]
  rw [h1, (am_yes h).1]
  exact ⟨rfl, rfl⟩
theorem back_line {x : ByteArray} (h : amB (amI x.data.toList) = true) : vldA (amR (amI x.data.toList)) = true ∧ alS (amR (amI x.data.toList)) = x := by
  cases e : amI x.data.toList with
  | none => rw [e] at h; cases h
  | some a =>
    obtain ⟨h1, h2⟩ := am_text e
    refine ⟨h1, ?_⟩
    show alS a = x
    unfold alS
    rw [if_pos h1]
    exact bytes_ext h2
end Go.Proofs.YtnnphhhjkhoglaaGreatDoor
namespace Go.Proofs.YtnnphhhjkhoglaaGreatDoor
open Go.ChangeShapes Go.WideShapes Go.ChangeAt Go.RowKit Go.Joins
set_option linter.unusedVariables false
def ByteK : Kd Int := ⟨1, fun x => [.int .u8 x], fun _ => rfl, fun x => 0 ≤ x ∧ x ≤ 255⟩
theorem bytesC_of {w : World} {A : Option Addr} {xs : List Int} (h : Cells w A (ByteK.row xs)) (hf : ∀ x ∈ xs, ByteK.fit x) : BytesC w A xs.length := fun i hi => by
  obtain ⟨ad, hA, hc⟩ := Rd.at_ h hi (by decide)
  have h0 := hc 0 _ rfl
  have h1 := hf _ (List.getElem_mem hi)
  exact ⟨ad, xs[i], hA, h1.1, h1.2, by simpa [ByteK] using h0⟩
section
variable {H : Type} {enc : TypeId × Value → H} {w : World} {base : Nat} {spare : Nat → Bool} {held : Bool}
theorem byte_dec {n : Nat} {cs : List Value} {y : DataW H × List MemPlace} (h : DataW.trod enc Tryz.prog w base spare held n 5 cs = some y) : ∃ x : Int, ByteK.enc x = cs ∧ ByteK.fit x := by
  obtain ⟨x, rfl, _, hw⟩ := DataW.trod_int Tryz.underlying5 h
  refine ⟨x, rfl, ?_⟩
  have h1 : IntKind.u8.min ≤ x ∧ x ≤ IntKind.u8.max := by simpa [Lit.wf] using hw
  exact h1
set_option maxRecDepth 100000 in
theorem codeIn {r : Reach} {b0 : Nat} {v : Value} {d : DataW H} {p : List MemPlace} (hv : Value.okWide Tryz.prog w r b0 22 v) (h : DataW.Trod enc Tryz.prog w base spare held 22 v d p) :
    ∃ (A : Option Addr) (c : Nat) (xs : List Int), v = .slice A xs.length c ∧ (xs.length ≤ c ∧ Cells w A (ByteK.row xs) ∧ xs.length ≤ maxLen ∧ ∀ x ∈ xs, ByteK.fit x) := by
  obtain ⟨A, c, xs, rfl, h1⟩ := slice_in ByteK Tryz.underlying22 (by kernel_rfl) (fun _ _ _ h => byte_dec h) hv h
  exact ⟨A, c, xs, rfl, h1⟩
end
end Go.Proofs.YtnnphhhjkhoglaaGreatDoor
namespace Go.Proofs.YtnnphhhjkhoglaaGreatDoor.fnHistories
open Go.RowKit
set_option linter.unusedVariables false
set_option linter.unusedSimpArgs false
attribute [local go_sem ↓] Go.wp_at_zero Go.wp_at_succ
set_option maxRecDepth 100000 in
set_option maxHeartbeats 16000000 in
theorem walk (A : Option Addr) (c : Nat) (xs : List Int) (w : World) (hm : Cx w) (h4 : Wds4 w) (hx : xs.length ≤ c ∧ Cells w A (ByteK.row xs) ∧ xs.length ≤ maxLen ∧ ∀ x ∈ xs, ByteK.fit x) :
    Calls Tryz.prog 3 #[.slice A xs.length c] w fun e w' => e = .returned (.bool true) ∧ Below w.heap.size w w' := by
  have S := Lib.hid (Lst.mk (Below.refl w.heap.size w) (bytesC_of hx.2.1 hx.2.2.2))
  have HM := Lib.hid hm
  have H4 := Lib.hid h4
  clear hx hm h4
  by_cases hbig : 65536 < xs.length
  · have hd : decide (65536 < xs.length) = true := decide_eq_true hbig
    go_enter Tryz.func3, Tryz.ntmps3
    go_wp2_with fail
    refine (vBig_any A _ c w).mono ?_
    rintro e w1 ⟨rfl, hb⟩
    rw [hd]
    go_wp2
    go_ret
    exact ⟨rfl, hb⟩
  have hd : decide (65536 < xs.length) = false := decide_eq_false hbig
  have hxl : xs.length ≤ 65536 := by omega
  clear hbig
  go_enter Tryz.func3, Tryz.ntmps3
  go_wp2_with fail
  refine (vBig_any A _ c w).mono ?_
  rintro e v1 ⟨rfl, hb⟩
  replace S := Lib.hid (S.out.call hb)
  rw [hd]
  clear hd hb
  go_wp2_with fail
  refine (DrawRebuildText_any A _ c v1 S.out.bytes hxl).mono ?_
  rintro e v2 ⟨T, t, ss, O, oc, qs, hs, rfl, hl, hsh, own, hlq, hshq, ov, hb⟩
  replace S := Lib.hid (S.out.call hb)
  have HFQ := Lib.hid (shq_fit hshq hlq)
  have R := Lib.hid (NowS.ofI own (short_fit hsh (by omega)))
  have Q := Lib.hid (NowQ.own (OwV.own ov HFQ.out))
  clear own hl hsh ov hshq hb HFQ
  have HT := Lib.hid (hist_told (ss := ss) (ps := qs))
  have HU := Lib.hid (hist_law (ss := ss) (ps := qs))
  obtain ⟨bs, Hbs⟩ : ∃ z, Hid (rebL ss qs = z) := ⟨_, Lib.hid rfl⟩
  obtain ⟨n, Hn⟩ : ∃ z, Hid (rebN ss qs = z) := ⟨_, Lib.hid rfl⟩
  obtain ⟨ok, Hok⟩ : ∃ z, Hid (rebB ss qs = z) := ⟨_, Lib.hid rfl⟩
  obtain ⟨us, Hus⟩ : ∃ z, Hid (undoL ss qs = z) := ⟨_, Lib.hid rfl⟩
  obtain ⟨told, Htold⟩ : ∃ z, Hid (undoB ss qs = z) := ⟨_, Lib.hid rfl⟩
  rw [Hn.out, Hok.out, Htold.out] at HT
  rw [Hbs.out, Hus.out, Htold.out] at HU
  go_wp2_with fail
  refine (RebuildText_any T O t oc ss qs v2 R.out.cells R.out.cap R.out.fit Q.out.dl Q.out.fit).mono ?_
  rintro e v3 ⟨B, bc, rfl, own, hb⟩
  replace S := Lib.hid (S.out.call hb)
  replace R := Lib.hid (R.out.call hb)
  replace Q := Lib.hid (Q.out.call hb)
  have Bf := Lib.hid (NowS.own own)
  rw [Hbs.out] at Bf
  rw [Hbs.out, Hn.out, Hok.out]
  clear own hb
  go_wp2_with fail
  refine (sRebuildText_any T O t oc ss qs v3 R.out.cells R.out.cap R.out.fit Q.out.dl Q.out.fit).mono ?_
  rintro e v4 ⟨C, cc, rfl, own, hb⟩
  replace S := Lib.hid (S.out.call hb)
  replace R := Lib.hid (R.out.call hb)
  replace Q := Lib.hid (Q.out.call hb)
  replace Bf := Lib.hid (Bf.out.call hb)
  have Cf := Lib.hid (NowS.own own)
  rw [Hbs.out] at Cf
  rw [Hbs.out, Hn.out, Hok.out]
  clear own hb
  have kb : (ok != ok) = false := by simp
  have kn : (n != n) = false := by simp
  go_wp2_with fail
  refine (vTexts_same Bf.out.rds Cf.out.rds).mono ?_
  rintro e v5 ⟨rfl, hb⟩
  replace S := Lib.hid (S.out.call hb)
  replace R := Lib.hid (R.out.call hb)
  replace Q := Lib.hid (Q.out.call hb)
  replace Bf := Lib.hid (Bf.out.call hb)
  replace Cf := Lib.hid (Cf.out.call hb)
  clear hb
  clear Cf
  go_wp2_with fail
  refine (UndoAmendments_any T O t oc ss qs v5 R.out.cells R.out.cap R.out.fit Q.out.dl Q.out.fit).mono ?_
  rintro e v6 ⟨U, uc, rfl, own, hb⟩
  replace S := Lib.hid (S.out.call hb)
  replace R := Lib.hid (R.out.call hb)
  replace Q := Lib.hid (Q.out.call hb)
  replace Bf := Lib.hid (Bf.out.call hb)
  have UU := Lib.hid (NowQ.own own)
  rw [Hus.out] at UU
  rw [Hus.out, Htold.out]
  clear own hb
  go_wp2_with fail
  refine (sUndoAmendments_any T O t oc ss qs v6 R.out.cells R.out.cap R.out.fit Q.out.dl Q.out.fit).mono ?_
  rintro e v7 ⟨V, vc, rfl, own, hb⟩
  replace S := Lib.hid (S.out.call hb)
  replace R := Lib.hid (R.out.call hb)
  replace Q := Lib.hid (Q.out.call hb)
  replace Bf := Lib.hid (Bf.out.call hb)
  replace UU := Lib.hid (UU.out.call hb)
  have VV := Lib.hid (NowQ.own own)
  rw [Hus.out] at VV
  rw [Hus.out, Htold.out]
  clear own hb
  have kt : (told != told) = false := by simp
  have ku : ((us.length : Int) != (us.length : Int)) = false := by simp
  go_upto_region 10 with fail
  go_cut [98] (fun s wx => s = .bool false ∧ wx = v7)
  case first =>
    rcases Bool.eq_false_or_eq_true ok with hk | hk
    · have h9 := HT.out hk
      clear HT HU
      subst hk
      by_cases hn9 : n = (qs.length : Int)
      · have j1 : (n == (qs.length : Int)) = true := by simp [hn9]
        have j2 : told = true := by rw [h9]; exact decide_eq_true hn9
        clear h9
        subst j2
        clear hn9
        go_wp2_with fail
        go_meet
        exact ⟨rfl, rfl⟩
      · have j1 : (n == (qs.length : Int)) = false := by simp [hn9]
        have j2 : told = false := by rw [h9]; exact decide_eq_false hn9
        clear h9
        subst j2
        go_wp2_with fail
        go_meet
        exact ⟨rfl, rfl⟩
    · subst hk
      go_wp2_with fail
      go_meet
      exact ⟨rfl, rfl⟩
  obtain ⟨rfl, hwc⟩ := hcut
  have hwc2 := hwc.symm
  clear hwc
  subst hwc2
  clear Q
  clear HT kb kn kt Hbs Hn Hok Hus Htold
  go_wp2
  go_loopw [15] (fun i wr => ∃ k : Nat, k ≤ us.length ∧ i = .int .i64 k ∧ Hid (Lst w wr A xs.length) ∧ Hid (NowS wr T t ss) ∧ Hid (NowS wr B bc bs) ∧ Hid (NowQ wr U uc us) ∧ Hid (NowQ wr V vc us)) (fun i _ => us.length - (intOf i).toNat)
  case atStart => exact ⟨0, Nat.zero_le _, rfl, S, R, Bf, UU, VV⟩
  case round =>
    clear S R Bf UU VV
    obtain ⟨wq, hwq⟩ : ∃ x : World, x = wr := ⟨_, rfl⟩
    subst hwq
    obtain ⟨k, hk, rfl, S, R, Bf, UU, VV⟩ := hrel
    have hF := UU.out.fit.1
    by_cases hlt : k < us.length
    · obtain ⟨a0, N, d, hU, ⟨hc0, hc1, hc2, hc3⟩, hle, hcw⟩ := UU.out.dl.at_ hlt
      obtain ⟨b0, M, m, hV, ⟨hd0, hd1, hd2, hd3⟩, hme, hdw⟩ := VV.out.dl.at_ hlt
      have i1 : (k : Int) < (us.length : Int) := by omega
      have hfa := UU.out.fit.2.1 us[k] (List.getElem_mem hlt)
      subst hU hV
      obtain ⟨a, ha⟩ : ∃ a, Hid (us[k] = a) := ⟨_, Lib.hid rfl⟩
      rw [ha.out] at hc0 hc1 hc2 hc3 hle hcw hd0 hd1 hd2 hd3 hme hdw hfa
      have HX : Hid (∀ W, Below wq.heap.size wq W → Calls Tryz.prog 11 #[.agg #[.int .i64 a.k, .int .i64 a.p, .int .i64 a.n, .slice N a.ws.length d], .agg #[.int .i64 a.k, .int .i64 a.p, .int .i64 a.n, .slice M a.ws.length m]] W fun e w' => e = .returned (.bool true) ∧ Below W.heap.size W w') := Lib.hid (fun W hW => vAmendment_same (B := W.heap.size) (B' := W.heap.size) ⟨hle, CellsB.of_cells (hcw.below hW), hfa⟩ ⟨hme, CellsB.of_cells (hdw.below hW), hfa⟩)
      clear hle hcw hme hdw hfa ha hk ku HU
      go_wp2
      go_region_held3 (fun w' => Below wq.heap.size wq w' ∧ w'.cell? (a0.add (k * 4)) = some (.int .i64 a.k) ∧ w'.cell? ⟨(a0.add (k * 4)).block, (a0.add (k * 4)).off + 1, none⟩ = some (.int .i64 a.p) ∧ w'.cell? ⟨(a0.add (k * 4)).block, (a0.add (k * 4)).off + 2, none⟩ = some (.int .i64 a.n) ∧ w'.cell? ⟨(a0.add (k * 4)).block, (a0.add (k * 4)).off + 3, none⟩ = some (.slice N a.ws.length d) ∧ w'.cell? (b0.add (k * 4)) = some (.int .i64 a.k) ∧ w'.cell? ⟨(b0.add (k * 4)).block, (b0.add (k * 4)).off + 1, none⟩ = some (.int .i64 a.p) ∧ w'.cell? ⟨(b0.add (k * 4)).block, (b0.add (k * 4)).off + 2, none⟩ = some (.int .i64 a.n) ∧ w'.cell? ⟨(b0.add (k * 4)).block, (b0.add (k * 4)).off + 3, none⟩ = some (.slice M a.ws.length m))
        ((first | exact ⟨(Below.refl _ _).drew, hc0, hc1, hc2, hc3, hd0, hd1, hd2, hd3⟩ | (refine ⟨hb, (hb.cell (World.block_lt_of_cell? _ _ hc0)).trans hc0, (hb.cell (World.block_lt_of_cell? _ _ hc1)).trans hc1, (hb.cell (World.block_lt_of_cell? _ _ hc2)).trans hc2, (hb.cell (World.block_lt_of_cell? _ _ hc3)).trans hc3, (hb.cell (World.block_lt_of_cell? _ _ hd0)).trans hd0, (hb.cell (World.block_lt_of_cell? _ _ hd1)).trans hd1, (hb.cell (World.block_lt_of_cell? _ _ hd2)).trans hd2, (hb.cell (World.block_lt_of_cell? _ _ hd3)).trans hd3⟩)))
        (first
          | (go_at_call 11; refine (HX.out _ (Below.refl _ _).drew).mono ?_; rintro e w2 ⟨rfl, hb0⟩; have hb := (below_drewN (Below.refl wq.heap.size wq) 1).trans hb0; clear hb0))
      replace S := Lib.hid (S.out.call hb)
      replace R := Lib.hid (R.out.call hb)
      replace Bf := Lib.hid (Bf.out.call hb)
      replace UU := Lib.hid (UU.out.call hb)
      replace VV := Lib.hid (VV.out.call hb)
      clear hb HX
      go_wp2_with fail
      go_roundw
      case rel => exact ⟨k + 1, hlt, by go_num, S, R, Bf, UU, VV⟩
      case measure => simp [intOf]; omega
    · have i1 : ¬ (k : Int) < (us.length : Int) := by omega
      clear hk hlt hF
      clear VV
      go_upto_if 115 with fail
      go_cut [] (fun wx => Hid (Lst w wx A xs.length))
      case first =>
        rcases Bool.eq_false_or_eq_true told with hk | hk
        · obtain ⟨h1, h2, h3⟩ := HU.out hk
          have H1 := Lib.hid h1
          have H2 := Lib.hid h2
          have H3 := Lib.hid h3
          clear h1 h2 h3 HU
          subst hk
          go_wp2_with fail
          refine (RebuildText_any B U bc uc bs us wq Bf.out.cells Bf.out.cap Bf.out.fit UU.out.dl UU.out.fit).mono ?_
          rintro e v8 ⟨Y, yc, rfl, own, hb⟩
          replace S := Lib.hid (S.out.call hb)
          replace R := Lib.hid (R.out.call hb)
          replace Bf := Lib.hid (Bf.out.call hb)
          replace UU := Lib.hid (UU.out.call hb)
          have YY := Lib.hid (NowS.own own)
          rw [H1.out] at YY
          rw [H1.out, H2.out, H3.out]
          clear own hb
          go_wp2_with fail
          refine (vTexts_same YY.out.rds R.out.rds).mono ?_
          rintro e v9 ⟨rfl, hb⟩
          replace S := Lib.hid (S.out.call hb)
          replace R := Lib.hid (R.out.call hb)
          replace Bf := Lib.hid (Bf.out.call hb)
          replace UU := Lib.hid (UU.out.call hb)
          replace YY := Lib.hid (YY.out.call hb)
          clear hb
          go_wp2_with fail
          go_meet
          exact S
        · subst hk
          go_wp2_with fail
          go_meet
          exact S
      case rest =>
        clear S R Bf UU HU i1 ku
        obtain ⟨W, rfl⟩ : ∃ W, W = wc := ⟨_, rfl⟩
        have S := hcut
        clear hcut
        go_wp2_with fail
        refine (DrawAmendmentLine_any A _ c W S.out.bytes hxl).mono ?_
        rintro e v10 ⟨N, d, a, rfl, hws, hsh, own, hb⟩
        replace S := Lib.hid (S.out.call hb)
        have NA := Lib.hid (NowS.ofI own (short_fit hsh (by omega)))
        clear hws hsh own hb
        have Ba := Lib.hid (BT.new v10 #[.int .i64 a.k, .int .i64 a.p, .int .i64 a.n, .slice N a.ws.length d] 35 v10.heap.size rfl)
        have hbl := below1 v10 (.cells #[.int .i64 a.k, .int .i64 a.p, .int .i64 a.n, .slice N a.ws.length d] 35)
        replace S := Lib.hid (S.out.call hbl)
        replace NA := Lib.hid (NA.out.call hbl)
        clear hbl
        go_upto_region 22 with fail
        generalize (v10.alloc (.cells #[.int .i64 a.k, .int .i64 a.p, .int .i64 a.n, .slice N a.ws.length d] 35)) = v11 at *
        generalize v10.heap.size = qa at *
        have HL := Lib.hid (line_back (a := a))
        have HZ := Lib.hid (alS_size a)
        obtain ⟨s, Hs⟩ : ∃ z, Hid (alS a = z) := ⟨_, Lib.hid rfl⟩
        obtain ⟨ok2, Hv⟩ : ∃ z, Hid (vldA a = z) := ⟨_, Lib.hid rfl⟩
        rw [Hs.out, Hv.out] at HL
        rw [Hs.out] at HZ
        obtain ⟨r, Hr⟩ : ∃ z, Hid (amR (amI s.data.toList) = z) := ⟨_, Lib.hid rfl⟩
        obtain ⟨rd, Hd⟩ : ∃ z, Hid (amB (amI s.data.toList) = z) := ⟨_, Lib.hid rfl⟩
        rw [Hr.out, Hd.out] at HL
        have ea0 := Ba.out.box.1 0 _ rfl
        have ea1 := Ba.out.box.1 1 _ rfl
        have ea2 := Ba.out.box.1 2 _ rfl
        have ea3 := Ba.out.box.1 3 _ rfl
        go_wp2_with fail
        refine (AmendmentLine_any N d a v11 NA.out.cells NA.out.fit NA.out.cap NA.out.form (H4.out.below S.out.on).1).mono ?_
        rintro e v12 ⟨rfl, hb⟩
        replace S := Lib.hid (S.out.call hb)
        replace NA := Lib.hid (NA.out.call hb)
        replace Ba := Lib.hid (Ba.out.call hb)
        rw [Hs.out, Hv.out]
        clear hb ea0 ea1 ea2 ea3
        go_wp2_with fail
        refine (ParseAmendment_any s v12 HZ.out (HM.out.below S.out.on) (H4.out.below S.out.on)).mono ?_
        rintro e v13 ⟨B2, b2, rfl, own, hb⟩
        replace S := Lib.hid (S.out.call hb)
        replace NA := Lib.hid (NA.out.call hb)
        replace Ba := Lib.hid (Ba.out.call hb)
        have NB := Lib.hid (NowS.own own)
        rw [Hr.out] at NB
        rw [Hr.out, Hd.out]
        clear own hb
        have Bb := Lib.hid (BT.new v13 #[.int .i64 r.k, .int .i64 r.p, .int .i64 r.n, .slice B2 r.ws.length b2] 35 v13.heap.size rfl)
        have hbl := below1 v13 (.cells #[.int .i64 r.k, .int .i64 r.p, .int .i64 r.n, .slice B2 r.ws.length b2] 35)
        replace S := Lib.hid (S.out.call hbl)
        replace NA := Lib.hid (NA.out.call hbl)
        replace Ba := Lib.hid (Ba.out.call hbl)
        replace NB := Lib.hid (NB.out.call hbl)
        clear hbl
        go_upto_region 24 with fail
        generalize (v13.alloc (.cells #[.int .i64 r.k, .int .i64 r.p, .int .i64 r.n, .slice B2 r.ws.length b2] 35)) = v14 at *
        generalize v13.heap.size = qb at *
        have ea0 := Ba.out.box.1 0 _ rfl
        have ea1 := Ba.out.box.1 1 _ rfl
        have ea2 := Ba.out.box.1 2 _ rfl
        have ea3 := Ba.out.box.1 3 _ rfl
        go_wp2_with fail
        refine (sAmendmentLine_any N d a v14 NA.out.cells NA.out.fit NA.out.cap).mono ?_
        rintro e v15 ⟨rfl, hb⟩
        replace S := Lib.hid (S.out.call hb)
        replace NA := Lib.hid (NA.out.call hb)
        replace Ba := Lib.hid (Ba.out.call hb)
        replace NB := Lib.hid (NB.out.call hb)
        replace Bb := Lib.hid (Bb.out.call hb)
        rw [Hs.out, Hv.out]
        clear hb ea0 ea1 ea2 ea3
        clear Hs Hv Hr Hd HZ
        have kk : (ok2 != ok2) = false := by simp
        go_upto_region 25 with fail
        go_cut [24, 25, 174] (fun u1 u2 s wx => s = .bool false ∧ Hid (Lst w wx A xs.length))
        case first =>
          rcases Bool.eq_false_or_eq_true ok2 with hk | hk
          · obtain ⟨h1, h2⟩ := HL.out hk
            clear HL
            subst h1 h2 hk
            have ea0 := Ba.out.box.1 0 _ rfl
            have ea1 := Ba.out.box.1 1 _ rfl
            have ea2 := Ba.out.box.1 2 _ rfl
            have ea3 := Ba.out.box.1 3 _ rfl
            have eb0 := Bb.out.box.1 0 _ rfl
            have eb1 := Bb.out.box.1 1 _ rfl
            have eb2 := Bb.out.box.1 2 _ rfl
            have eb3 := Bb.out.box.1 3 _ rfl
            go_wp2_with fail
            refine (vAmendment_same NB.out.rds NA.out.rds).mono ?_
            rintro e v16 ⟨rfl, hb⟩
            replace S := Lib.hid (S.out.call hb)
            replace NA := Lib.hid (NA.out.call hb)
            replace Ba := Lib.hid (Ba.out.call hb)
            replace NB := Lib.hid (NB.out.call hb)
            replace Bb := Lib.hid (Bb.out.call hb)
            clear hb ea0 ea1 ea2 ea3 eb0 eb1 eb2 eb3
            go_wp2_with fail
            go_meet
            exact ⟨rfl, S⟩
          · subst hk
            go_wp2_with fail
            go_meet
            exact ⟨rfl, S⟩
        case rest =>
          clear S Ba Bb NA NB HL kk
          obtain ⟨W, rfl⟩ : ∃ W, W = wc := ⟨_, rfl⟩
          obtain ⟨rfl, S⟩ := hcut
          go_wp2_with fail
          refine (DrawParseAmendment_any A _ c W S.out.bytes hxl).mono ?_
          rintro e v17 ⟨⟨x, rfl, hx⟩, hb⟩
          replace S := Lib.hid (S.out.call hb)
          have HZ := Lib.hid (show x.size ≤ 1048576 by omega)
          have HL := Lib.hid (back_line (x := x))
          clear hx hb
          obtain ⟨r, Hr⟩ : ∃ z, Hid (amR (amI x.data.toList) = z) := ⟨_, Lib.hid rfl⟩
          obtain ⟨rd, Hd⟩ : ∃ z, Hid (amB (amI x.data.toList) = z) := ⟨_, Lib.hid rfl⟩
          rw [Hr.out, Hd.out] at HL
          go_wp2_with fail
          refine (ParseAmendment_any x v17 HZ.out (HM.out.below S.out.on) (H4.out.below S.out.on)).mono ?_
          rintro e v18 ⟨B2, b2, rfl, own, hb⟩
          replace S := Lib.hid (S.out.call hb)
          have NB := Lib.hid (NowS.own own)
          rw [Hr.out] at NB
          rw [Hr.out, Hd.out]
          clear own hb
          have Bb := Lib.hid (BT.new v18 #[.int .i64 r.k, .int .i64 r.p, .int .i64 r.n, .slice B2 r.ws.length b2] 35 v18.heap.size rfl)
          have hbl := below1 v18 (.cells #[.int .i64 r.k, .int .i64 r.p, .int .i64 r.n, .slice B2 r.ws.length b2] 35)
          replace S := Lib.hid (S.out.call hbl)
          replace NB := Lib.hid (NB.out.call hbl)
          clear hbl
          go_upto_region 29 with fail
          generalize (v18.alloc (.cells #[.int .i64 r.k, .int .i64 r.p, .int .i64 r.n, .slice B2 r.ws.length b2] 35)) = v19 at *
          generalize v18.heap.size = qb at *
          obtain ⟨s, Hs⟩ : ∃ z, Hid (alS r = z) := ⟨_, Lib.hid rfl⟩
          obtain ⟨ok2, Hv⟩ : ∃ z, Hid (vldA r = z) := ⟨_, Lib.hid rfl⟩
          rw [Hs.out, Hv.out] at HL
          have eb0 := Bb.out.box.1 0 _ rfl
          have eb1 := Bb.out.box.1 1 _ rfl
          have eb2 := Bb.out.box.1 2 _ rfl
          have eb3 := Bb.out.box.1 3 _ rfl
          go_wp2_with fail
          refine (AmendmentLine_any B2 b2 r v19 NB.out.cells NB.out.fit NB.out.cap NB.out.form (H4.out.below S.out.on).1).mono ?_
          rintro e v20 ⟨rfl, hb⟩
          replace S := Lib.hid (S.out.call hb)
          replace NB := Lib.hid (NB.out.call hb)
          replace Bb := Lib.hid (Bb.out.call hb)
          rw [Hs.out, Hv.out]
          clear hb eb0 eb1 eb2 eb3
          clear Hs Hv Hr Hd
          rcases Bool.eq_false_or_eq_true rd with hk | hk
          · obtain ⟨h1, h2⟩ := HL.out hk
            clear HL
            subst h1 h2 hk
            go_wp2_with fail
            go_ret
            exact ⟨rfl, S.out.on⟩
          · subst hk
            go_wp2_with fail
            go_ret
            exact ⟨rfl, S.out.on⟩
end Go.Proofs.YtnnphhhjkhoglaaGreatDoor.fnHistories
namespace Go.Proofs.YtnnphhhjkhoglaaGreatDoor.fnHistories
open Go.ChangeShapes Go.WideShapes Go.ChangeAt Go.RowKit Go.Joins
open Go.ChangeMaps (open_string shut_string)
set_option linter.unusedVariables false

theorem own : ownKnob Tryz.prog.godebug = none := by kernel_rfl
theorem laidOut : laidOutB Tryz.prog = true := by kernel_rfl
theorem gTab : Tryz.prog.globalNamed "internal/strconv.uint64pow10" = some 4 := by kernel_rfl
theorem gTabType : (Tryz.prog.globals[4]?).map (·.type) = some 134 := by kernel_rfl
theorem tabData : (Rows.laid_internal_strconv_uint64pow10 : DataW Unit) = Go.Lib.tabData .u64 Go.Lib.pow10Tab := by kernel_rfl
theorem tab_of {W : World} (h : laidMetH Tryz.prog Rows.fnHistoriesRow.laid W) : Tab W := by
  refine Go.Lib.tabBelow_of_tabIs ?_
  have h' : laidMet Tryz.prog Rows.fnHistoriesRow.laid W := h
  obtain ⟨ps, ⟨g0, t0, cs0, f0, p0, q0, hg0, ht0, hv0, hd0, ⟨g1, t1, cs1, f1, p1, q1, hg1, ht1, hv1, hd1, ⟨g2, t2, cs2, f2, p2, q2, hg2, ht2, hv2, hd2, _, _⟩, _⟩, _⟩, _⟩ := h'
  obtain rfl := Option.some.inj (gTab.symm.trans hg2)
  obtain rfl := Option.some.inj (gTabType.symm.trans ht2)
  unfold Go.Lib.TabIs
  rw [hv2]
  have hd3 := hd2
  rw [tabData] at hd3
  rw [← Go.Lib.cells_of_tab Tryz.underlying134 Tryz.underlying43 (by kernel_rfl) (by kernel_rfl) hd3]
theorem gES : Tryz.prog.globalNamed "strconv.ErrSyntax" = some 2 := by kernel_rfl
theorem gESType : (Tryz.prog.globals[2]?).map (·.type) = some 82 := by kernel_rfl
theorem gER : Tryz.prog.globalNamed "strconv.ErrRange" = some 3 := by kernel_rfl
theorem gERType : (Tryz.prog.globals[3]?).map (·.type) = some 82 := by kernel_rfl
theorem starE : "*" ++ "errors.errorString" = "*errors.errorString" := by decide
theorem rowE (u : TypeId) (h : Tryz.prog.typeName? 3 u = some "*errors.errorString") : u = 142 :=
  typeName_ptr_named (nm := "errors.errorString") (by rw [starE]; kernel_rfl) (by kernel_rfl) (by decide) u (by rw [starE]; exact h)
theorem cellsE : Tryz.prog.cellsOf 144 = 1 := by kernel_rfl
theorem cellsS : Tryz.prog.cellsOf 9 = 1 := by kernel_rfl
theorem cx_of {W : World} (hs : W.ShapedOpen Tryz.prog) (h : laidMetH Tryz.prog Rows.fnHistoriesRow.laid W) : Cx W := by
  have h' : laidMet Tryz.prog Rows.fnHistoriesRow.laid W := h
  refine ⟨tab_of h, ?_, ?_, ?_⟩
  · exact Tryz.laysM146.s1_3 W hs
  · obtain ⟨a0, s0, hv0, -, -, -⟩ := laid_sentinel (h'.tail.tail.tail.tail.tail) gES gESType Tryz.underlying82 rowE Tryz.underlying142 Tryz.underlying144 rfl rfl Tryz.underlying9 cellsE cellsS
    exact ⟨_, by have h0 := World.var?_cell gES hv0 0; simpa using h0, Or.inr ⟨_, _, rfl⟩⟩
  · obtain ⟨a0, s0, hv0, -, -, -⟩ := laid_sentinel (h'.tail.tail.tail.tail) gER gERType Tryz.underlying82 rowE Tryz.underlying142 Tryz.underlying144 rfl rfl Tryz.underlying9 cellsE cellsS
    exact ⟨_, by have h0 := World.var?_cell gER hv0 0; simpa using h0, Or.inr ⟨_, _, rfl⟩⟩
theorem gWd : Tryz.prog.globalNamed "loop.example/g00909/impl.amendWords" = some 0 := by kernel_rfl
theorem gWdType : (Tryz.prog.globals[0]?).map (·.type) = some 64 := by kernel_rfl
theorem c9 : Tryz.prog.cellsOf 9 = 1 := by kernel_rfl
theorem c60 : Tryz.prog.cellsOf 64 = 4 := by kernel_rfl
set_option maxRecDepth 100000 in
theorem wds_of {W : World} (h : laidMetH Tryz.prog Rows.fnHistoriesRow.laid W) : Wds4 W := by
  have h' : laidMet Tryz.prog Rows.fnHistoriesRow.laid W := h
  obtain ⟨ps, ⟨g3, t3, cs3, f3, p3, q3, hg3, ht3, hv3, hd3, _, _⟩, _⟩ := h'.tail.tail.tail.tail.tail.tail
  clear h' h
  obtain rfl := Option.some.inj (gWd.symm.trans hg3)
  obtain rfl := Option.some.inj (gWdType.symm.trans ht3)
  obtain ⟨xs, m1, rfl, hx1, hlen, hn3, hel⟩ := DataW.trod_array Tryz.underlying64 hd3
  have h0 := hel 0 (by decide)
  have h1 := hel 1 (by decide)
  have h2 := hel 2 (by decide)
  have h3 := hel 3 (by decide)
  rw [c9] at h0 h1 h2 h3
  rw [c60] at hlen
  have hvc := World.var?_cell hg3 hv3
  obtain ⟨l⟩ := cs3
  simp only [Prod.mk.injEq] at hx1
  have hxs := hx1.1
  match xs, hn3, hxs, h0, h1, h2, h3 with
  | [x0, x1, x2, x3], _, hxs, h0, h1, h2, h3 =>
    simp only [List.map_cons, List.map_nil] at hxs
    have hz := hxs
    unfold Rows.laid_loop_example_g00909_impl_amendWords at hz
    simp only [DataW.agg.injEq, List.cons.injEq] at hz
    obtain ⟨z0, z1, z2, z3, _⟩ := hz
    match l, hlen, h0, h1, h2, h3, hvc with
    | [c0, c1, c2, c3], _, h0, h1, h2, h3, hvc =>
      obtain ⟨s0, e0, y0, _⟩ := DataW.trod_string Tryz.underlying9 h0
      obtain ⟨s1, e1, y1, _⟩ := DataW.trod_string Tryz.underlying9 h1
      obtain ⟨s2, e2, y2, _⟩ := DataW.trod_string Tryz.underlying9 h2
      obtain ⟨s3, e3, y3, _⟩ := DataW.trod_string Tryz.underlying9 h3
      have k1 : W.cell? ⟨0, 1, none⟩ = some (.string ⟨#[105, 110, 115, 101, 114, 116]⟩) := by
        have hs : s1 = ⟨#[105, 110, 115, 101, 114, 116]⟩ := bytes_ext (by rw [y1] at z1; have z := z1; simp only [DataW.lit.injEq, Lit.string.injEq] at z; exact z.symm)
        have hc : c1 = .string s1 := by simpa using e1
        rw [hvc 1, ← hs, ← hc]; rfl
      have k2 : W.cell? ⟨0, 2, none⟩ = some (.string ⟨#[115, 116, 114, 105, 107, 101]⟩) := by
        have hs : s2 = ⟨#[115, 116, 114, 105, 107, 101]⟩ := bytes_ext (by rw [y2] at z2; have z := z2; simp only [DataW.lit.injEq, Lit.string.injEq] at z; exact z.symm)
        have hc : c2 = .string s2 := by simpa using e2
        rw [hvc 2, ← hs, ← hc]; rfl
      have k3 : W.cell? ⟨0, 3, none⟩ = some (.string ⟨#[114, 101, 112, 108, 97, 99, 101]⟩) := by
        have hs : s3 = ⟨#[114, 101, 112, 108, 97, 99, 101]⟩ := bytes_ext (by rw [y3] at z3; have z := z3; simp only [DataW.lit.injEq, Lit.string.injEq] at z; exact z.symm)
        have hc : c3 = .string s3 := by simpa using e3
        rw [hvc 3, ← hs, ← hc]; rfl
      have k0 : W.cell? ⟨0, 0, none⟩ = some (.string ⟨#[]⟩) := by
        have hs : s0 = ⟨#[]⟩ := bytes_ext (by rw [y0] at z0; have z := z0; simp only [DataW.lit.injEq, Lit.string.injEq] at z; exact z.symm)
        have hc : c0 = .string s0 := by simpa using e0
        rw [hvc 0, ← hs, ← hc]; rfl
      exact ⟨⟨World.block_lt_of_cell? _ _ k1, k1, k2, k3⟩, k0⟩
/-- The world behind the door's run, utf8.first as its text lays it. -/
noncomputable def startW (os : Os) : World :=
  { World.doorLaid Tryz.prog 3000 os with heap := (World.doorLaid Tryz.prog 3000 os).heap.modify 5 fun
    | .cells _ t fr => .cells (Go.Pinned.utf8FirstZ.map fun (z : Nat) => Value.int .u8 (z : Int)).toArray t fr
    | o => o }
noncomputable def laidW (os : Os) : World := (startW os).forCall (fun _ _ => 0) ⟨#[], #[.slice none 0 0], []⟩
theorem laid_met (os : Os) : laidMet Tryz.prog Rows.fnHistoriesRow.laid (laidW os).memory := laidMet_of_run' 8 (by kernel_rfl) (by kernel_rfl)
theorem reads (os : Os) {H : Type} (enc : TypeId × Value → H) : ∃ places, DataW.whole enc Tryz.prog (laidW os).memory Tryz.f3.params.toList Rows.fnHistoriesSpec.vars false #[(Value.slice none 0 0)].toList 8 = some ([.nil], [Rows.laid_loop_example_g00909_impl_amendWords], places) := ⟨MemPlace.row ⟨0, 0, none⟩ 4, by kernel_rfl⟩
set_option maxRecDepth 100000 in
theorem lifted (os : Os) (started : os.Started) (H : Type) (enc : TypeId × Value → H) (F : Stop.Interp) :
    ReturnsInHanded {} Tryz.checked os 3 .any ((OpenSpec.ofChange Rows.fnHistoriesSpec).preRow enc Tryz.prog Tryz.f3 Rows.fnHistoriesRow.domain false Rows.fnHistoriesRow.laid) (((OpenSpec.ofChange Rows.fnHistoriesSpec).at F).post enc Tryz.prog Tryz.f3 false true false false) := by
  obtain ⟨places, hx⟩ := reads os enc
  refine returnsInHanded_of_row (C := Tryz.checked) (s := OpenSpec.ofChange Rows.fnHistoriesSpec) own started (by kernel_rfl) Tryz.func3
    (witness_row_at (enc := enc) (C := Tryz.checked) false (startW os) #[.slice none 0 0] rfl (by kernel_rfl) (by kernel_rfl) (by kernel_rfl)
      (OpenSpec.preRow_of_cond 8 hx (by kernel_rfl) (fun k hk => by cases hk) (by kernel_rfl) (laid_met os))) ?_
  intro W base args ds gs before hval0 hW u1 u2 u3 hL u4 u5
  show Calls Tryz.prog 3 args W fun e W' => ∃ v, e = .returned v ∧ Rows.fnHistoriesSpec.post enc Tryz.prog Tryz.f3 false true false false W args v W'
  have hval : ∀ (j : Nat) t v, Tryz.f3.params[j]? = some t → args[j]? = some v → Value.okWide Tryz.prog W .any base t v := hval0
  have hW' := hW
  obtain ⟨p, q, hA0, hV, rfl, hfz, hnd⟩ := hW
  have hA : DataW.TrodAll enc Tryz.prog W 0 (fun _ => true) true Tryz.f3.params.toList args.toList ds p := hA0
  rw [Tryz.params3] at hA hval
  obtain ⟨v0, vs0, d0, ds0, p0, q0, hargs, rfl, rfl, h0, r0⟩ := trodAll_cons hA
  obtain ⟨rfl, rfl, rfl⟩ := trodAll_nil r0
  obtain rfl : args = #[v0] := by cases args; simp_all
  have hV0 := hV
  obtain ⟨gg, tt, ccs, ff, dg, pg, rfl, _⟩ := trodVars_one hV
  have k0 := h0
  have lt0 : ∀ x ∈ p0, x.block < W.heap.size := by obtain ⟨m, hm⟩ := k0; exact DataW.trod_lt m _ _ _ hm
  obtain ⟨A00, c00, f0, rfl, x00⟩ := codeIn (hval 0 22 v0 rfl rfl) h0
  clear hA0 hval0
  refine (walk A00 c00 f0 W (cx_of u4 hL) (wds_of hL) x00).mono fun e W' ⟨he, bel⟩ => ?_
  subst he
  exact ⟨_, rfl, _, _, _, [], _, _, hW', trodAll_mk1 (shut_bool Tryz.underlying4 _), (trodAll_cons_mk (Below.trod laidOut (by kernel_rfl) (of_decide_eq_true (by kernel_rfl)) k0 bel lt0) trodAll_mk0), Below.trodVars laidOut bel (by kernel_rfl) hV0, bel.frame _, fun h => by cases h⟩
theorem over : Rows.FnHistoriesSaid :=
  OpenClaim.holds_of_cond 3 Tryz.f3 rfl rfl rfl rfl rfl rfl rfl ⟨rfl, rfl, rfl, rfl, rfl⟩ rfl rfl rfl rfl rfl (by kernel_rfl) Tryz.func3 (by kernel_rfl)
    (of_decide_eq_true (by kernel_rfl)) (by unfold Func.isWrapper; first | (rw [if_pos (by decide +kernel)]; kernel_rfl) | (rw [if_neg (by decide +kernel)]; exact ⟨rfl, rfl⟩))
    (fun os started H enc _ F => by rw [OpenClaim.pre_eq_preRow]; exact lifted os started H enc F)
theorem plain (f : FuncId) (fn : Func) (hf : Tryz.pinned.checked.prog.funcNamed "loop.example/g00909/laws.FnHistories" = some f) (hfn : Tryz.pinned.checked.prog.funcs[f]? = some fn) :
    true = Tryz.pinned.checked.prog.looks [] ∧ ∀ (j : Nat) t, fn.params[j]? = some t → Tryz.pinned.checked.prog.wantsStandIn t = false := by
  obtain rfl : f = 3 := Option.some.inj ((show Tryz.prog.funcNamed "loop.example/g00909/laws.FnHistories" = some 3 by kernel_rfl).symm.trans hf) |>.symm
  obtain rfl : fn = Tryz.f3 := (Option.some.inj (Tryz.func3.symm.trans hfn)).symm
  refine ⟨by kernel_rfl, fun j t ht => ?_⟩
  rw [Tryz.params3] at ht
  have hm : t ∈ [22] := by simpa using Array.mem_of_getElem? ht
  have hall : ([22].all fun u => !Tryz.prog.wantsStandIn u) = true := by kernel_rfl
  exact (show Tryz.prog.wantsStandIn t = false by simpa using List.all_eq_true.1 hall t hm)
/-- The card. -/
theorem proved : Rows.FnHistoriesCardSaid :=
  Claim7.holds_tied_plain_at .later [] _ _ _ _ over (fun _ h => by cases h) (by kernel_rfl) (fun _ h => by cases h) fnHistories_row_tie rfl ⟨rfl, rfl⟩ (by kernel_rfl) rfl plain (by kernel_rfl)
#print axioms proved
end Go.Proofs.YtnnphhhjkhoglaaGreatDoor.fnHistories
