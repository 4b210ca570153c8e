/- SecondaryChange, in the program and in the reference: the same amendment. Conditions: the ranges named. -/
import Derived.Test.YtgchbimjgdoifaaInv3
import Derived.Test.YtgchbimjgdoifaaMk
import Derived.Deep.DrawnRows
namespace Go.Proofs.Ytgchbimjgdoifaa
open Go.RowKit
set_option linter.unusedVariables false
set_option linter.unusedSimpArgs false
attribute [local go_sem ↓] Go.wp_at_zero Go.wp_at_succ
theorem take_yes {P : Program} {md : Region.Mode} {ops : Array Oper} {Q : Exit → Act → World → Prop} {S : World → Prop} {i d : Nat} {oi : Oper} {v : Value} {fuel : Nat} {listed : Array Bool} {a : Act} {w : World} (hi : ops[i]? = some oi) (hd : oi.dst = some d)
    (hs : Region.noSelect ops = true) (hf : Region.free md ops listed i = true) (hr : (Region.ready md ops listed).contains i = true) (hQ : ∀ c a w, Q (.panic c) (a.put (some d) v) w → Q (.panic c) a w) (hw : Region.wanted oi (yielded ops a.tmps) = true)
    (hy : ∀ w, S w → (execOp a.eval oi).run P w = .ok (.value v) w) (hS : S w) (h : wpAnyH P md ops Q S fuel (listed.setIfInBounds i true) (a.put (some d) v) w) : wpAnyH P md ops Q S (fuel + 1) listed a w :=
  wpAnyH_take hi hs hf hr (by rw [hd]; exact hQ) (Or.inl ⟨hw, hy⟩) hS (by rw [hd]; exact h)
theorem take_no {P : Program} {md : Region.Mode} {ops : Array Oper} {Q : Exit → Act → World → Prop} {S : World → Prop} {i d : Nat} {oi : Oper} {fuel : Nat} {listed : Array Bool} {a : Act} {w : World} (hi : ops[i]? = some oi) (hd : oi.dst = some d)
    (hs : Region.noSelect ops = true) (hf : Region.free md ops listed i = true) (hr : (Region.ready md ops listed).contains i = true) (hQ : ∀ c a w, Q (.panic c) (a.put (some d) undef) w → Q (.panic c) a w) (hw : Region.wanted oi (yielded ops a.tmps) = false)
    (hS : S w) (h : wpAnyH P md ops Q S fuel (listed.setIfInBounds i true) (a.put (some d) undef) w) : wpAnyH P md ops Q S (fuel + 1) listed a w :=
  wpAnyH_take hi hs hf hr (by rw [hd]; exact hQ) (Or.inr ⟨hw, rfl⟩) hS (by rw [hd]; exact h)
def secA (a b : Amd) : Amd := ⟨a.k, a.p, a.n, amdL a.ws b⟩
def scOk (a b : Amd) : Bool := vldA a && canB a.ws b && vldA (secA a b)
def scR (a b : Amd) : Amd := if scOk a b then secA a b else noA
theorem scR_no {a b : Amd} (h : scOk a b = false) : scR a b = noA := by unfold scR; rw [h]; rfl
theorem scR_yes {a b : Amd} (h : scOk a b = true) : scR a b = ⟨a.k, a.p, a.n, amdL a.ws b⟩ := by unfold scR; rw [h]; rfl
theorem canB_parts {ss : List ByteArray} {b : Amd} (h : canB ss b = true) : ss.length ≤ 20 ∧ vldA b = true ∧ b.p + b.n ≤ ss.length ∧ b.ws.length ≤ 5 := by
  unfold canB at h
  rw [Bool.and_eq_true, Bool.and_eq_true] at h
  obtain ⟨⟨h1, h2⟩, h3⟩ := h
  obtain ⟨_, _, _, _, h5, _⟩ := vldA_range h2
  exact ⟨fitsB_small h1, h2, fitsB_le h3, h5⟩
theorem vldA_words {a : Amd} (h : vldA a = true) : wordsB a.ws 0 20 = true := by
  obtain ⟨_, _, _, _, h5, _, h6⟩ := vldA_range h
  rw [wordsB_low, h6, decide_eq_true (by omega)]
  rfl
theorem canB_of {a b : Amd} (h : vldA a = true) : canB a.ws b = (vldA b && fitsB a.ws b) := by unfold canB; rw [vldA_words h]; rfl
theorem Fit.amd {ss : List ByteArray} {b : Amd} (h : Fit ss) (h' : Fit b.ws) (hc : ss.length ≤ 20) (hw : b.ws.length ≤ 5) : Fit (amdL ss b) := by
  refine ⟨?_, fun s hs => ?_⟩
  · unfold amdL
    rw [List.length_append, List.length_append, List.length_take, List.length_drop]
    omega
  · unfold amdL at hs
    rw [List.mem_append, List.mem_append] at hs
    rcases hs with h1 | h1 | h1
    · exact h.2 s (List.mem_of_mem_take h1)
    · exact h'.2 s h1
    · exact h.2 s (List.mem_of_mem_drop h1)
set_option maxHeartbeats 2000000 in
theorem SecondaryChange_any (A A' : Option Addr) (c c' : Nat) (a b : Amd) (w : World) (h : Cells w A (strs a.ws)) (hc : a.ws.length ≤ c) (hf : Fit a.ws) (h' : Cells w A' (strs b.ws)) (hf' : Fit b.ws) :
    Calls Try.prog 62 #[.agg #[.int .i64 a.k, .int .i64 a.p, .int .i64 a.n, .slice A a.ws.length c], .agg #[.int .i64 b.k, .int .i64 b.p, .int .i64 b.n, .slice A' b.ws.length c']] w (MadeAB w (scR a b) (scOk a b)) := by
  have HC := Lib.hid h
  have HC' := Lib.hid h'
  clear h h'
  have N0 := Lib.hid ((BoxF.new4 w (.int .i64 a.k) (.int .i64 a.p) (.int .i64 a.n) (.slice A a.ws.length c) 40 w.heap.size rfl).below (below2 (w.alloc (.cells #[.int .i64 a.k, .int .i64 a.p, .int .i64 a.n, .slice A a.ws.length c] 40)) (.cells #[.int .i64 b.k, .int .i64 b.p, .int .i64 b.n, .slice A' b.ws.length c'] 40) (.cells #[.int .i64 0, .int .i64 0, .int .i64 0, .slice none 0 0] 40)) (by simp))
  have N1 := Lib.hid ((BoxF.new4 (w.alloc (.cells #[.int .i64 a.k, .int .i64 a.p, .int .i64 a.n, .slice A a.ws.length c] 40)) (.int .i64 b.k) (.int .i64 b.p) (.int .i64 b.n) (.slice A' b.ws.length c') 40 (w.heap.size + 1) (by simp)).below (below1 ((w.alloc (.cells #[.int .i64 a.k, .int .i64 a.p, .int .i64 a.n, .slice A a.ws.length c] 40)).alloc (.cells #[.int .i64 b.k, .int .i64 b.p, .int .i64 b.n, .slice A' b.ws.length c'] 40)) (.cells #[.int .i64 0, .int .i64 0, .int .i64 0, .slice none 0 0] 40)) (by simp))
  have N2 := Lib.hid (BoxF.new4 ((w.alloc (.cells #[.int .i64 a.k, .int .i64 a.p, .int .i64 a.n, .slice A a.ws.length c] 40)).alloc (.cells #[.int .i64 b.k, .int .i64 b.p, .int .i64 b.n, .slice A' b.ws.length c'] 40)) (.int .i64 0) (.int .i64 0) (.int .i64 0) (.slice none 0 0) 40 (w.heap.size + 2) (by simp))
  have HB := Lib.hid (below3 w (.cells #[.int .i64 a.k, .int .i64 a.p, .int .i64 a.n, .slice A a.ws.length c] 40) (.cells #[.int .i64 b.k, .int .i64 b.p, .int .i64 b.n, .slice A' b.ws.length c'] 40) (.cells #[.int .i64 0, .int .i64 0, .int .i64 0, .slice none 0 0] 40))
  have hs : w.heap.size + 3 ≤ (((w.alloc (.cells #[.int .i64 a.k, .int .i64 a.p, .int .i64 a.n, .slice A a.ws.length c] 40)).alloc (.cells #[.int .i64 b.k, .int .i64 b.p, .int .i64 b.n, .slice A' b.ws.length c'] 40)).alloc (.cells #[.int .i64 0, .int .i64 0, .int .i64 0, .slice none 0 0] 40)).heap.size := by simp
  go_enter Try.func62, Try.ntmps62
  go_wp2_with fail
  generalize (((w.alloc (.cells #[.int .i64 a.k, .int .i64 a.p, .int .i64 a.n, .slice A a.ws.length c] 40)).alloc (.cells #[.int .i64 b.k, .int .i64 b.p, .int .i64 b.n, .slice A' b.ws.length c'] 40)).alloc (.cells #[.int .i64 0, .int .i64 0, .int .i64 0, .slice none 0 0] 40)) = W at *
  refine (IsValidAmendment_any A c a W (HC.out.below HB.out) hf).mono ?_
  rintro e w1 ⟨rfl, hb⟩
  have N0 := Lib.hid (N0.out.below hb (by omega))
  have N1 := Lib.hid (N1.out.below hb (by omega))
  have N2 := Lib.hid (N2.out.below hb (by omega))
  have HB := Lib.hid (HB.out.trans (hb.mono HB.out.size))
  have hs := Nat.le_trans hs hb.size
  clear hb
  rcases Bool.eq_false_or_eq_true (vldA a) with hv | hv
  · rw [hv]
    have e00 := N0.out.1 0 _ rfl
    have e01 := N0.out.1 1 _ rfl
    have e02 := N0.out.1 2 _ rfl
    have e03 := N0.out.1 3 _ rfl
    have e10 := N1.out.1 0 _ rfl
    have e11 := N1.out.1 1 _ rfl
    have e12 := N1.out.1 2 _ rfl
    have e13 := N1.out.1 3 _ rfl
    go_wp2_with fail
    refine (canAmend_any A A' c c' a.ws b w1 (HC.out.below HB.out) hc hf (HC'.out.below HB.out) hf').mono ?_
    rintro e w2 ⟨rfl, hb⟩
    clear e00 e01 e02 e03 e10 e11 e12 e13
    have N0 := Lib.hid (N0.out.below hb (by omega))
    have N1 := Lib.hid (N1.out.below hb (by omega))
    have N2 := Lib.hid (N2.out.below hb (by omega))
    have HB := Lib.hid (HB.out.trans (hb.mono HB.out.size))
    have hs := Nat.le_trans hs hb.size
    clear hb
    rcases Bool.eq_false_or_eq_true (canB a.ws b) with hcan | hcan
    · rw [hcan]
      obtain ⟨hl20, hvb, hfit, hw5⟩ := canB_parts hcan
      have e00 := N0.out.1 0 _ rfl
      have e01 := N0.out.1 1 _ rfl
      have e02 := N0.out.1 2 _ rfl
      have e03 := N0.out.1 3 _ rfl
      have e10 := N1.out.1 0 _ rfl
      have e11 := N1.out.1 1 _ rfl
      have e12 := N1.out.1 2 _ rfl
      have e13 := N1.out.1 3 _ rfl
      have M0 := N0.out.below (below1 w2 (.cells #[.int .i64 a.k, .int .i64 a.p, .int .i64 a.n, .slice A a.ws.length c] 40)) (by omega)
      have M1 := N1.out.below (below1 w2 (.cells #[.int .i64 a.k, .int .i64 a.p, .int .i64 a.n, .slice A a.ws.length c] 40)) (by omega)
      have m00 := M0.1 0 _ rfl
      have m01 := M0.1 1 _ rfl
      have m02 := M0.1 2 _ rfl
      have m03 := M0.1 3 _ rfl
      have m10 := M1.1 0 _ rfl
      have m11 := M1.1 1 _ rfl
      have m12 := M1.1 2 _ rfl
      have m13 := M1.1 3 _ rfl
      clear M0 M1
      go_wp2_with fail
      clear m00 m01 m02 m03 m10 m11 m12 m13
      clear e00 e01 e02 e03 e10 e11 e12 e13
      have N6 := Lib.hid (BoxF.new4 w2 (.int .i64 a.k) (.int .i64 a.p) (.int .i64 a.n) (.slice A a.ws.length c) 40 w2.heap.size rfl)
      have hb := below1 w2 (.cells #[.int .i64 a.k, .int .i64 a.p, .int .i64 a.n, .slice A a.ws.length c] 40)
      have hg6 : w2.heap.size < (w2.alloc (.cells #[.int .i64 a.k, .int .i64 a.p, .int .i64 a.n, .slice A a.ws.length c] 40)).heap.size := by simp
      have hs2 := hs
      generalize (w2.alloc (.cells #[.int .i64 a.k, .int .i64 a.p, .int .i64 a.n, .slice A a.ws.length c] 40)) = V at *
      have N0 := Lib.hid (N0.out.below hb (by omega))
      have N1 := Lib.hid (N1.out.below hb (by omega))
      have N2 := Lib.hid (N2.out.below hb (by omega))
      have HB := Lib.hid (HB.out.trans (hb.mono HB.out.size))
      have hs := Nat.le_trans hs hb.size
      clear hb
      refine (amended_any A A' c c' a.ws b V (HC.out.below HB.out) hc hf (HC'.out.below HB.out) hf' (Small.of hvb) hfit hw5 hl20).mono ?_
      rintro e w3 ⟨O, d, rfl, own, hb⟩
      have HO := Lib.hid own
      have hg7 := Nat.lt_of_lt_of_le hg6 hb.size
      have hne : (Value.slice O (amdL a.ws b).length d).ownBlock ≠ some w2.heap.size := fun e => by have h1 := (own.lt _ e).1; omega
      clear own
      have N2 := Lib.hid (N2.out.below hb (by omega))
      have N6 := Lib.hid (N6.out.below hb (by omega))
      have HB := Lib.hid (HB.out.trans (hb.mono HB.out.size))
      have hs := Nat.le_trans hs hb.size
      clear hb
      have e60 := N6.out.1 0 _ rfl
      have e61 := N6.out.1 1 _ rfl
      have e62 := N6.out.1 2 _ rfl
      have e63 := N6.out.1 3 _ rfl
      have f60 := N6.out.2 0
      have f61 := N6.out.2 1
      have f62 := N6.out.2 2
      have f63 := N6.out.2 3
      go_wp2_with fail
      clear e60 e61 e62 e63 f60 f61 f62 f63
      have NS := N6.out.set (k := 3) (by simp) (.slice O (amdL a.ws b).length d)
      have HO : Hid ((w3.setCell ⟨w2.heap.size, 3, none⟩ (.slice O (amdL a.ws b).length d)).ownsRow V.heap.size 9 1 (.slice O (amdL a.ws b).length d) (amdL a.ws b).length (strs (amdL a.ws b))) := Lib.hid (ownsRow_setCell_other HO.out hne _)
      have hb : Below w2.heap.size w3 (w3.setCell ⟨w2.heap.size, 3, none⟩ (.slice O (amdL a.ws b).length d)) := by go_grown
      have N2 := Lib.hid (N2.out.below hb (by omega))
      have HB := Lib.hid (HB.out.trans (hb.mono (by omega)))
      have hs := Nat.le_trans hs hb.size
      have hg8 := Nat.lt_of_lt_of_le hg7 hb.size
      clear hb N6
      have N6 : Hid (BoxF (w3.setCell ⟨w2.heap.size, 3, none⟩ (.slice O (amdL a.ws b).length d)) w2.heap.size [.int .i64 a.k, .int .i64 a.p, .int .i64 a.n, .slice O (amdL a.ws b).length d]) := Lib.hid NS
      clear NS
      generalize w3.setCell ⟨w2.heap.size, 3, none⟩ (.slice O (amdL a.ws b).length d) = X at *
      refine (IsValidAmendment_any O d ⟨a.k, a.p, a.n, amdL a.ws b⟩ X (Cells.of_own HO.out) (Fit.amd hf hf' hl20 hw5)).mono ?_
      rintro e w5 ⟨rfl, hb⟩
      have HO := Lib.hid (own_keep HO.out hb)
      have N2 := Lib.hid (N2.out.below hb (by omega))
      have N6 := Lib.hid (N6.out.below hb (by omega))
      have HB := Lib.hid (HB.out.trans (hb.mono HB.out.size))
      have hs := Nat.le_trans hs hb.size
      clear hb
      rcases Bool.eq_false_or_eq_true (vldA ⟨a.k, a.p, a.n, amdL a.ws b⟩) with hq | hq
      · rw [hq]
        have hok : scOk a b = true := by unfold scOk secA; rw [hv, hcan, hq]; rfl
        have HYES := Lib.hid (scR_yes hok)
        have e20 := N2.out.1 0 _ rfl
        have e21 := N2.out.1 1 _ rfl
        have e22 := N2.out.1 2 _ rfl
        have e23 := N2.out.1 3 _ rfl
        have f20 := N2.out.2 0
        have f21 := N2.out.2 1
        have f22 := N2.out.2 2
        have f23 := N2.out.2 3
        have e60 := N6.out.1 0 _ rfl
        have e61 := N6.out.1 1 _ rfl
        have e62 := N6.out.1 2 _ rfl
        have e63 := N6.out.1 3 _ rfl
        have f60 := N6.out.2 0
        have f61 := N6.out.2 1
        have f62 := N6.out.2 2
        have f63 := N6.out.2 3
        go_wp2
        have KS := N2.out.set4 (.int .i64 a.k) (.int .i64 a.p) (.int .i64 a.n) (.slice O (amdL a.ws b).length d)
        have k0 := KS.1 0 _ rfl
        have k1 := KS.1 1 _ rfl
        have k2 := KS.1 2 _ rfl
        have k3 := KS.1 3 _ rfl
        refine bodyPost_ret (v := .tuple #[.agg #[.int .i64 a.k, .int .i64 a.p, .int .i64 a.n, .slice O (amdL a.ws b).length d], .bool true]) (by simp [results, Try.results62, go_sem, k0, k1, k2, k3]) rfl ?_
        rw [HYES.out, hok]
        refine ⟨O, d, rfl, own_mono (own_off4 HO.out (fun e => by have := (HO.out.lt _ e).1; omega) _ _ _ _) (by omega), ?_⟩
        have hb9 := HB.out
        go_grown
      · rw [hq]
        have hok : scOk a b = false := by unfold scOk secA; rw [hv, hcan, hq]; rfl
        have HNO := Lib.hid (scR_no hok)
        have e20 := N2.out.1 0 _ rfl
        have e21 := N2.out.1 1 _ rfl
        have e22 := N2.out.1 2 _ rfl
        have e23 := N2.out.1 3 _ rfl
        have f20 := N2.out.2 0
        have f21 := N2.out.2 1
        have f22 := N2.out.2 2
        have f23 := N2.out.2 3
        go_wp2
        have KS := N2.out.set4 (.int .i64 0) (.int .i64 0) (.int .i64 0) (.slice none 0 0)
        have k0 := KS.1 0 _ rfl
        have k1 := KS.1 1 _ rfl
        have k2 := KS.1 2 _ rfl
        have k3 := KS.1 3 _ rfl
        refine bodyPost_ret (v := .tuple #[.agg #[.int .i64 0, .int .i64 0, .int .i64 0, .slice none 0 0], .bool false]) (by simp [results, Try.results62, go_sem, k0, k1, k2, k3]) rfl ?_
        refine madeAB_no HNO.out hok ?_
        have hb9 := HB.out
        go_grown
    · rw [hcan]
      have hok : scOk a b = false := by unfold scOk; rw [hcan]; simp
      have HNO := Lib.hid (scR_no hok)
      have e20 := N2.out.1 0 _ rfl
      have e21 := N2.out.1 1 _ rfl
      have e22 := N2.out.1 2 _ rfl
      have e23 := N2.out.1 3 _ rfl
      have f20 := N2.out.2 0
      have f21 := N2.out.2 1
      have f22 := N2.out.2 2
      have f23 := N2.out.2 3
      go_wp2
      have KS := N2.out.set4 (.int .i64 0) (.int .i64 0) (.int .i64 0) (.slice none 0 0)
      have k0 := KS.1 0 _ rfl
      have k1 := KS.1 1 _ rfl
      have k2 := KS.1 2 _ rfl
      have k3 := KS.1 3 _ rfl
      refine bodyPost_ret (v := .tuple #[.agg #[.int .i64 0, .int .i64 0, .int .i64 0, .slice none 0 0], .bool false]) (by simp [results, Try.results62, go_sem, k0, k1, k2, k3]) rfl ?_
      refine madeAB_no HNO.out hok ?_
      have hb9 := HB.out
      go_grown
  · rw [hv]
    have hok : scOk a b = false := by unfold scOk; rw [hv]; rfl
    have HNO := Lib.hid (scR_no hok)
    have e20 := N2.out.1 0 _ rfl
    have e21 := N2.out.1 1 _ rfl
    have e22 := N2.out.1 2 _ rfl
    have e23 := N2.out.1 3 _ rfl
    have f20 := N2.out.2 0
    have f21 := N2.out.2 1
    have f22 := N2.out.2 2
    have f23 := N2.out.2 3
    go_wp2
    have KS := N2.out.set4 (.int .i64 0) (.int .i64 0) (.int .i64 0) (.slice none 0 0)
    have k0 := KS.1 0 _ rfl
    have k1 := KS.1 1 _ rfl
    have k2 := KS.1 2 _ rfl
    have k3 := KS.1 3 _ rfl
    refine bodyPost_ret (v := .tuple #[.agg #[.int .i64 0, .int .i64 0, .int .i64 0, .slice none 0 0], .bool false]) (by simp [results, Try.results62, go_sem, k0, k1, k2, k3]) rfl ?_
    refine madeAB_no HNO.out hok ?_
    have hb9 := HB.out
    go_grown
set_option maxHeartbeats 4000000 in
set_option maxRecDepth 100000 in
theorem sSecondaryChange_any (A A' : Option Addr) (c c' : Nat) (a b : Amd) (w : World) (h : Cells w A (strs a.ws)) (hc : a.ws.length ≤ c) (hf : Fit a.ws) (h' : Cells w A' (strs b.ws)) (hf' : Fit b.ws) :
    Calls Try.prog 63 #[.agg #[.int .i64 a.k, .int .i64 a.p, .int .i64 a.n, .slice A a.ws.length c], .agg #[.int .i64 b.k, .int .i64 b.p, .int .i64 b.n, .slice A' b.ws.length c']] w (MadeAB w (scR a b) (scOk a b)) := by
  have HC := Lib.hid h
  have HC' := Lib.hid h'
  clear h h'
  have N0 := Lib.hid ((BoxF.new4 w (.int .i64 a.k) (.int .i64 a.p) (.int .i64 a.n) (.slice A a.ws.length c) 40 w.heap.size rfl).below (below2 (w.alloc (.cells #[.int .i64 a.k, .int .i64 a.p, .int .i64 a.n, .slice A a.ws.length c] 40)) (.cells #[.int .i64 b.k, .int .i64 b.p, .int .i64 b.n, .slice A' b.ws.length c'] 40) (.cells #[.int .i64 0, .int .i64 0, .int .i64 0, .slice none 0 0] 40)) (by simp))
  have N1 := Lib.hid ((BoxF.new4 (w.alloc (.cells #[.int .i64 a.k, .int .i64 a.p, .int .i64 a.n, .slice A a.ws.length c] 40)) (.int .i64 b.k) (.int .i64 b.p) (.int .i64 b.n) (.slice A' b.ws.length c') 40 (w.heap.size + 1) (by simp)).below (below1 ((w.alloc (.cells #[.int .i64 a.k, .int .i64 a.p, .int .i64 a.n, .slice A a.ws.length c] 40)).alloc (.cells #[.int .i64 b.k, .int .i64 b.p, .int .i64 b.n, .slice A' b.ws.length c'] 40)) (.cells #[.int .i64 0, .int .i64 0, .int .i64 0, .slice none 0 0] 40)) (by simp))
  have N2 := Lib.hid (BoxF.new4 ((w.alloc (.cells #[.int .i64 a.k, .int .i64 a.p, .int .i64 a.n, .slice A a.ws.length c] 40)).alloc (.cells #[.int .i64 b.k, .int .i64 b.p, .int .i64 b.n, .slice A' b.ws.length c'] 40)) (.int .i64 0) (.int .i64 0) (.int .i64 0) (.slice none 0 0) 40 (w.heap.size + 2) (by simp))
  have HB := Lib.hid (below3 w (.cells #[.int .i64 a.k, .int .i64 a.p, .int .i64 a.n, .slice A a.ws.length c] 40) (.cells #[.int .i64 b.k, .int .i64 b.p, .int .i64 b.n, .slice A' b.ws.length c'] 40) (.cells #[.int .i64 0, .int .i64 0, .int .i64 0, .slice none 0 0] 40))
  have hs : w.heap.size + 3 ≤ (((w.alloc (.cells #[.int .i64 a.k, .int .i64 a.p, .int .i64 a.n, .slice A a.ws.length c] 40)).alloc (.cells #[.int .i64 b.k, .int .i64 b.p, .int .i64 b.n, .slice A' b.ws.length c'] 40)).alloc (.cells #[.int .i64 0, .int .i64 0, .int .i64 0, .slice none 0 0] 40)).heap.size := by simp
  go_enter Try.func63, Try.ntmps63
  go_wp2_with fail
  generalize (((w.alloc (.cells #[.int .i64 a.k, .int .i64 a.p, .int .i64 a.n, .slice A a.ws.length c] 40)).alloc (.cells #[.int .i64 b.k, .int .i64 b.p, .int .i64 b.n, .slice A' b.ws.length c'] 40)).alloc (.cells #[.int .i64 0, .int .i64 0, .int .i64 0, .slice none 0 0] 40)) = W at *
  refine (l9Good_any A c a W (HC.out.below HB.out) hf).mono ?_
  rintro e w1 ⟨rfl, hb⟩
  have N0 := Lib.hid (N0.out.below hb (by omega))
  have N1 := Lib.hid (N1.out.below hb (by omega))
  have N2 := Lib.hid (N2.out.below hb (by omega))
  have HB := Lib.hid (HB.out.trans (hb.mono HB.out.size))
  have hs := Nat.le_trans hs hb.size
  clear hb
  rcases Bool.eq_false_or_eq_true (vldA a) with hv | hv
  · rw [hv]
    have e00 := N0.out.1 0 _ rfl
    have e01 := N0.out.1 1 _ rfl
    have e02 := N0.out.1 2 _ rfl
    have e03 := N0.out.1 3 _ rfl
    have e10 := N1.out.1 0 _ rfl
    have e11 := N1.out.1 1 _ rfl
    have e12 := N1.out.1 2 _ rfl
    have e13 := N1.out.1 3 _ rfl
    go_wp2_with fail
    refine (l9Good_any A' c' b w1 (HC'.out.below HB.out) hf').mono ?_
    rintro e w2 ⟨rfl, hb⟩
    clear e00 e01 e02 e03 e10 e11 e12 e13
    have N0 := Lib.hid (N0.out.below hb (by omega))
    have N1 := Lib.hid (N1.out.below hb (by omega))
    have N2 := Lib.hid (N2.out.below hb (by omega))
    have HB := Lib.hid (HB.out.trans (hb.mono HB.out.size))
    have hs := Nat.le_trans hs hb.size
    clear hb
    rcases Bool.eq_false_or_eq_true (vldA b) with hvb | hvb
    · rw [hvb]
      have e00 := N0.out.1 0 _ rfl
      have e01 := N0.out.1 1 _ rfl
      have e02 := N0.out.1 2 _ rfl
      have e03 := N0.out.1 3 _ rfl
      have e10 := N1.out.1 0 _ rfl
      have e11 := N1.out.1 1 _ rfl
      have e12 := N1.out.1 2 _ rfl
      have e13 := N1.out.1 3 _ rfl
      go_wp2_with fail
      refine (l9Fits_any A A' c c' a.ws b w2 (HC.out.below HB.out) hc hf (HC'.out.below HB.out) hf' hvb).mono ?_
      rintro e w3 ⟨rfl, hb⟩
      clear e00 e01 e02 e03 e10 e11 e12 e13
      have N0 := Lib.hid (N0.out.below hb (by omega))
      have N1 := Lib.hid (N1.out.below hb (by omega))
      have N2 := Lib.hid (N2.out.below hb (by omega))
      have HB := Lib.hid (HB.out.trans (hb.mono HB.out.size))
      have hs := Nat.le_trans hs hb.size
      clear hb
      rcases Bool.eq_false_or_eq_true (fitsB a.ws b) with hfi | hfi
      · rw [hfi]
        have hcan : canB a.ws b = true := by rw [canB_of hv, hvb, hfi]; rfl
        obtain ⟨hl20, _, hfit, hw5⟩ := canB_parts hcan
        have e00 := N0.out.1 0 _ rfl
        have e01 := N0.out.1 1 _ rfl
        have e02 := N0.out.1 2 _ rfl
        have e03 := N0.out.1 3 _ rfl
        have e10 := N1.out.1 0 _ rfl
        have e11 := N1.out.1 1 _ rfl
        have e12 := N1.out.1 2 _ rfl
        have e13 := N1.out.1 3 _ rfl
        have hz0 : w.heap.size < w3.heap.size := by omega
        have hz1 : w.heap.size + 1 < w3.heap.size := by omega
        go_wp2
        refine wp_region_noPanic ?_
        refine wp_region_held_drew (S := (fun w' => Below w3.heap.size w3 w' ∧ (∀ b o, b < w3.heap.size → w'.cell? ⟨b, o, none⟩ = w3.cell? ⟨b, o, none⟩))) (by kernel_rfl) ?_ (fun hHeld => ?_)
        · ((try dsimp only); refine mkS ?_; exact (Below.refl _ _).drew)
        have hud : w3.heap.size ≤ w3.drew.heap.size := hHeld.1.size
        generalize w3.drew = ud at *
        refine take_yes (i := 0) (d := 23) (v := ?_) rfl rfl (by kernel_rfl) (by kernel_rfl) (by kernel_rfl) (fun _ _ _ h => h) (by kernel_rfl) ?_ hHeld ?_
        rotate_left
        · (intro w hSw; (try dsimp only at hSw); go_simp; try (with_reducible rfl))
        try simp only [Act.put, List.setIfInBounds_toArray, List.set_cons_zero, List.set_cons_succ]
        refine take_yes (i := 1) (d := 24) (v := ?_) rfl rfl (by kernel_rfl) (by kernel_rfl) (by kernel_rfl) (fun _ _ _ h => h) (by kernel_rfl) ?_ hHeld ?_
        rotate_left
        · (intro w hSw; (try dsimp only at hSw); go_simp; try (with_reducible rfl))
        try simp only [Act.put, List.setIfInBounds_toArray, List.set_cons_zero, List.set_cons_succ]
        refine take_yes (i := 2) (d := 25) (v := ?_) rfl rfl (by kernel_rfl) (by kernel_rfl) (by kernel_rfl) (fun _ _ _ h => h) (by kernel_rfl) ?_ hHeld ?_
        rotate_left
        · (intro w hSw; (try dsimp only at hSw); go_simp; try (with_reducible rfl))
        try simp only [Act.put, List.setIfInBounds_toArray, List.set_cons_zero, List.set_cons_succ]
        refine take_yes (i := 3) (d := 26) (v := ?_) rfl rfl (by kernel_rfl) (by kernel_rfl) (by kernel_rfl) (fun _ _ _ h => h) (by kernel_rfl) ?_ hHeld ?_
        rotate_left
        · (intro w hSw; (try dsimp only at hSw); go_simp; try (with_reducible rfl))
        try simp only [Act.put, List.setIfInBounds_toArray, List.set_cons_zero, List.set_cons_succ]
        refine take_yes (i := 4) (d := 27) (v := ?_) rfl rfl (by kernel_rfl) (by kernel_rfl) (by kernel_rfl) (fun _ _ _ h => h) (by kernel_rfl) ?_ hHeld ?_
        rotate_left
        · (intro w hSw; (try dsimp only at hSw); go_simp; try (with_reducible rfl))
        try simp only [Act.put, List.setIfInBounds_toArray, List.set_cons_zero, List.set_cons_succ]
        refine take_yes (i := 5) (d := 28) (v := ?_) rfl rfl (by kernel_rfl) (by kernel_rfl) (by kernel_rfl) (fun _ _ _ h => h) (by kernel_rfl) ?_ hHeld ?_
        rotate_left
        · (intro w hSw; (try dsimp only at hSw); go_simp; try (with_reducible rfl))
        try simp only [Act.put, List.setIfInBounds_toArray, List.set_cons_zero, List.set_cons_succ]
        refine take_yes (i := 6) (d := 29) (v := ?_) rfl rfl (by kernel_rfl) (by kernel_rfl) (by kernel_rfl) (fun _ _ _ h => h) (by kernel_rfl) ?_ hHeld ?_
        rotate_left
        · (intro w hSw; (try dsimp only at hSw); go_simp; try (with_reducible rfl))
        try simp only [Act.put, List.setIfInBounds_toArray, List.set_cons_zero, List.set_cons_succ]
        refine take_yes (i := 7) (d := 30) (v := ?_) rfl rfl (by kernel_rfl) (by kernel_rfl) (by kernel_rfl) (fun _ _ _ h => h) (by kernel_rfl) ?_ hHeld ?_
        rotate_left
        · (intro w hSw; (try dsimp only at hSw); go_simp; try (with_reducible rfl))
        try simp only [Act.put, List.setIfInBounds_toArray, List.set_cons_zero, List.set_cons_succ]
        refine take_yes (i := 8) (d := 31) (v := ?_) rfl rfl (by kernel_rfl) (by kernel_rfl) (by kernel_rfl) (fun _ _ _ h => h) (by kernel_rfl) ?_ hHeld ?_
        rotate_left
        · (intro w hSw; (try dsimp only at hSw); go_simp; try (with_reducible rfl))
        try simp only [Act.put, List.setIfInBounds_toArray, List.set_cons_zero, List.set_cons_succ]
        clear e00 e01 e02 e03 e10 e11 e12 e13
        refine wpAnyH_ready (rs := [9, 11]) (by kernel_rfl) (by simp) ?_
        refine AllReadyH.cons rfl (fun K hK => ?_) (AllReadyH.cons rfl (fun K hK => ?_) AllReadyH.nil)
        · go_simp
          (go_at_call 68; refine (l9Apply_any A A' c c' a.ws b ud ((HC.out.below HB.out).below hHeld.1) hc hf ((HC'.out.below HB.out).below hHeld.1) hf' (Small.of hvb) hfit hw5 hl20).mono ?_; rintro e u9 ⟨O, d, rfl, own, hb⟩)
          have HB9 := Lib.hid (callS hHeld (Nat.le_refl _) hb).1
          have hlo := hHeld.1.size
          have HO := Lib.hid own
          clear own hb
          (first | refine hK.out _ _ ?_ (fun hHeld1 => ?_) | (go_wp2_with fail; refine hK.out _ _ ?_ (fun hHeld1 => ?_)))
          · ((try dsimp only); refine mkS ?_; exact HB9.out)
          clear hK K hHeld
          have hHeld := hHeld1
          clear hHeld1
          try simp only [Act.put, List.setIfInBounds_toArray, List.set_cons_zero, List.set_cons_succ]
          refine take_yes (i := 10) (d := 33) (v := ?_) rfl rfl (by kernel_rfl) (by kernel_rfl) (by kernel_rfl) (fun _ _ _ h => h) (by kernel_rfl) ?_ hHeld ?_
          rotate_left
          · (intro w hSw; (try dsimp only at hSw); go_simp; try (with_reducible rfl))
          try simp only [Act.put, List.setIfInBounds_toArray, List.set_cons_zero, List.set_cons_succ]
          refine wpAnyH_ready (rs := [11]) (by kernel_rfl) (by simp) ?_
          refine AllReadyH.cons rfl (fun K hK => ?_) AllReadyH.nil
          have hge : w3.heap.size ≤ u9.heap.size := hHeld.1.size
          try go_simp
          (first | refine hK.out _ _ ?_ (fun hHeld1 => ?_) | (go_wp2_with fail; refine hK.out _ _ ?_ (fun hHeld1 => ?_)))
          · ((try dsimp only); refine allocS ?_ ?_; assumption; exact Nat.le_refl _)
          clear hK K hHeld
          have hHeld := hHeld1
          clear hHeld1
          try simp only [Act.put, List.setIfInBounds_toArray, List.set_cons_zero, List.set_cons_succ]
          have N6 := Lib.hid (BoxF.new4 u9 (.int .i64 0) (.int .i64 0) (.int .i64 0) (.slice none 0 0) 40 u9.heap.size rfl)
          have hbl : u9.heap.size < (u9.alloc (.cells #[.int .i64 0, .int .i64 0, .int .i64 0, .slice none 0 0] 40)).heap.size := by simp
          have hne : (Value.slice O (amdL a.ws b).length d).ownBlock ≠ some u9.heap.size := fun e => by have h1 := (HO.out.lt _ e).2; omega
          have HO := Lib.hid (own_keep HO.out (below1 u9 (.cells #[.int .i64 0, .int .i64 0, .int .i64 0, .slice none 0 0] 40)))
          generalize (u9.alloc (.cells #[.int .i64 0, .int .i64 0, .int .i64 0, .slice none 0 0] 40)) = v at *
          have e60 := N6.out.1 0 _ rfl
          have e61 := N6.out.1 1 _ rfl
          have e62 := N6.out.1 2 _ rfl
          have e63 := N6.out.1 3 _ rfl
          have f60 := N6.out.2 0
          have f61 := N6.out.2 1
          have f62 := N6.out.2 2
          have f63 := N6.out.2 3
          refine wpAnyH_ready (rs := [12]) (by kernel_rfl) (by simp) ?_
          refine AllReadyH.cons rfl (fun K hK => ?_) AllReadyH.nil
          go_simp
          (first | refine hK.out _ _ ?_ (fun hHeld1 => ?_) | (go_wp2_with fail; refine hK.out _ _ ?_ (fun hHeld1 => ?_)))
          · ((try dsimp only); refine set4S ?_ ?_; assumption; exact hge)
          clear hK K hHeld
          have hHeld := hHeld1
          clear hHeld1
          try simp only [Act.put, List.setIfInBounds_toArray, List.set_cons_zero, List.set_cons_succ]
          refine wpAnyH_done (by kernel_rfl) ?_ _
          refine NoPanic.normal ?_
          clear e60 e61 e62 e63 f60 f61 f62 f63
          have N6 := Lib.hid (N6.out.set4 (.int .i64 a.k) (.int .i64 a.p) (.int .i64 a.n) (.slice O (amdL a.ws b).length d))
          have HO := Lib.hid (own_off4 HO.out hne (.int .i64 a.k) (.int .i64 a.p) (.int .i64 a.n) (.slice O (amdL a.ws b).length d))
          have hb := hHeld.1
          have N2 := Lib.hid (N2.out.below hb (by omega))
          have HB := Lib.hid (HB.out.trans (hb.mono HB.out.size))
          have hs := Nat.le_trans hs hb.size
          have hg6 : u9.heap.size < ((((v.setCell ⟨u9.heap.size, 0, none⟩ (.int .i64 a.k)).setCell ⟨u9.heap.size, 1, none⟩ (.int .i64 a.p)).setCell ⟨u9.heap.size, 2, none⟩ (.int .i64 a.n)).setCell ⟨u9.heap.size, 3, none⟩ (.slice O (amdL a.ws b).length d)).heap.size := by simp only [World.size_setCell]; exact hbl
          have hlo3 : w3.heap.size ≤ ud.heap.size := hud
          clear hHeld hb hbl
          generalize (((v.setCell ⟨u9.heap.size, 0, none⟩ (.int .i64 a.k)).setCell ⟨u9.heap.size, 1, none⟩ (.int .i64 a.p)).setCell ⟨u9.heap.size, 2, none⟩ (.int .i64 a.n)).setCell ⟨u9.heap.size, 3, none⟩ (.slice O (amdL a.ws b).length d) = X at *
          have e60 := N6.out.1 0 _ rfl
          have e61 := N6.out.1 1 _ rfl
          have e62 := N6.out.1 2 _ rfl
          have e63 := N6.out.1 3 _ rfl
          have f60 := N6.out.2 0
          have f61 := N6.out.2 1
          have f62 := N6.out.2 2
          have f63 := N6.out.2 3
          go_wp2_with fail
          clear e60 e61 e62 e63 f60 f61 f62 f63
          refine (l9Good_any O d ⟨a.k, a.p, a.n, amdL a.ws b⟩ X (Cells.of_own HO.out) (Fit.amd hf hf' hl20 hw5)).mono ?_
          rintro e w5 ⟨rfl, hb⟩
          have HO := Lib.hid (own_keep HO.out hb)
          have N2 := Lib.hid (N2.out.below hb (by omega))
          have N6 := Lib.hid (N6.out.below hb (by omega))
          have HB := Lib.hid (HB.out.trans (hb.mono HB.out.size))
          have hs := Nat.le_trans hs hb.size
          clear hb
          rcases Bool.eq_false_or_eq_true (vldA ⟨a.k, a.p, a.n, amdL a.ws b⟩) with hq | hq
          · rw [hq]
            have hok : scOk a b = true := by unfold scOk secA; rw [hv, hcan, hq]; rfl
            have HYES := Lib.hid (scR_yes hok)
            have e20 := N2.out.1 0 _ rfl
            have e21 := N2.out.1 1 _ rfl
            have e22 := N2.out.1 2 _ rfl
            have e23 := N2.out.1 3 _ rfl
            have f20 := N2.out.2 0
            have f21 := N2.out.2 1
            have f22 := N2.out.2 2
            have f23 := N2.out.2 3
            have e60 := N6.out.1 0 _ rfl
            have e61 := N6.out.1 1 _ rfl
            have e62 := N6.out.1 2 _ rfl
            have e63 := N6.out.1 3 _ rfl
            have f60 := N6.out.2 0
            have f61 := N6.out.2 1
            have f62 := N6.out.2 2
            have f63 := N6.out.2 3
            go_wp2
            have KS := N2.out.set4 (.int .i64 a.k) (.int .i64 a.p) (.int .i64 a.n) (.slice O (amdL a.ws b).length d)
            have k0 := KS.1 0 _ rfl
            have k1 := KS.1 1 _ rfl
            have k2 := KS.1 2 _ rfl
            have k3 := KS.1 3 _ rfl
            refine bodyPost_ret (v := .tuple #[.agg #[.int .i64 a.k, .int .i64 a.p, .int .i64 a.n, .slice O (amdL a.ws b).length d], .bool true]) (by simp [results, Try.results63, go_sem, k0, k1, k2, k3]) rfl ?_
            rw [HYES.out, hok]
            refine ⟨O, d, rfl, own_mono (own_off4 HO.out (fun e => by have := (HO.out.lt _ e).1; omega) _ _ _ _) (by omega), ?_⟩
            have hb9 := HB.out
            go_grown
          · rw [hq]
            have hok : scOk a b = false := by unfold scOk secA; rw [hv, hcan, hq]; rfl
            have HNO := Lib.hid (scR_no hok)
            have e20 := N2.out.1 0 _ rfl
            have e21 := N2.out.1 1 _ rfl
            have e22 := N2.out.1 2 _ rfl
            have e23 := N2.out.1 3 _ rfl
            have f20 := N2.out.2 0
            have f21 := N2.out.2 1
            have f22 := N2.out.2 2
            have f23 := N2.out.2 3
            go_wp2
            have KS := N2.out.set4 (.int .i64 0) (.int .i64 0) (.int .i64 0) (.slice none 0 0)
            have k0 := KS.1 0 _ rfl
            have k1 := KS.1 1 _ rfl
            have k2 := KS.1 2 _ rfl
            have k3 := KS.1 3 _ rfl
            refine bodyPost_ret (v := .tuple #[.agg #[.int .i64 0, .int .i64 0, .int .i64 0, .slice none 0 0], .bool false]) (by simp [results, Try.results63, go_sem, k0, k1, k2, k3]) rfl ?_
            refine madeAB_no HNO.out hok ?_
            have hb9 := HB.out
            go_grown
        · have hge : w3.heap.size ≤ ud.heap.size := hHeld.1.size
          try go_simp
          (first | refine hK.out _ _ ?_ (fun hHeld1 => ?_) | (go_wp2_with fail; refine hK.out _ _ ?_ (fun hHeld1 => ?_)))
          · ((try dsimp only); refine allocS ?_ ?_; assumption; exact Nat.le_refl _)
          clear hK K hHeld
          have hHeld := hHeld1
          clear hHeld1
          try simp only [Act.put, List.setIfInBounds_toArray, List.set_cons_zero, List.set_cons_succ]
          have N6 := Lib.hid (BoxF.new4 ud (.int .i64 0) (.int .i64 0) (.int .i64 0) (.slice none 0 0) 40 ud.heap.size rfl)
          have hbl : ud.heap.size < (ud.alloc (.cells #[.int .i64 0, .int .i64 0, .int .i64 0, .slice none 0 0] 40)).heap.size := by simp
          generalize (ud.alloc (.cells #[.int .i64 0, .int .i64 0, .int .i64 0, .slice none 0 0] 40)) = v at *
          refine wpAnyH_ready (rs := [9]) (by kernel_rfl) (by simp) ?_
          refine AllReadyH.cons rfl (fun K hK => ?_) AllReadyH.nil
          go_simp
          (go_at_call 68; refine (l9Apply_any A A' c c' a.ws b v ((HC.out.below HB.out).below hHeld.1) hc hf ((HC'.out.below HB.out).below hHeld.1) hf' (Small.of hvb) hfit hw5 hl20).mono ?_; rintro e u9 ⟨O, d, rfl, own, hb⟩)
          have HB9 := Lib.hid (callS hHeld (Nat.le_refl _) hb).1
          have hlo := hHeld.1.size
          have HO := Lib.hid own
          have hne : (Value.slice O (amdL a.ws b).length d).ownBlock ≠ some ud.heap.size := fun e => by have h1 := (own.lt _ e).1; omega
          have N6 := Lib.hid (N6.out.below hb hbl)
          have hbl := Nat.lt_of_lt_of_le hbl hb.size
          clear own hb
          (first | refine hK.out _ _ ?_ (fun hHeld1 => ?_) | (go_wp2_with fail; refine hK.out _ _ ?_ (fun hHeld1 => ?_)))
          · ((try dsimp only); refine mkS ?_; exact HB9.out)
          clear hK K hHeld
          have hHeld := hHeld1
          clear hHeld1
          try simp only [Act.put, List.setIfInBounds_toArray, List.set_cons_zero, List.set_cons_succ]
          refine take_yes (i := 10) (d := 33) (v := ?_) rfl rfl (by kernel_rfl) (by kernel_rfl) (by kernel_rfl) (fun _ _ _ h => h) (by kernel_rfl) ?_ hHeld ?_
          rotate_left
          · (intro w hSw; (try dsimp only at hSw); go_simp; try (with_reducible rfl))
          try simp only [Act.put, List.setIfInBounds_toArray, List.set_cons_zero, List.set_cons_succ]
          have e60 := N6.out.1 0 _ rfl
          have e61 := N6.out.1 1 _ rfl
          have e62 := N6.out.1 2 _ rfl
          have e63 := N6.out.1 3 _ rfl
          have f60 := N6.out.2 0
          have f61 := N6.out.2 1
          have f62 := N6.out.2 2
          have f63 := N6.out.2 3
          refine wpAnyH_ready (rs := [12]) (by kernel_rfl) (by simp) ?_
          refine AllReadyH.cons rfl (fun K hK => ?_) AllReadyH.nil
          go_simp
          (first | refine hK.out _ _ ?_ (fun hHeld1 => ?_) | (go_wp2_with fail; refine hK.out _ _ ?_ (fun hHeld1 => ?_)))
          · ((try dsimp only); refine set4S ?_ ?_; assumption; exact hge)
          clear hK K hHeld
          have hHeld := hHeld1
          clear hHeld1
          try simp only [Act.put, List.setIfInBounds_toArray, List.set_cons_zero, List.set_cons_succ]
          refine wpAnyH_done (by kernel_rfl) ?_ _
          refine NoPanic.normal ?_
          clear e60 e61 e62 e63 f60 f61 f62 f63
          have N6 := Lib.hid (N6.out.set4 (.int .i64 a.k) (.int .i64 a.p) (.int .i64 a.n) (.slice O (amdL a.ws b).length d))
          have HO := Lib.hid (own_off4 HO.out hne (.int .i64 a.k) (.int .i64 a.p) (.int .i64 a.n) (.slice O (amdL a.ws b).length d))
          have hb := hHeld.1
          have N2 := Lib.hid (N2.out.below hb (by omega))
          have HB := Lib.hid (HB.out.trans (hb.mono HB.out.size))
          have hs := Nat.le_trans hs hb.size
          have hg6 : ud.heap.size < ((((u9.setCell ⟨ud.heap.size, 0, none⟩ (.int .i64 a.k)).setCell ⟨ud.heap.size, 1, none⟩ (.int .i64 a.p)).setCell ⟨ud.heap.size, 2, none⟩ (.int .i64 a.n)).setCell ⟨ud.heap.size, 3, none⟩ (.slice O (amdL a.ws b).length d)).heap.size := by simp only [World.size_setCell]; exact hbl
          have hlo3 : w3.heap.size ≤ ud.heap.size := hud
          clear hHeld hb hbl
          generalize (((u9.setCell ⟨ud.heap.size, 0, none⟩ (.int .i64 a.k)).setCell ⟨ud.heap.size, 1, none⟩ (.int .i64 a.p)).setCell ⟨ud.heap.size, 2, none⟩ (.int .i64 a.n)).setCell ⟨ud.heap.size, 3, none⟩ (.slice O (amdL a.ws b).length d) = X at *
          have e60 := N6.out.1 0 _ rfl
          have e61 := N6.out.1 1 _ rfl
          have e62 := N6.out.1 2 _ rfl
          have e63 := N6.out.1 3 _ rfl
          have f60 := N6.out.2 0
          have f61 := N6.out.2 1
          have f62 := N6.out.2 2
          have f63 := N6.out.2 3
          go_wp2_with fail
          clear e60 e61 e62 e63 f60 f61 f62 f63
          refine (l9Good_any O d ⟨a.k, a.p, a.n, amdL a.ws b⟩ X (Cells.of_own HO.out) (Fit.amd hf hf' hl20 hw5)).mono ?_
          rintro e w5 ⟨rfl, hb⟩
          have HO := Lib.hid (own_keep HO.out hb)
          have N2 := Lib.hid (N2.out.below hb (by omega))
          have N6 := Lib.hid (N6.out.below hb (by omega))
          have HB := Lib.hid (HB.out.trans (hb.mono HB.out.size))
          have hs := Nat.le_trans hs hb.size
          clear hb
          rcases Bool.eq_false_or_eq_true (vldA ⟨a.k, a.p, a.n, amdL a.ws b⟩) with hq | hq
          · rw [hq]
            have hok : scOk a b = true := by unfold scOk secA; rw [hv, hcan, hq]; rfl
            have HYES := Lib.hid (scR_yes hok)
            have e20 := N2.out.1 0 _ rfl
            have e21 := N2.out.1 1 _ rfl
            have e22 := N2.out.1 2 _ rfl
            have e23 := N2.out.1 3 _ rfl
            have f20 := N2.out.2 0
            have f21 := N2.out.2 1
            have f22 := N2.out.2 2
            have f23 := N2.out.2 3
            have e60 := N6.out.1 0 _ rfl
            have e61 := N6.out.1 1 _ rfl
            have e62 := N6.out.1 2 _ rfl
            have e63 := N6.out.1 3 _ rfl
            have f60 := N6.out.2 0
            have f61 := N6.out.2 1
            have f62 := N6.out.2 2
            have f63 := N6.out.2 3
            go_wp2
            have KS := N2.out.set4 (.int .i64 a.k) (.int .i64 a.p) (.int .i64 a.n) (.slice O (amdL a.ws b).length d)
            have k0 := KS.1 0 _ rfl
            have k1 := KS.1 1 _ rfl
            have k2 := KS.1 2 _ rfl
            have k3 := KS.1 3 _ rfl
            refine bodyPost_ret (v := .tuple #[.agg #[.int .i64 a.k, .int .i64 a.p, .int .i64 a.n, .slice O (amdL a.ws b).length d], .bool true]) (by simp [results, Try.results63, go_sem, k0, k1, k2, k3]) rfl ?_
            rw [HYES.out, hok]
            refine ⟨O, d, rfl, own_mono (own_off4 HO.out (fun e => by have := (HO.out.lt _ e).1; omega) _ _ _ _) (by omega), ?_⟩
            have hb9 := HB.out
            go_grown
          · rw [hq]
            have hok : scOk a b = false := by unfold scOk secA; rw [hv, hcan, hq]; rfl
            have HNO := Lib.hid (scR_no hok)
            have e20 := N2.out.1 0 _ rfl
            have e21 := N2.out.1 1 _ rfl
            have e22 := N2.out.1 2 _ rfl
            have e23 := N2.out.1 3 _ rfl
            have f20 := N2.out.2 0
            have f21 := N2.out.2 1
            have f22 := N2.out.2 2
            have f23 := N2.out.2 3
            go_wp2
            have KS := N2.out.set4 (.int .i64 0) (.int .i64 0) (.int .i64 0) (.slice none 0 0)
            have k0 := KS.1 0 _ rfl
            have k1 := KS.1 1 _ rfl
            have k2 := KS.1 2 _ rfl
            have k3 := KS.1 3 _ rfl
            refine bodyPost_ret (v := .tuple #[.agg #[.int .i64 0, .int .i64 0, .int .i64 0, .slice none 0 0], .bool false]) (by simp [results, Try.results63, go_sem, k0, k1, k2, k3]) rfl ?_
            refine madeAB_no HNO.out hok ?_
            have hb9 := HB.out
            go_grown
      · rw [hfi]
        have hok : scOk a b = false := by unfold scOk; rw [canB_of hv, hvb, hfi]; simp
        have HNO := Lib.hid (scR_no hok)
        have e20 := N2.out.1 0 _ rfl
        have e21 := N2.out.1 1 _ rfl
        have e22 := N2.out.1 2 _ rfl
        have e23 := N2.out.1 3 _ rfl
        have f20 := N2.out.2 0
        have f21 := N2.out.2 1
        have f22 := N2.out.2 2
        have f23 := N2.out.2 3
        go_wp2
        have KS := N2.out.set4 (.int .i64 0) (.int .i64 0) (.int .i64 0) (.slice none 0 0)
        have k0 := KS.1 0 _ rfl
        have k1 := KS.1 1 _ rfl
        have k2 := KS.1 2 _ rfl
        have k3 := KS.1 3 _ rfl
        refine bodyPost_ret (v := .tuple #[.agg #[.int .i64 0, .int .i64 0, .int .i64 0, .slice none 0 0], .bool false]) (by simp [results, Try.results63, go_sem, k0, k1, k2, k3]) rfl ?_
        refine madeAB_no HNO.out hok ?_
        have hb9 := HB.out
        go_grown
    · rw [hvb]
      have hok : scOk a b = false := by unfold scOk; rw [canB_of hv, hvb]; simp
      have HNO := Lib.hid (scR_no hok)
      have e20 := N2.out.1 0 _ rfl
      have e21 := N2.out.1 1 _ rfl
      have e22 := N2.out.1 2 _ rfl
      have e23 := N2.out.1 3 _ rfl
      have f20 := N2.out.2 0
      have f21 := N2.out.2 1
      have f22 := N2.out.2 2
      have f23 := N2.out.2 3
      go_wp2
      have KS := N2.out.set4 (.int .i64 0) (.int .i64 0) (.int .i64 0) (.slice none 0 0)
      have k0 := KS.1 0 _ rfl
      have k1 := KS.1 1 _ rfl
      have k2 := KS.1 2 _ rfl
      have k3 := KS.1 3 _ rfl
      refine bodyPost_ret (v := .tuple #[.agg #[.int .i64 0, .int .i64 0, .int .i64 0, .slice none 0 0], .bool false]) (by simp [results, Try.results63, go_sem, k0, k1, k2, k3]) rfl ?_
      refine madeAB_no HNO.out hok ?_
      have hb9 := HB.out
      go_grown
  · rw [hv]
    have hok : scOk a b = false := by unfold scOk; rw [hv]; rfl
    have HNO := Lib.hid (scR_no hok)
    have e20 := N2.out.1 0 _ rfl
    have e21 := N2.out.1 1 _ rfl
    have e22 := N2.out.1 2 _ rfl
    have e23 := N2.out.1 3 _ rfl
    have f20 := N2.out.2 0
    have f21 := N2.out.2 1
    have f22 := N2.out.2 2
    have f23 := N2.out.2 3
    go_wp2
    have KS := N2.out.set4 (.int .i64 0) (.int .i64 0) (.int .i64 0) (.slice none 0 0)
    have k0 := KS.1 0 _ rfl
    have k1 := KS.1 1 _ rfl
    have k2 := KS.1 2 _ rfl
    have k3 := KS.1 3 _ rfl
    refine bodyPost_ret (v := .tuple #[.agg #[.int .i64 0, .int .i64 0, .int .i64 0, .slice none 0 0], .bool false]) (by simp [results, Try.results63, go_sem, k0, k1, k2, k3]) rfl ?_
    refine madeAB_no HNO.out hok ?_
    have hb9 := HB.out
    go_grown
theorem Fit.sec {a b : Amd} (h : Fit a.ws) (h' : Fit b.ws) : Fit (scR a b).ws := by
  unfold scR
  split
  · rename_i hok
    unfold scOk at hok
    simp only [Bool.and_eq_true] at hok
    obtain ⟨h1, _, _, h4⟩ := canB_parts hok.1.2
    exact Fit.amd h h' h1 h4
  · exact ⟨by simp [noA], fun s hs => by simp [noA] at hs⟩
section
variable {B B' : Nat} {w : World} {A A' : Option Addr} {c c' : Nat} {a b : Amd}
theorem SecondaryChange_abs (h : RdS B w A c a.ws) (h' : RdS B' w A' c' b.ws) : Calls Try.prog 62 #[.agg #[.int .i64 a.k, .int .i64 a.p, .int .i64 a.n, .slice A a.ws.length c], .agg #[.int .i64 b.k, .int .i64 b.p, .int .i64 b.n, .slice A' b.ws.length c']] w (ToAB w (scR a b) (scOk a b)) :=
  (SecondaryChange_any A A' c c' a b w h.cells h.1 h.2.2 h'.cells h'.2.2).mono fun _ _ h1 => h1.obj (Fit.sec h.2.2 h'.2.2)
theorem sSecondaryChange_abs (h : RdS B w A c a.ws) (h' : RdS B' w A' c' b.ws) : Calls Try.prog 63 #[.agg #[.int .i64 a.k, .int .i64 a.p, .int .i64 a.n, .slice A a.ws.length c], .agg #[.int .i64 b.k, .int .i64 b.p, .int .i64 b.n, .slice A' b.ws.length c']] w (ToAB w (scR a b) (scOk a b)) :=
  (sSecondaryChange_any A A' c c' a b w h.cells h.1 h.2.2 h'.cells h'.2.2).mono fun _ _ h1 => h1.obj (Fit.sec h.2.2 h'.2.2)
end
end Go.Proofs.Ytgchbimjgdoifaa
