/- The amended text: impl.amended and the reference's l9Apply. Conditions: the ranges named. -/
import Derived.Test.YtnnphhhjkhoglaaGreatDoorCat
namespace Go.Proofs.YtnnphhhjkhoglaaGreatDoor
open Go.RowKit
set_option linter.unusedVariables false
/-- The amended text. -/
def amdL (ss : List ByteArray) (a : Amd) : List ByteArray := ss.take a.p.toNat ++ (a.ws ++ ss.drop (a.p + a.n).toNat)
theorem cells_new' (w : World) (xs : List Value) (t : TypeId) (g : Nat) (hg : g = w.heap.size) : Cells (w.alloc (.cells xs.toArray t)).drew (some ⟨g, 0, none⟩) xs := by
  subst hg; exact cells_new w xs t
set_option maxHeartbeats 1600000 in
theorem amended_any (T A : Option Addr) (t c : Nat) (ss : List ByteArray) (a : Amd) (w : World) (h : Cells w T (strs ss)) (hc : ss.length ≤ t) (hf : Fit ss) (h' : Cells w A (strs a.ws)) (hf' : Fit a.ws) (hs : Small a) (hfit : a.p + a.n ≤ ss.length) (hw : a.ws.length ≤ 5) (h20 : ss.length ≤ 20) :
    Calls Tryz.prog 47 #[.slice T ss.length t, .agg #[.int .i64 a.k, .int .i64 a.p, .int .i64 a.n, .slice A a.ws.length c]] w fun e w' => ∃ (O : Option Addr) (d : Nat), e = .returned (.slice O (amdL ss a).length d) ∧ w'.ownsRow w.heap.size 9 1 (.slice O (amdL ss a).length d) (amdL ss a).length (strs (amdL ss a)) ∧ Below w.heap.size w w' := by
  obtain ⟨k, p, n, ws⟩ := a
  obtain ⟨hp0, hp1, hn0, hn1⟩ := hs
  simp only at *
  obtain ⟨p, rfl⟩ := Int.eq_ofNat_of_zero_le hp0
  obtain ⟨n, rfl⟩ := Int.eq_ofNat_of_zero_le hn0
  have q0 : IntKind.i64.wrap ((p : Int) + n) = (p : Int) + n := by rw [IntKind.wrap_i64]; omega
  have q1 : ((p : Int) + n).toNat = p + n := by omega
  have q2 : (p : Int) ≤ (p : Int) + n := by omega
  have q3 : (p : Int) + n ≤ (t : Int) := by omega
  have q4 : (p : Int) ≤ (t : Int) := by omega
  have q5 : (0 : Int) ≤ (p : Int) + n := by omega
  have H1 : Hid (Cells w T (strs (ss.take p))) := by
    have := h.cut (lo := 0) (n := p) (A' := T) (fun _ => by cases T with | none => rfl | some ad => simp [Addr.add])
    rwa [strs_cut, List.drop_zero] at this
  have H2 : Hid (Cells w (if t = p + n then T else T.map (·.add (p + n))) (strs (ss.drop (p + n)))) := by
    have := h.cut (lo := p + n) (n := ss.length - (p + n)) (A' := if t = p + n then T else T.map (·.add (p + n))) (fun h0 => by rw [if_neg (by omega)])
    rwa [strs_cut, List.take_of_length_le (by simp)] at this
  have H3 := Lib.hid h'
  have hL := Lib.hid (show amdL ss ⟨k, p, n, ws⟩ = catL [(some ⟨w.heap.size + 1, 0, none⟩, 0, []), (T, t, ss.take p), (A, c, ws), (if t = p + n then T else T.map (·.add (p + n)), t - (p + n), ss.drop (p + n))] by simp [catL, amdL, q1])
  have hN := Lib.hid (show (amdL ss ⟨k, p, n, ws⟩).length ≤ 1000000 by simp [amdL]; omega)
  obtain ⟨M, e1⟩ : ∃ M, (if t = p + n then T else T.map (·.add (p + n))) = M := ⟨_, rfl⟩
  rw [e1] at H2 hL
  have HP := Lib.hid (show (ss.take p).length = p by simp; omega)
  have HD := Lib.hid (show (ss.drop (p + n)).length = ss.length - (p + n) by simp)
  clear h h'
  go_enter Tryz.func47, Tryz.ntmps47
  go_wp2_with fail
  go_region_held3 (fun w' => Below (w.heap.size + 1) (w.alloc (.cells #[.int .i64 k, .int .i64 p, .int .i64 n, .slice A ws.length c] 35)) w' ∧ (∀ b o, b < w.heap.size + 1 → w'.cell? ⟨b, o, none⟩ = (w.alloc (.cells #[.int .i64 k, .int .i64 p, .int .i64 n, .slice A ws.length c] 35)).cell? ⟨b, o, none⟩))
    ((first | (refine mkS ?_; assumption) | (refine allocS ?_ ?_; assumption; simp; done) | (refine drewS ?_; assumption) | (refine mkS ?_; go_grown)))
    (first
      | (go_at_call 65; refine (concat4_any _ (some ⟨w.heap.size + 1, 0, none⟩, 0, []) (T, t, ss.take p) (A, c, ws) (M, t - (p + n), ss.drop (p + n)) (.slice (some ⟨w.heap.size + 1, 0, none⟩) 0 0) (.slice T p t) (.slice A ws.length c) (.slice M (ss.length - (p + n)) (t - (p + n))) _ rfl ?_ rfl ?_ ?_ Cells.nil_ ?_ ?_ ?_ (amdL ss ⟨k, p, n, ws⟩) hL.out hN.out).mono ?_; simp only [partV, HP.out]; simp only [partV, HD.out]; exact cells_new' _ [_, _, _, _] _ _ (by simp); exact ((H1.out.alloc_ _).alloc_ _).alloc_ _; exact (((H3.out.alloc_ _).alloc_ _).alloc_ _); exact ((H2.out.alloc_ _).alloc_ _).alloc_ _; rintro e w1 ⟨O, d, rfl, own, hb⟩; have HO := Lib.hid (own_mono own (show w.heap.size ≤ _ by simp; omega)); obtain ⟨hB, hzz⟩ := callS (by assumption) (by simp) hb; have HBz := Lib.hid hB; clear hb own))
  go_wp2
  go_ret
  exact ⟨O, d, rfl, HO.out, ((Below.refl _ _).alloc (Nat.le_refl _) _).trans (HBz.out.mono (by simp))⟩
theorem own_lit0 (w : World) (base g : Nat) (hg : g = w.heap.size) (hb : base ≤ w.heap.size) : (w.alloc (.cells #[] 9)).drew.ownsRow base 9 1 (.slice (some ⟨g, 0, none⟩) 0 0) 0 [] := by
  subst hg
  exact (World.ownsRow_lit w #[] 0 hb (by simp) (by simp)).drew
theorem step_append_strs {ops : Array Oper} {o : Oper} {a : Act} {K : Act → World → Prop} {Q : Exit → Act → World → Prop} {E : Prop} (w : World) (hgd : o.guard = none) (s x : Operand)
    (ho : o.op = .call { callee := .builtin .append, args := #[s, x], argTypes := #[24, 24] }) (base : Nat) (O A : Option Addr) (oc n m c : Nat) (xs : List Value) (ss : List ByteArray) (hs : a.eval s = .slice O n oc) (hx : a.eval x = .slice A m c) (hm : m = ss.length) (hown : w.ownsRow base 9 1 (.slice O n oc) n xs) (hc : Cells w A (strs ss)) (hb : base ≤ w.heap.size) (h63 : n + ss.length ≤ 1000000)
    (h : ∀ (O' : Option Addr) (d : Nat) (w' : World), w'.ownsRow base 9 1 (.slice O' (n + m) d) (n + m) (xs ++ strs ss) → Below base w w' → K (a.put o.dst (.slice O' (n + m) d)) w') :
    if Region.wanted o (yielded ops a.tmps) = true then Oper.wp Tryz.prog o a w K Q else E := by
  subst hm
  have hw : Region.wanted o (yielded ops a.tmps) = true := by simp [Region.wanted, hgd]
  rw [if_pos hw]
  obtain ⟨O', d, w', hrun, h1, h2, _⟩ := append_strs w o.type base O A oc n c xs ss hown hc hb h63
  exact Lib.wp_append_run w s x _ _ ho _ _ hs hx _ _ hrun (h O' d w' h1 h2)
set_option maxHeartbeats 1600000 in
theorem l9Apply_any (T A : Option Addr) (t c : Nat) (ss : List ByteArray) (a : Amd) (w : World) (h : Cells w T (strs ss)) (hc : ss.length ≤ t) (hf : Fit ss) (h' : Cells w A (strs a.ws)) (hf' : Fit a.ws) (hs : Small a) (hfit : a.p + a.n ≤ ss.length) (hw : a.ws.length ≤ 5) (h20 : ss.length ≤ 20) :
    Calls Tryz.prog 24 #[.slice T ss.length t, .agg #[.int .i64 a.k, .int .i64 a.p, .int .i64 a.n, .slice A a.ws.length c]] w fun e w' => ∃ (O : Option Addr) (d : Nat), e = .returned (.slice O (amdL ss a).length d) ∧ w'.ownsRow w.heap.size 9 1 (.slice O (amdL ss a).length d) (amdL ss a).length (strs (amdL ss a)) ∧ Below w.heap.size w w' := by
  obtain ⟨k, p, n, ws⟩ := a
  obtain ⟨hp0, hp1, hn0, hn1⟩ := hs
  simp only at *
  obtain ⟨p, rfl⟩ := Int.eq_ofNat_of_zero_le hp0
  obtain ⟨n, rfl⟩ := Int.eq_ofNat_of_zero_le hn0
  have q0 : IntKind.i64.wrap ((p : Int) + n) = (p : Int) + n := by rw [IntKind.wrap_i64]; omega
  have q1 : ((p : Int) + n).toNat = p + n := by omega
  have q2 : (p : Int) ≤ (p : Int) + n := by omega
  have q3 : (p : Int) + n ≤ (t : Int) := by omega
  have q4 : (p : Int) ≤ (t : Int) := by omega
  have q5 : (0 : Int) ≤ (p : Int) + n := by omega
  have H1 : Hid (Cells w T (strs (ss.take p))) := by
    have := h.cut (lo := 0) (n := p) (A' := T) (fun _ => by cases T with | none => rfl | some ad => simp [Addr.add])
    rwa [strs_cut, List.drop_zero] at this
  have H2 : Hid (Cells w (if t = p + n then T else T.map (·.add (p + n))) (strs (ss.drop (p + n)))) := by
    have := h.cut (lo := p + n) (n := ss.length - (p + n)) (A' := if t = p + n then T else T.map (·.add (p + n))) (fun h0 => by rw [if_neg (by omega)])
    rwa [strs_cut, List.take_of_length_le (by simp)] at this
  have H3 := Lib.hid h'
  obtain ⟨M, e1⟩ : ∃ M, (if t = p + n then T else T.map (·.add (p + n))) = M := ⟨_, rfl⟩
  rw [e1] at H2
  have hL := Lib.hid (show amdL ss ⟨k, p, n, ws⟩ = (ss.take p ++ ws) ++ ss.drop (p + n) by simp [amdL, q1])
  have HP := Lib.hid (show (ss.take p).length = p by simp; omega)
  have HD := Lib.hid (show (ss.drop (p + n)).length = ss.length - (p + n) by simp)
  clear h h'
  go_enter Tryz.func24, Tryz.ntmps24
  go_wp2_with fail
  go_region_held3 (fun w' => Below (w.heap.size + 1) (w.alloc (.cells #[.int .i64 k, .int .i64 p, .int .i64 n, .slice A ws.length c] 35)) w' ∧ (∀ b o, b < w.heap.size + 1 → w'.cell? ⟨b, o, none⟩ = (w.alloc (.cells #[.int .i64 k, .int .i64 p, .int .i64 n, .slice A ws.length c] 35)).cell? ⟨b, o, none⟩))
    ((first | (refine mkS ?_; assumption) | (refine allocS ?_ ?_; assumption; simp; done) | (refine drewS ?_; assumption) | (refine mkS ?_; go_grown)))
    (first
      | (refine step_append_strs _ (by rfl) _ _ (by rfl) (w.heap.size + 1) (some ⟨w.heap.size + 1, 0, none⟩) T 0 0 p t [] (ss.take p) (by rfl) (by rfl) HP.out.symm ?_ ((H1.out.alloc_ _).alloc_ _) (by simp) (by rw [HP.out]; omega) ?_
         exact own_lit0 _ _ _ (by simp) (by simp)
         intro O1 d1 w1 own1 hb1
         have hB1 := Below.trans (S1 (by assumption)) hb1
         have HO1 := Lib.hid own1
         have HB1 := Lib.hid hB1
         have HZ1 := Lib.hid (show w.heap.size + 1 ≤ w1.heap.size by have := hB1.size; simpa using this)
         clear own1 hb1)
      | (refine step_append_strs _ (by rfl) _ _ (by rfl) (w.heap.size + 1) O1 A d1 (0 + p) ws.length c ([] ++ strs (ss.take p)) ws (by rfl) (by rfl) rfl HO1.out ((H3.out.alloc_ _).below (HB1.out.mono (by simp))) HZ1.out (by omega) ?_
         intro O2 d2 w2 own2 hb2
         have hB2 := Below.trans HB1.out hb2
         have HO2 := Lib.hid own2
         have HB2 := Lib.hid hB2
         have HZ2 := Lib.hid (show w.heap.size + 1 ≤ w2.heap.size by have := hB2.size; simpa using this)
         clear own2 hb2)
      | (refine step_append_strs _ (by rfl) _ _ (by rfl) (w.heap.size + 1) O2 M d2 (0 + p + ws.length) (ss.length - (p + n)) (t - (p + n)) (([] ++ strs (ss.take p)) ++ strs ws) (ss.drop (p + n)) (by rfl) (by rfl) HD.out.symm HO2.out ((H2.out.alloc_ _).below (HB2.out.mono (by simp))) HZ2.out (by rw [HD.out]; omega) ?_
         intro O3 d3 w3 own3 hb3
         have hB3 := Below.trans HB2.out hb3
         have HO3 := Lib.hid own3
         have HB3 := Lib.hid hB3
         have HZ3 := Lib.hid (show w.heap.size + 1 ≤ w3.heap.size by have := hB3.size; simpa using this)
         clear own3 hb3))
  have hlen : (amdL ss ⟨k, p, n, ws⟩).length = p + ws.length + (ss.length - (p + n)) := by
    rw [hL.out, List.length_append, List.length_append, HP.out, HD.out]
  have hstr : strs (amdL ss ⟨k, p, n, ws⟩) = ([] ++ strs (ss.take p)) ++ strs ws ++ strs (ss.drop (p + n)) := by
    rw [hL.out, strs_append, strs_append]; rfl
  have HO : Hid (w3.ownsRow w.heap.size 9 1 (.slice O3 (amdL ss ⟨k, p, n, ws⟩).length d3) (amdL ss ⟨k, p, n, ws⟩).length (strs (amdL ss ⟨k, p, n, ws⟩))) := by
    have h1 := own_mono HO3.out (show w.heap.size ≤ w.heap.size + 1 by omega)
    rw [hlen, hstr]
    show World.ownsRow _ _ _ _ _ _ _
    simpa using h1
  have HLn := Lib.hid hlen
  clear hlen hstr
  go_wp2
  go_ret
  exact ⟨O3, d3, by rw [HLn.out]; rfl, HO.out, ((Below.refl _ _).alloc (Nat.le_refl _) _).trans (HB3.out.mono (by simp))⟩
end Go.Proofs.YtnnphhhjkhoglaaGreatDoor
