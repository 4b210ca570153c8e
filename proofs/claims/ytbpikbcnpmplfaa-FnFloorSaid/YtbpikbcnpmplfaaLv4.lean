/- l8Without; what LeaveWaiting returns. Conditions: the ranges named. -/
import Derived.Test.YtbpikbcnpmplfaaLv3
import Derived.Test.YtbpikbcnpmplfaaFlG
import Derived.Test.YtbpikbcnpmplfaaFlQ
namespace Go.Proofs.Ytbpikbcnpmplfaa
open Go.RowKit
set_option linter.unusedVariables false
set_option linter.unusedSimpArgs false
attribute [local go_sem ↓] Go.wp_at_zero Go.wp_at_succ
theorem take_yes {P : Program} {md : Region.Mode} {ops : Array Oper} {Q : Exit → Act → World → Prop} {S : World → Prop} {i d : Nat} {oi : Oper} {v : Value} {fuel : Nat} {listed : Array Bool} {a : Act} {w : World} (hi : ops[i]? = some oi) (hd : oi.dst = some d)
    (hs : Region.noSelect ops = true) (hf : Region.free md ops listed i = true) (hr : (Region.ready md ops listed).contains i = true) (hQ : ∀ c a w, Q (.panic c) (a.put (some d) v) w → Q (.panic c) a w) (hw : Region.wanted oi (yielded ops a.tmps) = true)
    (hy : ∀ w, S w → (execOp a.eval oi).run P w = .ok (.value v) w) (hS : S w) (h : wpAnyH P md ops Q S fuel (listed.setIfInBounds i true) (a.put (some d) v) w) : wpAnyH P md ops Q S (fuel + 1) listed a w :=
  wpAnyH_take hi hs hf hr (by rw [hd]; exact hQ) (Or.inl ⟨hw, hy⟩) hS (by rw [hd]; exact h)
theorem take_no {P : Program} {md : Region.Mode} {ops : Array Oper} {Q : Exit → Act → World → Prop} {S : World → Prop} {i d : Nat} {oi : Oper} {fuel : Nat} {listed : Array Bool} {a : Act} {w : World} (hi : ops[i]? = some oi) (hd : oi.dst = some d)
    (hs : Region.noSelect ops = true) (hf : Region.free md ops listed i = true) (hr : (Region.ready md ops listed).contains i = true) (hQ : ∀ c a w, Q (.panic c) (a.put (some d) undef) w → Q (.panic c) a w) (hw : Region.wanted oi (yielded ops a.tmps) = false)
    (hS : S w) (h : wpAnyH P md ops Q S fuel (listed.setIfInBounds i true) (a.put (some d) undef) w) : wpAnyH P md ops Q S (fuel + 1) listed a w :=
  wpAnyH_take hi hs hf hr (by rw [hd]; exact hQ) (Or.inr ⟨hw, rfl⟩) hS (by rw [hd]; exact h)
theorem int_take {w : World} {A : Option Addr} {xs : List Int} {n : Nat} (h : Cells w A (IntK.row xs)) : Cells w A (IntK.row (xs.take n)) := fun i u hu => by
  rw [IntK.row_take, List.getElem?_take] at hu
  split at hu
  · exact h i u hu
  · cases hu
theorem int_drop {w : World} {Q O : Option Addr} {xs : List Int} {k : Nat} (h : Cells w O (IntK.row xs)) (hQ : k < xs.length → Q = O.map (·.add k)) : Cells w Q (IntK.row (xs.drop k)) := fun i u hu => by
  rw [intK_row, List.getElem?_map, List.getElem?_drop] at hu
  have hi : k + i < xs.length := by
    rcases Nat.lt_or_ge (k + i) xs.length with h1 | h1
    · exact h1
    · rw [List.getElem?_eq_none h1] at hu; simp at hu
  obtain ⟨ad, hO, hc⟩ := h (k + i) u (by rw [intK_row, List.getElem?_map]; exact hu)
  subst hO
  exact ⟨ad.add k, hQ (by omega), by rw [add_add']; exact hc⟩
set_option maxHeartbeats 1000000 in
set_option maxRecDepth 100000 in
theorem l8Without_any (A : Option Addr) (c k : Nat) (xs : List Int) (w : World) (h : Cells w A (IntK.row xs)) (hm : xs.length ≤ 1000000) (hcc : xs.length ≤ c) (hk : k < xs.length) :
    Calls Try.prog 75 #[.slice A xs.length c, .int .i64 k] w (ToL IntK 3 w (cutAt k xs)) := by
  have H := Lib.hid h
  clear h
  have t1 : (k : Int) ≤ (c : Int) := by omega
  have t2 : (k : Int) ≤ (xs.length : Int) := by omega
  have t3 : k ≤ c := by omega
  have t4 : IntKind.i64.wrap ((k : Int) + 1) = (k : Int) + 1 := by rw [IntKind.wrap_i64]; omega
  have t5 : ((k : Int) + 1).toNat = k + 1 := by omega
  have t6 : (k : Int) + 1 ≤ (xs.length : Int) := by omega
  have t7 : (k : Int) + 1 ≤ (c : Int) := by omega
  have t8 : (0 : Int) ≤ (k : Int) + 1 := by omega
  have t9 : (xs.length : Int) ≤ (c : Int) := by omega
  have s1 : k + 1 ≤ xs.length := by omega
  have s2 : k + 1 ≤ c := by omega
  obtain ⟨Q, e2⟩ : ∃ Q, (if c = k + 1 then A else A.map (·.add (k + 1))) = Q := ⟨_, rfl⟩
  go_enter Try.func75, Try.ntmps75
  go_wp2
  refine wp_region_noPanic ?_
  refine wp_region_held_drew (S := (fun w' => Below w.heap.size w w')) (by kernel_rfl) ?_ (fun hHeld => ?_)
  · ((try dsimp only); exact (Below.refl _ _).drew)
  generalize w.drew = ud at *
  refine take_yes (i := 1) (d := 6) (v := ?_) rfl rfl (by kernel_rfl) (by kernel_rfl) (by kernel_rfl) (fun _ _ _ h => h) (by kernel_rfl) ?_ hHeld ?_
  rotate_left
  · (intro w hSw; (try dsimp only at hSw); go_simp; try (with_reducible rfl))
  try simp only [Act.put, List.setIfInBounds_toArray, List.set_cons_zero, List.set_cons_succ]
  refine take_yes (i := 2) (d := 7) (v := ?_) rfl rfl (by kernel_rfl) (by kernel_rfl) (by kernel_rfl) (fun _ _ _ h => h) (by kernel_rfl) ?_ hHeld ?_
  rotate_left
  · (intro w hSw; (try dsimp only at hSw); go_simp; try (with_reducible rfl))
  try simp only [Act.put, List.setIfInBounds_toArray, List.set_cons_zero, List.set_cons_succ]
  refine take_yes (i := 3) (d := 8) (v := ?_) rfl rfl (by kernel_rfl) (by kernel_rfl) (by kernel_rfl) (fun _ _ _ h => h) (by kernel_rfl) ?_ hHeld ?_
  rotate_left
  · (intro w hSw; (try dsimp only at hSw); go_simp; try (with_reducible rfl))
  try simp only [Act.put, List.setIfInBounds_toArray, List.set_cons_zero, List.set_cons_succ]
  refine take_yes (i := 5) (d := 10) (v := ?_) rfl rfl (by kernel_rfl) (by kernel_rfl) (by kernel_rfl) (fun _ _ _ h => h) (by kernel_rfl) ?_ hHeld ?_
  rotate_left
  · (intro w hSw; (try dsimp only at hSw); go_simp; try (with_reducible rfl))
  try simp only [Act.put, List.setIfInBounds_toArray, List.set_cons_zero, List.set_cons_succ]
  refine take_yes (i := 6) (d := 11) (v := ?_) rfl rfl (by kernel_rfl) (by kernel_rfl) (by kernel_rfl) (fun _ _ _ h => h) (by kernel_rfl) ?_ hHeld ?_
  rotate_left
  · (intro w hSw; (try dsimp only at hSw); go_simp; try (with_reducible rfl))
  try simp only [Act.put, List.setIfInBounds_toArray, List.set_cons_zero, List.set_cons_succ]
  refine take_yes (i := 7) (d := 12) (v := ?_) rfl rfl (by kernel_rfl) (by kernel_rfl) (by kernel_rfl) (fun _ _ _ h => h) (by kernel_rfl) ?_ hHeld ?_
  rotate_left
  · (intro w hSw; (try dsimp only at hSw); go_simp; try (with_reducible rfl))
  try simp only [Act.put, List.setIfInBounds_toArray, List.set_cons_zero, List.set_cons_succ]
  refine take_yes (i := 8) (d := 13) (v := ?_) rfl rfl (by kernel_rfl) (by kernel_rfl) (by kernel_rfl) (fun _ _ _ h => h) (by kernel_rfl) ?_ hHeld ?_
  rotate_left
  · (intro w hSw; (try dsimp only at hSw); go_simp; try (with_reducible rfl))
  try simp only [Act.put, List.setIfInBounds_toArray, List.set_cons_zero, List.set_cons_succ]
  refine wpAnyH_ready (rs := [0]) (by kernel_rfl) (by simp) ?_
  refine AllReadyH.cons rfl (fun K hK => ?_) AllReadyH.nil
  have hsz := hHeld.size
  try go_simp
  (first | refine hK.out _ _ ?_ (fun hHeld1 => ?_) | (go_wp2_with fail; refine hK.out _ _ ?_ (fun hHeld1 => ?_)))
  · ((try dsimp only); exact hHeld.trans ((below1 ud (.cells #[] 3)).mono hHeld.size))
  clear hK K hHeld
  have hHeld := hHeld1
  clear hHeld1
  try simp only [Act.put, List.setIfInBounds_toArray, List.set_cons_zero, List.set_cons_succ]
  have HZ := Lib.hid (own_nil_lit ud w.heap.size ud.heap.size 3 1 rfl hsz)
  clear hsz
  generalize ud.alloc (.cells #[] 3) = v1 at *
  refine wpAnyH_ready (rs := [4]) (by kernel_rfl) (by simp) ?_
  refine AllReadyH.cons rfl (fun K hK => ?_) AllReadyH.nil
  have hsz := hHeld.size
  refine step_append_lit elInt _ (by rfl) _ _ (by rfl) w.heap.size ud.heap.size A k c (IntK.row (xs.take k)) (by rfl) (by rfl) (by rw [IntK.row_len, List.length_take]; show _ * 1 = _; omega) HZ.out (int_take (H.out.below hHeld)) int_one hsz (by omega) ?_
  intro O1 d1 v2 own1 hb hq1
  have HO1 := Lib.hid own1
  have HBk := Lib.hid (hHeld.trans (hb.mono hHeld.size))
  clear own1 hq1 hb hsz
  (first | refine hK.out _ _ ?_ (fun hHeld1 => ?_) | (go_wp2_with fail; refine hK.out _ _ ?_ (fun hHeld1 => ?_)))
  · ((try dsimp only); exact HBk.out)
  clear hK K hHeld
  have hHeld := hHeld1
  clear hHeld1
  try simp only [Act.put, List.setIfInBounds_toArray, List.set_cons_zero, List.set_cons_succ]
  clear HBk
  refine wpAnyH_ready (rs := [9]) (by kernel_rfl) (by simp) ?_
  refine AllReadyH.cons rfl (fun K hK => ?_) AllReadyH.nil
  have hsz := hHeld.size
  refine step_append elInt _ (by rfl) _ _ (by rfl) w.heap.size O1 Q d1 k (xs.length - (k + 1)) (c - (k + 1)) (IntK.row (xs.take k)) (IntK.row (xs.drop (k + 1))) (by rfl) (by first | rfl | (show Value.slice _ _ _ = _; congr 1)) (by rw [IntK.row_len, List.length_drop]; rfl) HO1.out (int_drop (H.out.below hHeld) (fun h0 => by rw [← e2]; rw [if_neg (by omega)])) int_one hsz (by omega) ?_
  intro O3 d3 v3 own1 hb
  have HO3 := Lib.hid own1
  have HBk := Lib.hid (hHeld.trans hb)
  clear own1 hb hsz
  (first | refine hK.out _ _ ?_ (fun hHeld1 => ?_) | (go_wp2_with fail; refine hK.out _ _ ?_ (fun hHeld1 => ?_)))
  · ((try dsimp only); exact HBk.out)
  clear hK K hHeld
  have hHeld := hHeld1
  clear hHeld1
  try simp only [Act.put, List.setIfInBounds_toArray, List.set_cons_zero, List.set_cons_succ]
  clear HBk
  refine take_yes (i := 10) (d := 4) (v := ?_) rfl rfl (by kernel_rfl) (by kernel_rfl) (by kernel_rfl) (fun _ _ _ h => h) (by kernel_rfl) ?_ hHeld ?_
  rotate_left
  · (intro w hSw; (try dsimp only at hSw); go_simp; try (with_reducible rfl))
  try simp only [Act.put, List.setIfInBounds_toArray, List.set_cons_zero, List.set_cons_succ]
  refine wpAnyH_done (by kernel_rfl) ?_ _
  refine NoPanic.normal ?_
  have HF := Lib.hid hHeld
  clear hHeld
  go_wp2
  all_goals
    go_ret
    have hl := cutAt_len hk
    have h9 := HO3.out
    rw [← IntK.row_append] at h9
    have hn : k + (xs.length - (k + 1)) = (cutAt k xs).length := by omega
    rw [hn] at h9
    refine ⟨O3, d3, by rw [← hn]; first | rfl | (simp; done) | (simp [Array.getD]; done), ?_, HF.out⟩
    exact Ow.mk (K := IntK) h9 (by omega) (fun _ _ => trivial)
theorem findI_at {α : Type} {p : α → Bool} : ∀ (xs : List α) (i : Nat), 0 ≤ findI p i xs → ∃ j, ∃ h : j < xs.length, findI p i xs = ((i + j : Nat) : Int) ∧ p xs[j] = true
  | [], i, h => by simp [findI] at h
  | x :: xs, i, h => by
    by_cases hp : p x = true
    · exact ⟨0, by simp, by simp [findI, hp], hp⟩
    · have e : findI p i (x :: xs) = findI p (i + 1) xs := by simp [findI, hp]
      rw [e] at h ⊢
      obtain ⟨j, hj, h1, h2⟩ := findI_at xs (i + 1) h
      exact ⟨j + 1, by simp; omega, by rw [h1]; congr 1; omega, h2⟩
def lvB (f : Flr) (m : Int) : Bool := vldF f && hasB m f.wt
def lvF (f : Flr) (m : Int) : Flr := if lvB f m then ⟨f.t, f.s, f.sp, cutAt (findI (fun x => x == m) 0 f.wt).toNat f.wt, f.sh⟩ else zeroF
theorem lvF_no {f : Flr} {m : Int} (h : lvB f m = false) : lvF f m = zeroF := by unfold lvF; rw [h]; rfl
theorem lv_yes {f : Flr} {m : Int} (h : lvB f m = true) : ∃ k, ∃ hk : k < f.wt.length, findI (fun x => x == m) 0 f.wt = (k : Int) ∧ f.wt[k] = m ∧ (∀ i (hi : i < f.wt.length), k < i → f.wt[i] ≠ m) ∧ f.wt.length ≤ 10 ∧ lvF f m = ⟨f.t, f.s, f.sp, cutAt k f.wt, f.sh⟩ := by
  have hh := h
  unfold lvB at h
  rw [Bool.and_eq_true] at h
  obtain ⟨hv, hm⟩ := h
  obtain ⟨_, _, _, h10, _, hw, _⟩ := vldF_parts hv
  have h0 : 0 ≤ findI (fun x => x == m) 0 f.wt := by
    have h1 := findI_mem m f.wt
    rw [hm, decide_eq_true_eq] at h1
    have e : (fun x : Int => x == m) = (fun y => m == y) := by funext y; rw [Bool.eq_iff_iff]; simp only [beq_iff_eq]; exact eq_comm
    rw [e]
    exact h1
  obtain ⟨k, hk, h1, h2⟩ := findI_at f.wt 0 h0
  rw [Nat.zero_add] at h1
  have h2 : f.wt[k] = m := by simpa using h2
  refine ⟨k, hk, h1, h2, fun i hi hki he => ?_, h10, by unfold lvF; rw [hh, h1]; rfl⟩
  have h3 := allN_yes.1 hw i hi
  rw [okWt_eq hi] at h3
  simp only [Bool.and_eq_true, Bool.not_eq_true'] at h3
  have h4 := h3.1.2
  unfold hasB at h4
  have h5 : f.wt[i] ∈ f.wt.take i := by rw [List.mem_take_iff_getElem]; exact ⟨k, by omega, h2.trans he.symm⟩
  rw [List.contains_iff_mem.2 h5] at h4
  cases h4
end Go.Proofs.Ytbpikbcnpmplfaa
