/- The plain laws of sections cut out, added, shifted; the laws' own comparison. Conditions: the ranges named. -/
import Derived.Test.YtifahgdalgjgfaaSe9
namespace Go.Proofs.Ytifahgdalgjgfaa
open Go.RowKit
set_option linter.unusedVariables false
set_option linter.unusedSimpArgs false
theorem rBig_any (A : Option Addr) (n c : Nat) (w : World) : Calls Try.prog 50 #[.slice A n c] w fun e w' => e = .returned (.bool (decide (65536 < n))) ∧ Below w.heap.size w w' := by
  go_enter Try.func50, Try.ntmps50
  go_wp2
  go_ret
  exact ⟨ret_bool (by simp; try omega), Below.refl _ _⟩
set_option maxHeartbeats 1000000 in
theorem rSections_same {B B' : Nat} {A A' : Option Addr} {c c' : Nat} {xs : List Sec} {w : World} (h : Rd SectionK B w A c xs) (h' : Rd SectionK B' w A' c' xs) :
    Calls Try.prog 54 #[.slice A xs.length c, .slice A' xs.length c'] w fun e w' => e = .returned (.bool true) ∧ Below w.heap.size w w' := by
  have ha := h.cells
  have hb := h'.cells
  have hn := h.2.2.1
  have hne : ((xs.length : Int) != (xs.length : Int)) = false := by simp
  clear h h'
  go_enter Try.func54, Try.ntmps54
  go_wp2
  go_loopw [5] (fun i wr => ∃ k : Nat, k ≤ xs.length ∧ i = .int .i64 k ∧ ∃ m, wr = w.drewN m) (fun i _ => xs.length - (intOf i).toNat)
  case atStart => exact ⟨0, Nat.zero_le _, rfl, 0, rfl⟩
  case round =>
    obtain ⟨k, hk, rfl, m, rfl⟩ := hrel
    by_cases hlt : k < xs.length
    · obtain ⟨a, rfl, hc0, hc1⟩ := section_at ha hlt
      obtain ⟨b, rfl, hd0, hd1⟩ := section_at hb hlt
      have i1 : (k : Int) < (xs.length : Int) := by omega
      obtain ⟨x, hx⟩ : ∃ x, xs[k] = x := ⟨_, rfl⟩
      rw [hx] at hc0 hc1 hd0 hd1
      clear hx
      go_wp2
      go_quiet (fail)
      go_wp2
      go_roundw
      case rel => exact ⟨k + 1, hlt, by go_num, by first | exact ⟨_, rfl⟩ | exact ⟨_, World.drewN_drewN _ _ _⟩⟩
      case measure => simp [intOf]; omega
    · obtain rfl : k = xs.length := by omega
      go_wp2
      go_ret
      exact ⟨rfl, below_drewN (Below.refl _ _) m⟩
/-! ### The plain law -/
theorem cntD_deep {dv : Int} : ∀ {l : List Sec} {k : Nat} (h : k < l.length), k < cntD dv l → dv < l[k].d
  | [], _, h, _ => absurd h (by simp)
  | x :: t, k, h, hk => by
    rw [cntD] at hk
    split at hk
    · cases k with
      | zero => assumption
      | succ k => exact cntD_deep (l := t) (by simpa using h) (by omega)
    · omega
theorem cntD_stop {dv : Int} : ∀ {l : List Sec} (h : cntD dv l < l.length), ¬ dv < (l[cntD dv l]'h).d
  | [], h => absurd h (by simp)
  | x :: t, h => by
    by_cases c : dv < x.d
    · have e : cntD dv (x :: t) = cntD dv t + 1 := by rw [cntD, if_pos c]
      have h2 : cntD dv t < t.length := by rw [e] at h; simpa using h
      have := cntD_stop (l := t) h2
      simp only [e, List.getElem_cons_succ]
      exact this
    · have e : cntD dv (x :: t) = 0 := by rw [cntD, if_neg c]
      simp only [e, List.getElem_cons_zero]
      exact c
theorem cntD_ge {dv : Int} : ∀ {l : List Sec} {p : Nat}, p ≤ l.length → (∀ k (h : k < l.length), k < p → dv < l[k].d) → p ≤ cntD dv l
  | _, 0, _, _ => Nat.zero_le _
  | [], p + 1, h, _ => absurd h (by simp)
  | x :: t, p + 1, h, hd => by
    have h0 : dv < x.d := hd 0 (by simp) (by omega)
    rw [cntD, if_pos h0]
    have := cntD_ge (dv := dv) (l := t) (p := p) (by simpa using h) (fun k hk hp => by
      have := hd (k + 1) (by simpa using hk) (by omega)
      simpa using this)
    omega
theorem dAt_of {xs : List Sec} {k : Nat} (h : k < xs.length) : dAt xs k = xs[k].d := (dAt_at h).symm
theorem part_deep {xs : List Sec} {n k : Nat} (hk : k < xs.length) (h1 : n < k) (h2 : k ≤ n + partN xs n) : dAt xs n < dAt xs k := by
  have h3 := cntD_deep (dv := dAt xs n) (l := xs.drop (n + 1)) (k := k - (n + 1)) (by rw [List.length_drop]; omega) (by unfold partN at h2; omega)
  rw [List.getElem_drop] at h3
  rw [dAt_of hk]
  have e : n + 1 + (k - (n + 1)) = k := by omega
  simp only [e] at h3
  exact h3
theorem part_stop {xs : List Sec} {n : Nat} (hk : n + 1 + partN xs n < xs.length) : dAt xs (n + 1 + partN xs n) ≤ dAt xs n := by
  have h3 := cntD_stop (dv := dAt xs n) (l := xs.drop (n + 1)) (by rw [List.length_drop]; unfold partN at hk; omega)
  rw [List.getElem_drop] at h3
  rw [dAt_of hk]
  have h4 : (xs[n + 1 + partN xs n]'hk).d ≤ dAt xs n := by unfold partN at hk ⊢; omega
  exact h4
theorem dAt_eq {xs ys : List Sec} {i j : Nat} (hi : i < xs.length) (hj : j < ys.length) (h : xs[i] = ys[j]) : dAt xs i = dAt ys j ∧ tAt xs i = tAt ys j := by
  rw [← dAt_at hi, ← dAt_at hj, ← tAt_at hi, ← tAt_at hj, h]
  exact ⟨rfl, rfl⟩
theorem doc_ok {xs : List Sec} (h : docB xs = true) {k : Nat} (hk : k < xs.length) : okSec xs k = true := by
  unfold docB at h
  simp only [Bool.and_eq_true] at h
  exact allN_yes.1 h.1 k hk
theorem doc_of {xs : List Sec} (h1 : xs.length ≤ 12) (h2 : ∀ k, k < xs.length → okSec xs k = true) : docB xs = true := by
  unfold docB
  simp only [Bool.and_eq_true, decide_eq_true_eq]
  exact ⟨allN_yes.2 h2, h1⟩
theorem cut_law {xs : List Sec} {i : Int} (h : askB xs i = true) : ((cutL xs i).length : Int) = (xs.length : Int) - poI xs i - 1 ∧ docB (cutL xs i) = true := by
  obtain ⟨hd, h12, n, rfl, hl⟩ := ask_at h
  have hpl := part_le hl
  have hst := part_stop (xs := xs) (n := n)
  have e1 : cutL xs (n : Int) = xs.take n ++ xs.drop (n + 1 + partN xs n) := by unfold cutL; rw [if_pos h]; rfl
  have e2 : poI xs (n : Int) = (partN xs n : Int) := by unfold poI; rw [if_pos h]; rfl
  rw [e1, e2]
  obtain ⟨j, hj⟩ : ∃ j, n + 1 + partN xs n = j := ⟨_, rfl⟩
  have hjp : (partN xs n : Int) = (j : Int) - n - 1 := by omega
  rw [hj] at hst ⊢
  rw [hjp]
  have hjl : j ≤ xs.length := by omega
  have hnj : n < j := by omega
  have hlen : (xs.take n ++ xs.drop j).length = n + (xs.length - j) := by rw [List.length_append, List.length_take, List.length_drop, Nat.min_eq_left (by omega)]
  refine ⟨by rw [hlen]; omega, doc_of (by rw [hlen]; omega) fun k hk => ?_⟩
  obtain ⟨ys, hys⟩ : ∃ ys, ys = xs.take n ++ xs.drop j := ⟨_, rfl⟩
  rw [← hys] at hk hlen ⊢
  have lo : ∀ k, k < n → dAt ys k = dAt xs k ∧ tAt ys k = tAt xs k := fun k hk => dAt_eq (by omega) (by omega) (by
    subst hys
    rw [List.getElem_append_left (by rw [List.length_take]; omega), List.getElem_take])
  have hi : ∀ k, n ≤ k → k < ys.length → dAt ys k = dAt xs (k - n + j) ∧ tAt ys k = tAt xs (k - n + j) := fun k h1 h2 => dAt_eq h2 (by omega) (by
    subst hys
    rw [List.getElem_append_right (by rw [List.length_take]; omega), List.getElem_drop]
    congr 1
    rw [List.length_take, Nat.min_eq_left (by omega)]
    omega)
  rcases Nat.lt_or_ge k n with c | c
  · have h1 := doc_ok hd (show k < xs.length by omega)
    unfold okSec mdAt at h1 ⊢
    rw [(lo k c).1, (lo k c).2]
    have : pdAt ys k = pdAt xs k := by
      cases k with
      | zero => rfl
      | succ k => exact (lo k (by omega)).1
    rw [this]
    exact h1
  · have hkx : k - n + j < xs.length := by omega
    have h1 := doc_ok hd hkx
    obtain ⟨e3, e4⟩ := hi k c hk
    rcases Nat.eq_or_lt_of_le c with c2 | c2
    · subst c2
      rw [Nat.sub_self, Nat.zero_add] at e3 e4 hkx h1
      have h2 := doc_ok hd hl
      have h3 := hst hkx
      have hpd : pdAt ys n = pdAt xs n := by
        cases n with
        | zero => rfl
        | succ n => exact (lo n (by omega)).1
      unfold okSec mdAt at h1 h2 ⊢
      rw [Bool.and_eq_true] at h1 h2 ⊢
      rw [e3, e4, hpd]
      obtain ⟨g1, g2⟩ := inB_iff.1 h1.1
      obtain ⟨g3, g4⟩ := inB_iff.1 h2.1
      exact ⟨inB_iff.2 ⟨g1, by omega⟩, h1.2⟩
    · have hpd : pdAt ys k = pdAt xs (k - n + j) := by
        cases k with
        | zero => omega
        | succ k =>
          have h5 := (hi k (by omega) (by omega)).1
          rw [show k + 1 - n + j = (k - n + j) + 1 by omega]
          exact h5
      unfold okSec mdAt at h1 ⊢
      rw [e3, e4, hpd]
      exact h1
theorem add_law {xs : List Sec} {i : Int} {x : Sec} (h : asB xs i x = true) : docB (asL xs i x) = true ∧ ∃ n : Nat, i = n ∧ ∃ hn : n < (asL xs i x).length, (asL xs i x)[n] = x := by
  unfold asB at h
  rw [Bool.and_eq_true] at h
  obtain ⟨h1, h2⟩ := h
  have h3 := h1
  rw [Bool.and_eq_true] at h3
  obtain ⟨_, n, rfl, hn, e1, e2⟩ := as_yes (x := x) h3.1 h3.2
  rw [Int.toNat_natCast] at h2
  have e3 : asL xs (n : Int) x = insS xs n x := by rw [e1]; unfold ckL; rw [if_pos h2]
  rw [e3]
  refine ⟨h2, n, rfl, by rw [insS_len hn]; omega, ?_⟩
  unfold insS
  rw [List.getElem_append_right (by rw [List.length_take]; omega)]
  simp [Nat.min_eq_left hn]
theorem shS_dAt {q : Int} {lo k j : Nat} {xs : List Sec} (h : j < xs.length) : dAt (shS q lo k xs) j = if lo ≤ j ∧ j < k then dAt xs j + q else dAt xs j := by
  rw [← dAt_at (show j < (shS q lo k xs).length by rw [shS_len]; exact h), shS_at, ← dAt_at h]
  split <;> rfl
theorem shift_law {xs : List Sec} {i q : Int} (h : shB xs i q = true) : ∃ n : Nat, i = n ∧ n < xs.length ∧ askB xs i = true ∧ askB (shL xs i q) i = true ∧ poI xs i ≤ poI (shL xs i q) i ∧ (shL xs i q).length = xs.length ∧ dAt (shL xs i q) n = dAt xs n + q ∧ (1 ≤ dAt xs n ∧ dAt xs n ≤ 4 ∧ -4 ≤ q ∧ q ≤ 4) ∧ (poI (shL xs i q) i = poI xs i → shB (shL xs i q) i (-q) = true ∧ shL (shL xs i q) i (-q) = xs) := by
  unfold shB at h
  rw [Bool.and_eq_true] at h
  obtain ⟨h1, h2⟩ := h
  have h3 := h1
  rw [Bool.and_eq_true] at h3
  obtain ⟨hd, h12, n, rfl, hl⟩ := ask_at h3.1
  rw [Int.toNat_natCast] at h2
  obtain ⟨e1, e2⟩ := sh_yes h3.1 h3.2
  have e3 : shL xs (n : Int) q = shS q n (n + partN xs n + 1) xs := by rw [e1]; unfold ckL; rw [if_pos h2]
  rw [e3]
  have hpl := part_le hl
  obtain ⟨zs, hz⟩ : ∃ zs, shS q n (n + partN xs n + 1) xs = zs := ⟨_, rfl⟩
  have hzl : zs.length = xs.length := by rw [← hz, shS_len]
  have hzd : ∀ j, j < xs.length → dAt zs j = if n ≤ j ∧ j < n + partN xs n + 1 then dAt xs j + q else dAt xs j := fun j hj => by rw [← hz]; exact shS_dAt hj
  rw [hz] at h2 ⊢
  have hdn : dAt zs n = dAt xs n + q := by rw [hzd n hl, if_pos (by omega)]
  have haz : askB zs (n : Int) = true := by
    unfold askB
    rw [h2, Bool.true_and]
    exact inB_iff.2 ⟨by omega, by omega⟩
  have e4 : poI xs (n : Int) = (partN xs n : Int) := by unfold poI; rw [if_pos h3.1]; rfl
  have e5 : poI zs (n : Int) = (partN zs n : Int) := by unfold poI; rw [if_pos haz]; rfl
  have hge : partN xs n ≤ partN zs n := by
    refine cntD_ge (by rw [List.length_drop]; omega) fun k hk hp => ?_
    rw [List.getElem_drop, ← dAt_of, hdn, hzd _ (by rw [List.length_drop] at hk; omega), if_pos (by omega)]
    have := part_deep (xs := xs) (n := n) (k := n + 1 + k) (by omega) (by omega) (by omega)
    omega
  obtain ⟨r1, r2⟩ := doc_range hd hl
  obtain ⟨r3, r4⟩ := inB_iff.1 h3.2
  refine ⟨n, rfl, hl, h3.1, haz, by rw [e4, e5]; omega, hzl, hdn, ⟨r1, r2, r3, r4⟩, fun hp => ?_⟩
  rw [e4, e5] at hp
  have hpn : partN zs n = partN xs n := by omega
  have hq : inB (-q) (-4) 4 = true := inB_iff.2 ⟨by omega, by omega⟩
  obtain ⟨e6, e7⟩ := sh_yes (q := -q) haz hq
  have e8 : shS (-q) n (n + partN zs n + 1) zs = xs := by
    apply List.ext_getElem (by rw [shS_len, hzl])
    intro j h4 h5
    rw [shS_at]
    subst hz
    by_cases c : n ≤ j ∧ j < n + partN xs n + 1
    · rw [if_pos (by omega), shS_at, if_pos c]
      show Sec.mk (xs[j].d + q + -q) xs[j].t = xs[j]
      rw [show xs[j].d + q + -q = xs[j].d by omega]
    · rw [if_neg (by omega), shS_at, if_neg c]
  rw [e8] at e6 e7
  exact ⟨by rw [e7]; exact hd, by rw [e6]; unfold ckL; rw [if_pos hd]⟩
end Go.Proofs.Ytifahgdalgjgfaa
