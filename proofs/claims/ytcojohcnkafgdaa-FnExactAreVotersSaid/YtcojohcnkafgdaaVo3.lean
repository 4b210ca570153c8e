/- Voters: what valid voters are; the weights. Conditions: the ranges named. -/
import Derived.Test.YtcojohcnkafgdaaVo2
import Derived.Test.YtcojohcnkafgdaaLv4
namespace Go.Proofs.Ytcojohcnkafgdaa
open Go.RowKit
set_option linter.unusedVariables false
set_option linter.unusedSimpArgs false
def okW (ws : List Int) (i : Nat) : Bool := inB (ws.getD i 0) 0 100
def okP (n : Nat) (ps : List Prx) (i : Nat) : Bool := inB (ps.getD i ⟨0, 0⟩).a 0 ((n : Int) - 1) && inB (ps.getD i ⟨0, 0⟩).b 0 ((n : Int) - 1) && (i == 0 || decide ((ps.getD (i - 1) ⟨0, 0⟩).a < (ps.getD i ⟨0, 0⟩).a))
def okS (ps : List Prx) (i : Nat) : Bool := decide ((fwP ps (ps.length + 1) (ps.getD i ⟨0, 0⟩).a).2 ≤ ps.length)
/-- Voters are valid. -/
def avB (ws : List Int) (ps : List Prx) : Bool := allN (okW ws) ws.length && allN (okP ws.length ps) ps.length && decide (ws.length ≤ 12) && allN (okS ps) ps.length
theorem gD {α : Type} {xs : List α} {i : Nat} (h : i < xs.length) (z : α) : xs.getD i z = xs[i] := by rw [List.getD_eq_getElem?_getD, List.getElem?_eq_getElem h]; rfl
theorem okW_eq {ws : List Int} {i : Nat} (h : i < ws.length) : okW ws i = inB ws[i] 0 100 := by unfold okW; rw [gD h]
theorem okP_eq {n : Nat} {ps : List Prx} {i : Nat} (h : i < ps.length) : okP n ps i = (inB ps[i].a 0 ((n : Int) - 1) && inB ps[i].b 0 ((n : Int) - 1) && (i == 0 || decide ((ps[i - 1]'(by omega)).a < ps[i].a))) := by
  unfold okP
  rw [gD h, gD (show i - 1 < ps.length by omega)]
theorem okS_eq {ps : List Prx} {i : Nat} (h : i < ps.length) : okS ps i = decide ((fwP ps (ps.length + 1) ps[i].a).2 ≤ ps.length) := by unfold okS; rw [gD h]
theorem av_w {ws : List Int} {ps : List Prx} {i : Nat} (h : i < ws.length) (hk : okW ws i = false) : avB ws ps = false := by unfold avB; rw [allN_no h hk]; rfl
theorem av_p {ws : List Int} {ps : List Prx} {i : Nat} (h : i < ps.length) (hk : okP ws.length ps i = false) : avB ws ps = false := by unfold avB; rw [allN_no h hk]; simp
theorem av_s {ws : List Int} {ps : List Prx} {i : Nat} (h : i < ps.length) (hk : okS ps i = false) : avB ws ps = false := by unfold avB; rw [allN_no h hk]; simp
theorem av_n {ws : List Int} {ps : List Prx} (h : ¬ ws.length ≤ 12) : avB ws ps = false := by unfold avB; rw [decide_eq_false h]; simp
theorem findI_some {α : Type} {p : α → Bool} : ∀ (xs : List α) (n i : Nat) (hi : i < xs.length), p xs[i] = true → 0 ≤ findI p n xs
  | [], _, _, h, _ => by simp at h
  | x :: xs, n, 0, _, h => by
    have h' : p x = true := h
    simp only [findI, h', if_true]
    omega
  | x :: xs, n, i + 1, hi, h => by
    by_cases hx : p x = true
    · simp only [findI, hx, if_true]; omega
    · simp only [findI, hx]
      exact findI_some xs (n + 1) i (by simpa using hi) h
theorem ps_lt {n : Nat} {ps : List Prx} (h : allN (okP n ps) ps.length = true) : ∀ (i j : Nat) (hj : j < ps.length) (hij : i < j), (ps[i]'(by omega)).a < ps[j].a
  | i, 0, _, hij => by omega
  | i, j + 1, hj, hij => by
    have h1 := allN_yes.1 h (j + 1) hj
    rw [okP_eq hj] at h1
    simp only [Bool.and_eq_true, Bool.or_eq_true, decide_eq_true_eq] at h1
    have h2 : (ps[j]'(by omega)).a < ps[j + 1].a := by
      rcases h1.2 with h3 | h3
      · simp at h3
      · exact h3
    rcases Nat.lt_or_ge i j with h3 | h3
    · exact Int.lt_trans (ps_lt h i j (by omega) h3) h2
    · have : i = j := by omega
      subst this; exact h2
theorem fw_self {ps : List Prx} {v : Int} (h : ¬ ixP ps v < 0) (hn : nxP ps v = v) : ∀ m, fwP ps m v = (v, m)
  | 0 => rfl
  | m + 1 => by rw [fwP_step h, hn, fw_self h hn m]
theorem self_no {n : Nat} {ps : List Prx} (h : allN (okP n ps) ps.length = true) {i : Nat} (hi : i < ps.length) (he : ps[i].a = ps[i].b) : okS ps i = false := by
  have h0 : ¬ ixP ps ps[i].a < 0 := by have := findI_some (p := fun p : Prx => p.a == ps[i].a) ps 0 i hi (by simp); unfold ixP; omega
  obtain ⟨k, hk, h1, h2⟩ := ixP_at h0
  have h3 : ps[k].a = ps[i].a := by
    obtain ⟨j, hj, h4, h5⟩ := findI_at (p := fun p : Prx => p.a == ps[i].a) ps 0 (by unfold ixP at h0; omega)
    have : j = k := by unfold ixP at h1; rw [h4] at h1; omega
    subst this
    simpa using h5
  have hki : k = i := by
    rcases Nat.lt_trichotomy k i with h4 | h4 | h4
    · have := ps_lt h k i hi h4; omega
    · exact h4
    · have := ps_lt h i k hk h4; omega
  subst hki
  rw [okS_eq hi, fw_self h0 (by rw [h2]; exact he.symm)]
  simp
/-- Proxies of which one leads back at once are not valid. -/
theorem av_self {ws : List Int} {ps : List Prx} {i : Nat} (hi : i < ps.length) (he : ps[i].a = ps[i].b) : avB ws ps = false := by
  rcases Bool.eq_false_or_eq_true (allN (okP ws.length ps) ps.length) with h | h
  · exact av_s hi (self_no h hi he)
  · unfold avB; rw [h]; simp
theorem ps_to {n : Nat} {ps : List Prx} (h : allN (okP n ps) ps.length = true) : ∀ p ∈ ps, 0 ≤ p.b := fun p hp => by
  obtain ⟨i, hi, rfl⟩ := List.getElem_of_mem hp
  have h1 := allN_yes.1 h i hi
  rw [okP_eq hi] at h1
  simp only [Bool.and_eq_true] at h1
  exact (inB_iff.1 h1.1.2).1
theorem hasVoter_any (A D : Option Addr) (c d : Nat) (ws : List Int) (ps : List Prx) (v : Int) (w : World) (hm : ws.length ≤ 1048576) :
    Calls Try.prog 92 #[.agg #[.slice A ws.length c, .slice D ps.length d], .int .i64 v] w fun e w' => e = .returned (.bool (inB v 0 ((ws.length : Int) - 1))) ∧ Below w.heap.size w w' := by
  have t1 : IntKind.i64.wrap ((ws.length : Int) - 1) = (ws.length : Int) - 1 := by rw [IntKind.wrap_i64]; omega
  go_enter Try.func92, Try.ntmps92
  go_wp2_with (go_at_call 63; refine (inside_any _ _ _ _).mono ?_; rintro e w1 ⟨rfl, rfl⟩)
  go_ret
  exact ⟨rfl, by go_grown⟩
theorem badW_any (x : Int) (w : World) : Calls Try.prog 91 #[.int .i64 x] w fun e w' => e = .returned (.bool (!inB x 0 100)) ∧ w = w' := by
  go_enter Try.func91, Try.ntmps91
  go_wp2_with (go_at_call 63; refine (inside_any _ _ _ _).mono ?_; rintro e w1 ⟨rfl, rfl⟩)
  go_ret
  exact ⟨rfl, rfl⟩
theorem indexW_any (A : Option Addr) (n c : Nat) (xs : List Int) (w : World) (hn : n = xs.length) (ha : Cells w A (IntK.row xs)) (hm : xs.length ≤ 1048576) :
    Calls Try.prog 117 #[.slice A n c, .func (.func 91) #[] #[]] w fun e w' => e = .returned (.int .i64 (findI (fun x => !inB x 0 100) 0 xs)) ∧ w = w' := by
  subst hn
  go_enter Try.func117, Try.ntmps117
  go_wp2
  go_loop [8] (fun i => ∃ k : Nat, k ≤ xs.length ∧ i = .int .i64 k ∧ Hid (findI (fun x => !inB x 0 100) 0 xs = findI (fun x => !inB x 0 100) k (xs.drop k))) (fun i => xs.length - (intOf i).toNat)
  case atStart => exact ⟨0, Nat.zero_le _, rfl, rfl⟩
  case round =>
    obtain ⟨k, hk, rfl, hq⟩ := hrel
    by_cases hlt : k < xs.length
    · obtain ⟨a, rfl, hc0⟩ := int_at ha hlt
      have i1 : (k : Int) < (xs.length : Int) := by omega
      have HH := Lib.hid (fun (h : (fun x : Int => !inB x 0 100) xs[k] = true) => findI_hit (k := k) (i := k) (p := fun x => !inB x 0 100) hlt h)
      have HMi := Lib.hid (fun (h : (fun x : Int => !inB x 0 100) xs[k] = false) => findI_miss (k := k) (i := k) (p := fun x => !inB x 0 100) hlt h)
      obtain ⟨x, hx⟩ : ∃ x, Hid (xs[k] = x) := ⟨_, Lib.hid rfl⟩
      rw [hx.out] at hc0 HH HMi
      rcases Bool.eq_false_or_eq_true (inB x 0 100) with hm2 | hm2
      · have HA := Lib.hid (hq.out.trans (HMi.out (show (!inB x 0 100) = false by rw [hm2]; rfl)))
        clear hq HH HMi
        go_wp2_with (go_at_call 91; refine (badW_any x _).mono ?_; rintro e w1 ⟨rfl, rfl⟩; rw [hm2])
        go_round
        case rel => exact ⟨k + 1, hlt, by go_num, HA⟩
        case measure => simp [intOf]; omega
      · have HA := Lib.hid (hq.out.trans (HH.out (show (!inB x 0 100) = true by rw [hm2]; rfl)))
        clear hq HH HMi
        go_wp2_with (go_at_call 91; refine (badW_any x _).mono ?_; rintro e w1 ⟨rfl, rfl⟩; rw [hm2])
        go_ret
        exact ⟨ret_int HA.out.symm, rfl⟩
    · obtain rfl : k = xs.length := by omega
      have HA := Lib.hid (hq.out.trans findI_end)
      go_wp2
      go_ret
      exact ⟨ret_int HA.out.symm, rfl⟩
theorem allW {ws : List Int} : decide (0 ≤ findI (fun x => !inB x 0 100) 0 ws) = !(allN (okW ws) ws.length) := by
  rcases Bool.eq_false_or_eq_true (allN (okW ws) ws.length) with h | h
  · rw [h]
    refine decide_eq_false fun h0 => ?_
    obtain ⟨j, hj, _, h2⟩ := findI_at (p := fun x => !inB x 0 100) ws 0 h0
    have h3 := allN_yes.1 h j hj
    rw [okW_eq hj] at h3
    rw [h3] at h2
    cases h2
  · rw [h]
    refine decide_eq_true ?_
    obtain ⟨j, hj, h2⟩ : ∃ j, ∃ hj : j < ws.length, okW ws j = false := by
      refine Classical.byContradiction fun hne => ?_
      have : allN (okW ws) ws.length = true := allN_yes.2 fun j hj => by
        rcases Bool.eq_false_or_eq_true (okW ws j) with h3 | h3
        · exact h3
        · exact absurd ⟨j, hj, h3⟩ hne
      rw [this] at h
      cases h
    rw [okW_eq hj] at h2
    exact findI_some (p := fun x => !inB x 0 100) ws 0 j hj (by rw [h2]; rfl)
theorem containsW_any (A : Option Addr) (c : Nat) (ws : List Int) (w : World) (ha : Cells w A (IntK.row ws)) (hm : ws.length ≤ 1048576) :
    Calls Try.prog 90 #[.slice A ws.length c, .func (.func 91) #[] #[]] w fun e w' => e = .returned (.bool (!(allN (okW ws) ws.length))) ∧ w = w' := by
  have HR := Lib.hid (allW (ws := ws))
  go_enter Try.func90, Try.ntmps90
  go_wp2_with (go_at_call 117; refine (indexW_any _ _ _ ws _ rfl ha hm).mono ?_; rintro e w1 ⟨rfl, rfl⟩)
  go_ret
  exact ⟨ret_bool HR.out, rfl⟩
end Go.Proofs.Ytcojohcnkafgdaa
