/- Voters: who follows whom, in the program and in the reference. Conditions: the ranges named. -/
import Derived.Test.YtcojohcnkafgdaaProxy
import Derived.Test.YtcojohcnkafgdaaNum
import Derived.Test.YtcojohcnkafgdaaSetc2
namespace Go.Proofs.Ytcojohcnkafgdaa
open Go.RowKit
set_option linter.unusedVariables false
set_option linter.unusedSimpArgs false
/-- Where the proxy of a voter lies. -/
def ixP (ps : List Prx) (v : Int) : Int := findI (fun p => p.a == v) 0 ps
/-- The voter to whom a voter's proxy leads. -/
def nxP (ps : List Prx) (v : Int) : Int := if ixP ps v < 0 then -1 else (ps.getD (ixP ps v).toNat ⟨0, 0⟩).b
/-- The holder of a voter and how many proxies lead to it, at most so many. -/
def fwP (ps : List Prx) : Nat → Int → Int × Nat
  | 0, v => (v, 0)
  | n + 1, v => if ixP ps v < 0 then (v, 0) else ((fwP ps n (nxP ps v)).1, (fwP ps n (nxP ps v)).2 + 1)
theorem fwP_stop {ps : List Prx} {n : Nat} {v : Int} (h : ixP ps v < 0) : fwP ps n v = (v, 0) := by
  cases n with
  | zero => rfl
  | succ n => rw [fwP, if_pos h]
theorem fwP_step {ps : List Prx} {n : Nat} {v : Int} (h : ¬ ixP ps v < 0) : fwP ps (n + 1) v = ((fwP ps n (nxP ps v)).1, (fwP ps n (nxP ps v)).2 + 1) := by rw [fwP, if_neg h]
theorem ixP_at {ps : List Prx} {v : Int} (h : ¬ ixP ps v < 0) : ∃ k : Nat, ∃ hk : k < ps.length, ixP ps v = (k : Int) ∧ nxP ps v = ps[k].b := by
  have h2 := findI_range (fun p : Prx => p.a == v) ps 0
  unfold ixP at h
  have hk : (findI (fun p : Prx => p.a == v) 0 ps).toNat < ps.length := by omega
  refine ⟨(findI (fun p : Prx => p.a == v) 0 ps).toNat, hk, ?_, ?_⟩
  · unfold ixP; omega
  · unfold nxP ixP
    rw [if_neg h, List.getD_eq_getElem?_getD, List.getElem?_eq_getElem hk]
    rfl
set_option maxHeartbeats 1000000 in
theorem l12Next_any (A D : Option Addr) (c d : Nat) (ws : List Int) (ps : List Prx) (v : Int) (w : World) (hd : Cells w D (ProxyK.row ps)) (hn : ps.length ≤ 1048576) :
    Calls Try.prog 126 #[.agg #[.slice A ws.length c, .slice D ps.length d], .int .i64 v] w fun e w' => e = .returned (.int .i64 (nxP ps v)) ∧ Below w.heap.size w w' := by
  have HD := Lib.hid (hd.below (below1 w (.cells #[.slice A ws.length c, .slice D ps.length d] 57)))
  have HB := Lib.hid (below1 w (.cells #[.slice A ws.length c, .slice D ps.length d] 57))
  clear hd
  go_enter Try.func126, Try.ntmps126
  go_wp2
  go_loop [5] (fun i => ∃ k : Nat, k ≤ ps.length ∧ i = .int .i64 k ∧ Hid (ixP ps v = findI (fun p => p.a == v) k (ps.drop k))) (fun i => ps.length - (intOf i).toNat)
  case atStart => exact ⟨0, Nat.zero_le _, rfl, rfl⟩
  case round =>
    obtain ⟨k, hk, rfl, hq⟩ := hrel
    by_cases hlt : k < ps.length
    · obtain ⟨a, rfl, hc0, hc1⟩ := proxy_at HD.out hlt
      have i1 : (k : Int) < (ps.length : Int) := by omega
      have HH := Lib.hid (fun (h : (fun x : Prx => x.a == v) ps[k] = true) => findI_hit (k := k) (i := k) (p := fun x => x.a == v) hlt h)
      have HMi := Lib.hid (fun (h : (fun x : Prx => x.a == v) ps[k] = false) => findI_miss (k := k) (i := k) (p := fun x => x.a == v) hlt h)
      have HNX := Lib.hid (fun (h : ixP ps v = (k : Int)) => show nxP ps v = ps[k].b by
        unfold nxP
        rw [h, if_neg (by omega), Int.toNat_natCast, List.getD_eq_getElem?_getD, List.getElem?_eq_getElem hlt]; rfl)
      obtain ⟨x, hx⟩ : ∃ x, Hid (ps[k] = x) := ⟨_, Lib.hid rfl⟩
      rw [hx.out] at hc0 hc1 HH HMi HNX
      rcases Bool.eq_false_or_eq_true (x.a == v) with hm2 | hm2
      · have HA := Lib.hid (HNX.out (hq.out.trans (HH.out hm2)))
        clear hq HH HMi HNX
        go_wp2
        go_ret
        exact ⟨ret_int HA.out.symm, HB.out⟩
      · have HA := Lib.hid (hq.out.trans (HMi.out hm2))
        clear hq HH HMi HNX
        go_wp2
        go_round
        case rel => exact ⟨k + 1, hlt, by go_num, HA⟩
        case measure => simp [intOf]; omega
    · obtain rfl : k = ps.length := by omega
      have HA := Lib.hid (show nxP ps v = -1 by
        have h1 := hq.out.trans findI_end
        unfold nxP
        rw [h1]; rfl)
      go_wp2
      go_ret
      exact ⟨ret_int HA.out.symm, HB.out⟩
set_option maxHeartbeats 1000000 in
theorem l12Steps_any (A D : Option Addr) (c d : Nat) (ws : List Int) (ps : List Prx) (v : Int) (w : World) (hd : Cells w D (ProxyK.row ps)) (hn : ps.length ≤ 1048576) (hto : ∀ p ∈ ps, 0 ≤ p.b) :
    Calls Try.prog 115 #[.agg #[.slice A ws.length c, .slice D ps.length d], .int .i64 v] w fun e w' => e = .returned (.tuple #[.int .i64 (fwP ps (ps.length + 1) v).1, .int .i64 (fwP ps (ps.length + 1) v).2]) ∧ Below w.heap.size w w' := by
  have HD := Lib.hid (hd.below (below1 w (.cells #[.slice A ws.length c, .slice D ps.length d] 57)))
  have HB := Lib.hid (below1 w (.cells #[.slice A ws.length c, .slice D ps.length d] 57))
  have N0 := Lib.hid (BoxF.new2 w (.slice A ws.length c) (.slice D ps.length d) 57 w.heap.size rfl)
  have hs : w.heap.size < (w.alloc (.cells #[.slice A ws.length c, .slice D ps.length d] 57)).heap.size := by simp
  have HTO := Lib.hid hto
  clear hd hto
  go_enter Try.func115, Try.ntmps115
  go_wp2
  generalize w.alloc (.cells #[.slice A ws.length c, .slice D ps.length d] 57) = W at *
  go_loopw [1, 6] (fun x i wr => ∃ (k : Nat) (u : Int), k ≤ ps.length + 1 ∧ x = .int .i64 u ∧ i = .int .i64 k ∧ Hid ((fwP ps (ps.length + 1) v).1 = (fwP ps (ps.length + 1 - k) u).1 ∧ (fwP ps (ps.length + 1) v).2 = k + (fwP ps (ps.length + 1 - k) u).2) ∧ Below W.heap.size W wr) (fun _ i _ => ps.length + 1 - (intOf i).toNat)
  case atStart => exact ⟨0, v, Nat.zero_le _, rfl, rfl, Lib.hid ⟨rfl, by rw [Nat.zero_add]; rfl⟩, Below.refl _ _⟩
  case round =>
    obtain ⟨k, u, hk, rfl, rfl, hq, hB⟩ := hrel
    have HBr := Lib.hid hB
    have N1 := Lib.hid (N0.out.below hB hs)
    clear hB
    have e0 := N1.out.1 0 _ rfl
    have e1 := N1.out.1 1 _ rfl
    by_cases hlt : k ≤ ps.length
    · have i1 : (k : Int) ≤ (ps.length : Int) := by omega
      go_wp2_with fail
      refine (l12Next_any A D c d ws ps u _ (HD.out.below HBr.out) hn).mono ?_
      rintro e w2 ⟨rfl, hb⟩
      have HB2 := Lib.hid (HBr.out.trans (hb.mono HBr.out.size))
      clear hb
      have hf : ps.length + 1 - k = (ps.length - k) + 1 := by omega
      by_cases hx : ixP ps u < 0
      · have hnx : nxP ps u = -1 := by unfold nxP; rw [if_pos hx]
        have h1 : (fwP ps (ps.length + 1) v).1 = u := by rw [hq.out.1, fwP_stop hx]
        have h2 : (fwP ps (ps.length + 1) v).2 = k := by rw [hq.out.2, fwP_stop hx]; rfl
        have H1 := Lib.hid h1
        have H2 := Lib.hid h2
        rw [hnx]
        clear h1 h2 hnx hq
        go_wp2
        go_ret2
        exact ⟨by rw [H1.out, H2.out]; rfl, HB.out.trans (HB2.out.mono (by omega))⟩
      · obtain ⟨t, ht, hi, hnx⟩ := ixP_at hx
        have h0 : ¬ nxP ps u < 0 := by rw [hnx]; have := HTO.out _ (List.getElem_mem ht); omega
        have HQ := Lib.hid (show (fwP ps (ps.length + 1) v).1 = (fwP ps (ps.length + 1 - (k + 1)) (nxP ps u)).1 ∧ (fwP ps (ps.length + 1) v).2 = (k + 1) + (fwP ps (ps.length + 1 - (k + 1)) (nxP ps u)).2 by
          have h1 := hq.out
          rw [hf, fwP_step hx] at h1
          rw [show ps.length + 1 - (k + 1) = ps.length - k by omega]
          exact ⟨h1.1, by rw [h1.2]; simp only []; omega⟩)
        obtain ⟨y, hy⟩ : ∃ y, nxP ps u = y := ⟨_, rfl⟩
        rw [hy] at h0 HQ ⊢
        clear hq hi hnx hy
        go_wp2
        go_roundw
        case rel => exact ⟨k + 1, y, by omega, rfl, by go_num, HQ, HB2.out⟩
        case measure => simp [intOf]; omega
    · have i1 : ¬ (k : Int) ≤ (ps.length : Int) := by omega
      obtain rfl : k = ps.length + 1 := by omega
      have H1 := Lib.hid (show (fwP ps (ps.length + 1) v).1 = u by rw [hq.out.1, Nat.sub_self]; rfl)
      have H2 := Lib.hid (show (fwP ps (ps.length + 1) v).2 = ps.length + 1 by rw [hq.out.2, Nat.sub_self]; rfl)
      clear hq
      go_wp2
      go_ret2
      exact ⟨by rw [H1.out, H2.out]; rfl, HB.out.trans (HBr.out.mono (by omega))⟩
end Go.Proofs.Ytcojohcnkafgdaa
