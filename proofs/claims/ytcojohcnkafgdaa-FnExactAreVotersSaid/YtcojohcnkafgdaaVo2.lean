/- Voters: following proxies in the program. Conditions: the ranges named. -/
import Derived.Test.YtcojohcnkafgdaaVo1
namespace Go.Proofs.Ytcojohcnkafgdaa
open Go.RowKit
set_option linter.unusedVariables false
set_option linter.unusedSimpArgs false
theorem frIs_any (x : Prx) (b : Nat) (s : Int) (w : World) (hp : w.cell? ⟨b, 0, none⟩ = some (.int .i64 s)) : Calls Try.prog 119 #[.agg #[.int .i64 x.a, .int .i64 x.b], .pointer (some ⟨b, 0, none⟩)] w fun e w' => e = .returned (.bool (x.a == s)) ∧ Below w.heap.size w w' := by
  have hl := World.block_lt_of_cell? _ _ hp
  have hp2 : (w.alloc (.cells #[.int .i64 x.a, .int .i64 x.b] 91)).cell? ⟨b, 0, none⟩ = some (.int .i64 s) := (World.cell?_alloc_lt w _ ⟨b, 0, none⟩ hl).trans hp
  go_enter Try.func119, Try.ntmps119
  go_wp2
  go_ret
  exact ⟨rfl, by go_grown⟩
set_option maxHeartbeats 1000000 in
theorem indexP_any (A : Option Addr) (n c : Nat) (xs : List Prx) (b : Nat) (s : Int) (w : World) (hn : n = xs.length) (ha : Cells w A (ProxyK.row xs)) (hm : xs.length ≤ 1048576) (hp : w.cell? ⟨b, 0, none⟩ = some (.int .i64 s)) :
    Calls Try.prog 118 #[.slice A n c, .func (.func 119) #[] #[.pointer (some ⟨b, 0, none⟩)]] w fun e w' => e = .returned (.int .i64 (ixP xs s)) ∧ Below w.heap.size w w' := by
  subst hn
  have hl := World.block_lt_of_cell? _ _ hp
  go_enter Try.func118, Try.ntmps118
  go_wp2
  go_loopw [8] (fun i wr => ∃ k : Nat, k ≤ xs.length ∧ i = .int .i64 k ∧ Hid (ixP xs s = findI (fun x => x.a == s) k (xs.drop k)) ∧ Below w.heap.size w wr) (fun i _ => xs.length - (intOf i).toNat)
  case atStart => exact ⟨0, Nat.zero_le _, rfl, rfl, Below.refl _ _⟩
  case round =>
    obtain ⟨k, hk, rfl, hq, hB⟩ := hrel
    by_cases hlt : k < xs.length
    · obtain ⟨a, rfl, hc0, hc1⟩ := proxy_at (ha.below hB) hlt
      have i1 : (k : Int) < (xs.length : Int) := by omega
      have hp1 := (hB.cell (p := ⟨b, 0, none⟩) hl).trans hp
      have HB := Lib.hid hB
      obtain ⟨x, hx⟩ : ∃ x, Hid (xs[k] = x) := ⟨_, Lib.hid rfl⟩
      have HH := Lib.hid (fun (h : (fun x : Prx => x.a == s) xs[k] = true) => findI_hit (k := k) (i := k) (p := fun x => x.a == s) hlt h)
      have HMi := Lib.hid (fun (h : (fun x : Prx => x.a == s) xs[k] = false) => findI_miss (k := k) (i := k) (p := fun x => x.a == s) hlt h)
      rw [hx.out] at hc0 hc1 HH HMi
      rcases Bool.eq_false_or_eq_true (x.a == s) with hm2 | hm2
      · have HA := Lib.hid (hq.out.trans (HH.out hm2))
        clear hB hq HH HMi
        go_wp2_with (go_at_call 119; refine (frIs_any x b s _ hp1).mono ?_; rintro e w1 ⟨rfl, hb⟩; rw [hm2]; have HB1 := Lib.hid (HB.out.trans (hb.mono HB.out.size)); clear hb)
        go_ret
        exact ⟨ret_int HA.out.symm, HB1.out⟩
      · have HA := Lib.hid (hq.out.trans (HMi.out hm2))
        clear hB hq HH HMi
        go_wp2_with (go_at_call 119; refine (frIs_any x b s _ hp1).mono ?_; rintro e w1 ⟨rfl, hb⟩; rw [hm2]; have HB1 := Lib.hid (HB.out.trans (hb.mono HB.out.size)); clear hb)
        go_roundw
        case rel => exact ⟨k + 1, hlt, by go_num, HA, HB1.out⟩
        case measure => simp [intOf]; omega
    · obtain rfl : k = xs.length := by omega
      have HA := Lib.hid (hq.out.trans findI_end)
      go_wp2
      go_ret
      exact ⟨ret_int HA.out.symm, hB⟩
set_option maxHeartbeats 1000000 in
theorem follow_any (A D : Option Addr) (c d : Nat) (ws : List Int) (ps : List Prx) (v : Int) (w : World) (hd : Cells w D (ProxyK.row ps)) (hn : ps.length ≤ 1048576) :
    Calls Try.prog 93 #[.agg #[.slice A ws.length c, .slice D ps.length d], .int .i64 v] w fun e w' => e = .returned (.tuple #[.int .i64 (fwP ps (ps.length + 1) v).1, .int .i64 (fwP ps (ps.length + 1) v).2]) ∧ Below w.heap.size w w' := by
  have HD := Lib.hid hd
  have HB := Lib.hid (below2 w (.cells #[.slice A ws.length c, .slice D ps.length d] 57) (.cells #[.int .i64 v] 3))
  have N0 := Lib.hid ((BoxF.new2 w (.slice A ws.length c) (.slice D ps.length d) 57 w.heap.size rfl).below (below1 (w.alloc (.cells #[.slice A ws.length c, .slice D ps.length d] 57)) (.cells #[.int .i64 v] 3)) (by simp))
  have N1 := Lib.hid (BoxF.new1 (w.alloc (.cells #[.slice A ws.length c, .slice D ps.length d] 57)) (.int .i64 v) 3 (w.heap.size + 1) (by simp))
  have hs : w.heap.size + 2 ≤ ((w.alloc (.cells #[.slice A ws.length c, .slice D ps.length d] 57)).alloc (.cells #[.int .i64 v] 3)).heap.size := by simp
  clear hd
  go_enter Try.func93, Try.ntmps93
  go_wp2
  generalize (w.alloc (.cells #[.slice A ws.length c, .slice D ps.length d] 57)).alloc (.cells #[.int .i64 v] 3) = W at *
  go_loopw [6] (fun i wr => ∃ (k : Nat) (u : Int), k ≤ ps.length + 1 ∧ i = .int .i64 k ∧ Hid ((fwP ps (ps.length + 1) v).1 = (fwP ps (ps.length + 1 - k) u).1 ∧ (fwP ps (ps.length + 1) v).2 = k + (fwP ps (ps.length + 1 - k) u).2) ∧ Hid (Below w.heap.size w wr) ∧ Hid (BoxF wr w.heap.size [.slice A ws.length c, .slice D ps.length d]) ∧ Hid (BoxF wr (w.heap.size + 1) [.int .i64 u]) ∧ w.heap.size + 2 ≤ wr.heap.size) (fun i _ => ps.length + 1 - (intOf i).toNat)
  case atStart => exact ⟨0, v, Nat.zero_le _, rfl, Lib.hid ⟨rfl, by rw [Nat.zero_add]; rfl⟩, HB, N0, N1, hs⟩
  case round =>
    clear hs N0 N1 HB
    obtain ⟨k, u, hk, rfl, hq, HBr, N0, N1, hs⟩ := hrel
    have e0 := N0.out.1 0 _ rfl
    have e1 := N0.out.1 1 _ rfl
    have g0 := N1.out.1 0 _ rfl
    have z0 := N1.out.2 0
    by_cases hlt : k ≤ ps.length
    · have i1 : (k : Int) ≤ (ps.length : Int) := by omega
      go_wp2_with fail
      refine (indexP_any D _ d ps (w.heap.size + 1) u _ rfl (HD.out.below HBr.out) hn g0).mono ?_
      rintro e w2 ⟨rfl, hb⟩
      have HB2 := Lib.hid (HBr.out.trans (hb.mono HBr.out.size))
      have N0 := Lib.hid (N0.out.below hb (by omega))
      have N1 := Lib.hid (N1.out.below hb (by omega))
      have hs2 := Nat.le_trans hs hb.size
      clear hb e0 e1 g0 z0
      have e0 := N0.out.1 0 _ rfl
      have e1 := N0.out.1 1 _ rfl
      have g0 := N1.out.1 0 _ rfl
      have z0 := N1.out.2 0
      have hf : ps.length + 1 - k = (ps.length - k) + 1 := by omega
      by_cases hx : ixP ps u < 0
      · have H1 := Lib.hid (show (fwP ps (ps.length + 1) v).1 = u by rw [hq.out.1, fwP_stop hx])
        have H2 := Lib.hid (show (fwP ps (ps.length + 1) v).2 = k by rw [hq.out.2, fwP_stop hx]; rfl)
        clear hq
        go_wp2
        go_ret2
        exact ⟨by rw [H1.out, H2.out]; rfl, HB2.out⟩
      · obtain ⟨t, ht, hi, hnx⟩ := ixP_at hx
        have HQ := Lib.hid (show (fwP ps (ps.length + 1) v).1 = (fwP ps (ps.length + 1 - (k + 1)) (nxP ps u)).1 ∧ (fwP ps (ps.length + 1) v).2 = (k + 1) + (fwP ps (ps.length + 1 - (k + 1)) (nxP ps u)).2 by
          have h1 := hq.out
          rw [hf, fwP_step hx] at h1
          rw [show ps.length + 1 - (k + 1) = ps.length - k by omega]
          exact ⟨h1.1, by rw [h1.2]; simp only []; omega⟩)
        obtain ⟨a, rfl, hc0, hc1⟩ := proxy_at (HD.out.below HB2.out) ht
        have i2 : (t : Int) < (ps.length : Int) := by omega
        rw [hi]
        obtain ⟨y, hy⟩ : ∃ y, Hid (ps[t].b = y) := ⟨_, Lib.hid rfl⟩
        rw [hy.out] at hc1 hnx
        rw [hnx] at HQ
        have hx2 : ¬ (t : Int) < 0 := by omega
        have HN1 := Lib.hid (N1.out.set (k := 0) (by simp) (.int .i64 y))
        have hb : Below (w.heap.size + 1) w2 (w2.setCell ⟨w.heap.size + 1, 0, none⟩ (.int .i64 y)) := by go_grown
        have HN0 := Lib.hid (N0.out.below hb (by omega))
        have HBS := Lib.hid (HB2.out.trans (hb.mono (by omega)))
        have hs3 := Nat.le_trans hs2 hb.size
        clear hq hx hi hnx hc0 hb
        go_wp2
        go_roundw
        case rel => exact ⟨k + 1, y, by omega, by go_num, HQ, HBS, HN0, HN1, hs3⟩
        case measure => simp [intOf]; omega
    · have i1 : ¬ (k : Int) ≤ (ps.length : Int) := by omega
      obtain rfl : k = ps.length + 1 := by omega
      have H1 := Lib.hid (show (fwP ps (ps.length + 1) v).1 = u by rw [hq.out.1, Nat.sub_self]; rfl)
      have H2 := Lib.hid (show (fwP ps (ps.length + 1) v).2 = ps.length + 1 by rw [hq.out.2, Nat.sub_self]; rfl)
      clear hq
      go_wp2
      go_ret2
      exact ⟨by rw [H1.out, H2.out]; rfl, HBr.out⟩
end Go.Proofs.Ytcojohcnkafgdaa
