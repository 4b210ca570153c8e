/- Slices of elements Share: the copies, comparisons, sizes and marks of the laws. Conditions: the ranges named. -/
import Derived.Test.YtbpikbcnpmplfaaInts
namespace Go.Proofs.Ytbpikbcnpmplfaa
open Go.RowKit
set_option linter.unusedVariables false

structure Shr where
  m : Int
  t : Int
  s : Int
deriving DecidableEq
def ShareK : Kd Shr := ⟨3, fun x => [.int .i64 x.m, .int .i64 x.t, .int .i64 x.s], fun _ => rfl, fun x => True⟩
theorem share_at {w : World} {A : Option Addr} {xs : List Shr} (h : Cells w A (ShareK.row xs)) {i : Nat} (hi : i < xs.length) : ∃ ad, A = some ad ∧ w.cell? (ad.add (i * 3)) = some (.int .i64 xs[i].m) ∧ w.cell? ⟨(ad.add (i * 3)).block, (ad.add (i * 3)).off + 1, none⟩ = some (.int .i64 xs[i].t) ∧ w.cell? ⟨(ad.add (i * 3)).block, (ad.add (i * 3)).off + 2, none⟩ = some (.int .i64 xs[i].s) := by
  obtain ⟨ad, e, hc⟩ := Rd.at_ h hi (by decide)
  exact ⟨ad, e, hc 0 _ rfl, by rw [← add_split (h := by omega)]; exact hc 1 _ rfl, by rw [← add_split (h := by omega)]; exact hc 2 _ rfl⟩
theorem toShare_any (x : Shr) (w : World) : Calls Try.prog 81 #[.agg #[.int .i64 x.m, .int .i64 x.t, .int .i64 x.s]] w fun e w' => e = .returned (.agg #[.int .i64 x.m, .int .i64 x.t, .int .i64 x.s]) ∧ Below w.heap.size w w' := by
  go_enter Try.func81, Try.ntmps81
  go_wp2
  refine bodyPost_ret (v := .agg #[.int .i64 x.m, .int .i64 x.t, .int .i64 x.s]) (by simp [results, Try.results81, go_sem]) rfl ⟨rfl, ?_⟩
  go_grown
set_option maxHeartbeats 400000 in
theorem eqShare_same (x : Shr) (w : World) : Calls Try.prog 83 #[.agg #[.int .i64 x.m, .int .i64 x.t, .int .i64 x.s], .agg #[.int .i64 x.m, .int .i64 x.t, .int .i64 x.s]] w fun e w' => e = .returned (.bool true) ∧ Below w.heap.size w w' := by
  go_enter Try.func83, Try.ntmps83
  go_wp2
  go_ret
  exact ⟨rfl, by go_grown⟩
theorem infoShare : (Try.prog.info? 43).map (fun i => (i.zero, i.size, i.bytes)) = some (some (.agg #[.int .i64 0, .int .i64 0, .int .i64 0]), 3, 24) := by kernel_rfl
set_option maxHeartbeats 1000000 in
theorem toShareS_any (A : Option Addr) (c : Nat) (xs : List Shr) (w : World) (ha : Cells w A (ShareK.row xs)) (hn : xs.length ≤ 1048576) (hf : ∀ x ∈ xs, ShareK.fit x) :
    Calls Try.prog 47 #[.slice A xs.length c] w (ToL ShareK 43 w xs) := by
  obtain ⟨i0, hi, hz0, hz1, hz2⟩ := info_parts infoShare
  go_enter Try.func47, Try.ntmps47
  go_wp2_with (at_make; refine wpList_make_full _ rfl (.tmp 6) (.tmp 6) 27 rfl w.heap.size 43 i0 _ 3 Try.underlying27 hi hz0 hz1 .i64 .i64 _ _ xs.length rfl rfl rfl rfl (by rw [hz2]; omega) (by unfold maxLen; omega) (Nat.le_refl _) ?_; intro w1 hown hgrow; rw [show (Value.agg #[.int .i64 0, .int .i64 0, .int .i64 0]).cells = #[.int .i64 0, .int .i64 0, .int .i64 0] from rfl, show xs.length * 3 = xs.length * (#[.int .i64 0, .int .i64 0, .int .i64 0] : Array Value).size from rfl, made_row _ _ (by simp), ← ShareK.part_zero] at hown)
  have hB1 : Below w.heap.size w w1 := (Below.refl _ _).grown hgrow (Nat.le_refl _) (by simp)
  have HO1 := Lib.hid hown
  clear hgrow hown
  go_loopw [4] (fun i wr => ∃ k : Nat, k ≤ xs.length ∧ i = .int .i64 k ∧ wr.ownsRow w.heap.size 43 3 (.slice (some ⟨w.heap.size, 0, none⟩) xs.length xs.length) xs.length (ShareK.part [.int .i64 0, .int .i64 0, .int .i64 0] xs k) ∧ Below w.heap.size w wr) (fun i _ => xs.length - (intOf i).toNat)
  case atStart => exact ⟨0, Nat.zero_le _, rfl, HO1.out, hB1⟩
  case round =>
    clear hB1
    obtain ⟨k, hk, rfl, hown, hB⟩ := hrel
    by_cases hlt : k < xs.length
    · obtain ⟨a, rfl, hc0, hc1, hc2⟩ := share_at (ha.below hB) hlt
      have i1 : (k : Int) < (xs.length : Int) := by omega
      have HO := Lib.hid hown
      have HBB := Lib.hid hB
      have hzz := hB.size
      clear hown hB
      go_wp2_with fail
      refine (toShare_any xs[k] wr).mono ?_
      rintro e w2 ⟨rfl, hb⟩
      have hown := own_keep HO.out hb
      have hB2 := after HBB.out hb
      obtain ⟨u0, g0⟩ := own_cell hown (j := k * 3) (by omega)
      have z0 := hown.frozenAt (k * 3)
      obtain ⟨u1, g1⟩ := own_cell hown (j := k * 3 + 1) (by omega)
      have z1 := hown.frozenAt (k * 3 + 1)
      obtain ⟨u2, g2⟩ := own_cell hown (j := k * 3 + 2) (by omega)
      have z2 := hown.frozenAt (k * 3 + 2)
      have hst : World.ownsRow _ _ _ _ _ _ (setL (ShareK.part [.int .i64 0, .int .i64 0, .int .i64 0] xs k) (k * ShareK.sz) (ShareK.enc xs[k])) := (((hown.stored (k * 3) (.int .i64 xs[k].m)).1.stored (k * 3 + 1) (.int .i64 xs[k].t)).1.stored (k * 3 + 2) (.int .i64 xs[k].s)).1
      rw [ShareK.part_set (by rfl) hlt] at hst
      have HS := Lib.hid hst
      have HB := Lib.hid (((hB2.setCell (p := ⟨w.heap.size, k * 3, none⟩) (Nat.le_refl _) (.int .i64 xs[k].m)).setCell (p := ⟨w.heap.size, k * 3 + 1, none⟩) (Nat.le_refl _) (.int .i64 xs[k].t)).setCell (p := ⟨w.heap.size, k * 3 + 2, none⟩) (Nat.le_refl _) (.int .i64 xs[k].s))
      clear hst hB2 hown hb
      go_wp2
      go_roundw
      case rel => exact ⟨k + 1, hlt, by go_num, HS.out, HB.out⟩
      case measure => simp [intOf]; omega
    · obtain rfl : k = xs.length := by omega
      rw [ShareK.part_all] at hown
      have HS := Lib.hid hown
      clear hown
      go_wp2
      go_ret
      exact ⟨_, _, rfl, Ow.mk HS.out hn hf, hB⟩
set_option maxHeartbeats 1000000 in
theorem eqShareS_same (B1 B2 : Nat) (A B : Option Addr) (c d : Nat) (xs : List Shr) (w : World) (h : Rd ShareK B1 w A c xs) (h' : Rd ShareK B2 w B d xs) :
    Calls Try.prog 51 #[.slice A xs.length c, .slice B xs.length d] w fun e w' => e = .returned (.bool true) ∧ Below w.heap.size w w' := by
  have ha := h.cells
  have hb := h'.cells
  have hn := h.2.2.1
  have hne : ((xs.length : Int) != (xs.length : Int)) = false := by simp
  clear h h'
  go_enter Try.func51, Try.ntmps51
  go_wp2
  go_loopw [5] (fun i wr => ∃ k : Nat, k ≤ xs.length ∧ i = .int .i64 k ∧ Below w.heap.size w wr) (fun i _ => xs.length - (intOf i).toNat)
  case atStart => exact ⟨0, Nat.zero_le _, rfl, Below.refl _ _⟩
  case round =>
    obtain ⟨k, hk, rfl, hB⟩ := hrel
    by_cases hlt : k < xs.length
    · obtain ⟨a, rfl, hc0, hc1, hc2⟩ := share_at (ha.below hB) hlt
      obtain ⟨b, rfl, hd0, hd1, hd2⟩ := share_at (hb.below hB) hlt
      have i1 : (k : Int) < (xs.length : Int) := by omega
      have hz := hB.size
      have HX := fun W => eqShare_same xs[k] W
      have HC := Lib.hid HX
      clear ha hb HX
      go_wp2
      go_region_held3 (fun w' => Below wr.heap.size wr w' ∧ w'.cell? (a.add (k * 3)) = some (.int .i64 xs[k].m) ∧ w'.cell? ⟨(a.add (k * 3)).block, (a.add (k * 3)).off + 1, none⟩ = some (.int .i64 xs[k].t) ∧ w'.cell? ⟨(a.add (k * 3)).block, (a.add (k * 3)).off + 2, none⟩ = some (.int .i64 xs[k].s) ∧ w'.cell? (b.add (k * 3)) = some (.int .i64 xs[k].m) ∧ w'.cell? ⟨(b.add (k * 3)).block, (b.add (k * 3)).off + 1, none⟩ = some (.int .i64 xs[k].t) ∧ w'.cell? ⟨(b.add (k * 3)).block, (b.add (k * 3)).off + 2, none⟩ = some (.int .i64 xs[k].s))
        ((first | exact ⟨(Below.refl _ _).drew, hc0, hc1, hc2, hd0, hd1, hd2⟩ | (refine ⟨hb, (hb.cell (World.block_lt_of_cell? _ _ hc0)).trans hc0, (hb.cell (World.block_lt_of_cell? _ _ hc1)).trans hc1, (hb.cell (World.block_lt_of_cell? _ _ hc2)).trans hc2, (hb.cell (World.block_lt_of_cell? _ _ hd0)).trans hd0, (hb.cell (World.block_lt_of_cell? _ _ hd1)).trans hd1, (hb.cell (World.block_lt_of_cell? _ _ hd2)).trans hd2⟩)))
        (first
          | (go_at_call 83; refine (HC.out _).mono ?_; rintro e w2 ⟨rfl, hb0⟩; have hb := (below_drewN (Below.refl wr.heap.size wr) 1).trans hb0; clear hb0))
      have hB2 := Lib.hid (hB.trans (hb.mono hz))
      clear hb
      go_wp2
      go_roundw
      case rel => exact ⟨k + 1, hlt, by go_num, hB2.out⟩
      case measure => simp [intOf]; omega
    · obtain rfl : k = xs.length := by omega
      go_wp2
      go_ret
      exact ⟨rfl, hB⟩
/-- The marks of element j, from k on. -/
def markShare (k : Nat) (j : Nat) : Shr := ⟨((k + 3 * j : Nat) : Int), ((k + 3 * j + 1 : Nat) : Int), ((k + 3 * j + 2 : Nat) : Int)⟩
set_option maxHeartbeats 1000000 in
theorem markShareS_any (lo hi : Nat) (A : Option Addr) (c k : Nat) (kk : Int) (hkk : kk = (k : Int)) (xs : List Shr) (w : World) (h : Ow ShareK 43 lo hi w A c xs) (hk0 : 0 < k) (hk : k ≤ 20000000) :
    Calls Try.prog 53 #[.slice A xs.length c, .int .i64 kk] w fun e w' => e = .returned (.int .i64 (kk + 3 * xs.length)) ∧ Ow ShareK 43 lo hi w' A c (mkL (markShare k) xs.length) ∧ Only lo hi w w' ∧ w.grownBy w' (Value.slice A xs.length c).ownBlock := by
  subst hkk
  obtain ⟨hown, hu, hn, hf⟩ := h
  obtain ⟨n, HN⟩ : ∃ n, Hid (xs.length = n) := ⟨_, rfl⟩
  have hown0 := hown
  rw [HN.out] at hown hn ⊢
  go_enter Try.func53, Try.ntmps53
  go_wp2
  go_loopw [1, 5] (fun u i wr => ∃ j : Nat, j ≤ n ∧ i = .int .i64 j ∧ u = .int .i64 ((k : Int) + 3 * j) ∧ wr.ownsRow lo 43 3 (.slice A n c) n (ShareK.row (mixL (markShare k) j xs)) ∧ w.grownBy wr (Value.slice A n c).ownBlock) (fun _ i _ => n - (intOf i).toNat)
  case atStart => exact ⟨0, Nat.zero_le _, rfl, by go_num, by rw [mixL_zero]; exact hown, World.grownBy.refl _ _⟩
  case round =>
    clear hown
    obtain ⟨j, hj, rfl, rfl, hown, hg⟩ := hrel
    by_cases hlt : j < n
    · obtain ⟨g, cap, hv, hbg, hgl⟩ := hown.form (by omega)
      obtain ⟨rfl, _, rfl⟩ : A = some ⟨g, 0, none⟩ ∧ n = n ∧ c = cap := by simpa using hv
      clear hv
      have i1 : (j : Int) < (n : Int) := by omega
      obtain ⟨u0, g0⟩ := own_cell hown (j := j * 3) (by omega)
      have z0 := hown.frozenAt (j * 3)
      obtain ⟨u1, g1⟩ := own_cell hown (j := j * 3 + 1) (by omega)
      have z1 := hown.frozenAt (j * 3 + 1)
      obtain ⟨u2, g2⟩ := own_cell hown (j := j * 3 + 2) (by omega)
      have z2 := hown.frozenAt (j * 3 + 2)
      have he : ([.int .i64 ((k : Int) + 3 * j), .int .i64 ((k : Int) + 3 * j + 1), .int .i64 ((k : Int) + 3 * j + 1 + 1)] : List Value) = ShareK.enc (markShare k j) := by
        show _ = ([.int .i64 (markShare k j).m, .int .i64 (markShare k j).t, .int .i64 (markShare k j).s] : List Value)
        unfold markShare
        simp only [List.cons.injEq, Value.int.injEq, true_and, and_true]
        omega
      have hst : World.ownsRow _ _ _ _ _ _ (setL (ShareK.row (mixL (markShare k) j xs)) (j * ShareK.sz) [.int .i64 ((k : Int) + 3 * j), .int .i64 ((k : Int) + 3 * j + 1), .int .i64 ((k : Int) + 3 * j + 1 + 1)]) := (((hown.stored (j * 3) (.int .i64 ((k : Int) + 3 * j))).1.stored (j * 3 + 1) (.int .i64 ((k : Int) + 3 * j + 1))).1.stored (j * 3 + 2) (.int .i64 ((k : Int) + 3 * j + 1 + 1))).1
      rw [he, mixL_set ShareK (by have := HN.out; omega)] at hst
      have HS := Lib.hid hst
      have HG1 := Lib.hid (grownBy_trans (grownBy_trans (grownBy_trans hg (hown.stored (j * 3) (.int .i64 ((k : Int) + 3 * j))).2) ((hown.stored (j * 3) (.int .i64 ((k : Int) + 3 * j))).1.stored (j * 3 + 1) (.int .i64 ((k : Int) + 3 * j + 1))).2) (((hown.stored (j * 3) (.int .i64 ((k : Int) + 3 * j))).1.stored (j * 3 + 1) (.int .i64 ((k : Int) + 3 * j + 1))).1.stored (j * 3 + 2) (.int .i64 ((k : Int) + 3 * j + 1 + 1))).2)
      clear hst hown hg hown0 he
      go_wp2
      go_roundw
      case rel => exact ⟨j + 1, hlt, by go_num, by go_num, HS.out, HG1.out⟩
      case measure => simp [intOf]; omega
    · obtain rfl : j = n := by omega
      rw [mixL_all HN.out] at hown
      have HO := Lib.hid hown
      have HG := Lib.hid hg
      clear hown hg
      go_wp2
      go_ret
      refine ⟨rfl, ⟨by rw [mkL_len]; exact HO.out, hu, by rw [mkL_len]; exact hn, fun _ _ => trivial⟩, Only.of_grown HG.out fun g hgg => ?_, HG.out⟩
      rw [← HN.out] at hgg
      have hl := hown0.lt g (by exact hgg)
      refine ⟨hl.1, ?_⟩
      cases A with
      | none => simp [Value.ownBlock] at hgg
      | some a =>
        have := hu a rfl
        simp [Value.ownBlock] at hgg
        omega
set_option maxHeartbeats 1000000 in
theorem heldShareS_yes (A : Option Addr) (n c k B : Nat) (kk : Int) (hkk : kk = (k : Int)) (w : World) (h : Rd ShareK B w A c (mkL (markShare k) n)) (hk0 : 0 < k) (hk : k ≤ 20000000) :
    Calls Try.prog 55 #[.slice A n c, .int .i64 kk] w fun e w' => e = .returned (.int .i64 (kk + 3 * n)) ∧ w = w' := by
  subst hkk
  have ha := h.cells
  have hn := h.2.2.1
  rw [mkL_len] at hn
  clear h
  go_enter Try.func55, Try.ntmps55
  go_wp2
  go_loop [1, 5] (fun u i => ∃ j : Nat, j ≤ n ∧ i = .int .i64 j ∧ u = .int .i64 ((k : Int) + 3 * j)) (fun _ i => n - (intOf i).toNat)
  case atStart => exact ⟨0, Nat.zero_le _, rfl, by go_num⟩
  case round =>
    obtain ⟨j, hj, rfl, rfl⟩ := hrel
    by_cases hlt : j < n
    · obtain ⟨a, rfl, hc0, hc1, hc2⟩ := share_at ha (i := j) (by rw [mkL_len]; exact hlt)
      have e0 : ((mkL (markShare k) n)[j]'(by rw [mkL_len]; exact hlt)).m = (k : Int) + 3 * j := by rw [mkL_get _ _ _ hlt]; unfold markShare; simp; try omega
      rw [e0] at hc0
      have e1 : ((mkL (markShare k) n)[j]'(by rw [mkL_len]; exact hlt)).t = (k : Int) + 3 * j + 1 := by rw [mkL_get _ _ _ hlt]; unfold markShare; simp; try omega
      rw [e1] at hc1
      have e2 : ((mkL (markShare k) n)[j]'(by rw [mkL_len]; exact hlt)).s = (k : Int) + 3 * j + 1 + 1 := by rw [mkL_get _ _ _ hlt]; unfold markShare; simp; try omega
      rw [e2] at hc2
      have i1 : (j : Int) < (n : Int) := by omega
      clear e0 e1 e2
      go_wp2
      go_round
      case rel => exact ⟨j + 1, hlt, by go_num, by go_num⟩
      case measure => simp [intOf]; omega
    · obtain rfl : j = n := by omega
      go_wp2
      go_ret
      exact ⟨rfl, rfl⟩
theorem szShareS_any (A : Option Addr) (c n : Nat) (left : Int) (w : World) (hn : n ≤ maxLen) (h0 : 0 ≤ left) (h1 : left ≤ 1048576) :
    Calls Try.prog 43 #[.slice A n c, .int .i64 left] w fun e w' => e = .returned (.int .i64 (szN n left)) ∧ w = w' := by
  unfold maxLen at hn
  by_cases hl : left - (n : Int) < 0
  · have HR := Lib.hid (show szN n left = -1 by unfold szN; rw [if_pos (by omega)])
    go_enter Try.func43, Try.ntmps43
    go_wp2
    go_ret
    exact ⟨ret_int HR.out.symm, rfl⟩
  · have HR := Lib.hid (show szN n left = left - n by unfold szN; rw [if_neg (by omega)])
    go_enter Try.func43, Try.ntmps43
    go_wp2
    go_ret
    exact ⟨ret_int HR.out.symm, rfl⟩
end Go.Proofs.Ytbpikbcnpmplfaa
