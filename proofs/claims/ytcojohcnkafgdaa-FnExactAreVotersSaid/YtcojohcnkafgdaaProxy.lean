/- Slices of elements Proxy: the copies, comparisons, sizes and marks of the laws. Conditions: the ranges named. -/
import Derived.Test.YtcojohcnkafgdaaInts
namespace Go.Proofs.Ytcojohcnkafgdaa
open Go.RowKit
set_option linter.unusedVariables false

structure Prx where
  a : Int
  b : Int
deriving DecidableEq
def ProxyK : Kd Prx := ⟨2, fun x => [.int .i64 x.a, .int .i64 x.b], fun _ => rfl, fun x => True⟩
theorem proxy_at {w : World} {A : Option Addr} {xs : List Prx} (h : Cells w A (ProxyK.row xs)) {i : Nat} (hi : i < xs.length) : ∃ ad, A = some ad ∧ w.cell? (ad.add (i * 2)) = some (.int .i64 xs[i].a) ∧ w.cell? ⟨(ad.add (i * 2)).block, (ad.add (i * 2)).off + 1, none⟩ = some (.int .i64 xs[i].b) := by
  obtain ⟨ad, e, hc⟩ := Rd.at_ h hi (by decide)
  exact ⟨ad, e, hc 0 _ rfl, by rw [← add_split (h := by omega)]; exact hc 1 _ rfl⟩
theorem toProxy_any (x : Prx) (w : World) : Calls Try.prog 116 #[.agg #[.int .i64 x.a, .int .i64 x.b]] w fun e w' => e = .returned (.agg #[.int .i64 x.a, .int .i64 x.b]) ∧ Below w.heap.size w w' := by
  go_enter Try.func116, Try.ntmps116
  go_wp2
  refine bodyPost_ret (v := .agg #[.int .i64 x.a, .int .i64 x.b]) (by simp [results, Try.results116, go_sem]) rfl ⟨rfl, ?_⟩
  go_grown
set_option maxHeartbeats 400000 in
theorem eqProxy_same (x : Prx) (w : World) : Calls Try.prog 120 #[.agg #[.int .i64 x.a, .int .i64 x.b], .agg #[.int .i64 x.a, .int .i64 x.b]] w fun e w' => e = .returned (.bool true) ∧ Below w.heap.size w w' := by
  go_enter Try.func120, Try.ntmps120
  go_wp2
  go_ret
  exact ⟨rfl, by go_grown⟩
theorem infoProxy : (Try.prog.info? 91).map (fun i => (i.zero, i.size, i.bytes)) = some (some (.agg #[.int .i64 0, .int .i64 0]), 2, 16) := by kernel_rfl
set_option maxHeartbeats 1000000 in
theorem toProxyS_any (A : Option Addr) (c : Nat) (xs : List Prx) (w : World) (ha : Cells w A (ProxyK.row xs)) (hn : xs.length ≤ 1048576) (hf : ∀ x ∈ xs, ProxyK.fit x) :
    Calls Try.prog 89 #[.slice A xs.length c] w (ToL ProxyK 91 w xs) := by
  obtain ⟨i0, hi, hz0, hz1, hz2⟩ := info_parts infoProxy
  go_enter Try.func89, Try.ntmps89
  go_wp2_with (at_make; refine wpList_make_full _ rfl (.tmp 6) (.tmp 6) 55 rfl w.heap.size 91 i0 _ 2 Try.underlying55 hi hz0 hz1 .i64 .i64 _ _ xs.length rfl rfl rfl rfl (by rw [hz2]; omega) (by unfold maxLen; omega) (Nat.le_refl _) ?_; intro w1 hown hgrow; rw [show (Value.agg #[.int .i64 0, .int .i64 0]).cells = #[.int .i64 0, .int .i64 0] from rfl, show xs.length * 2 = xs.length * (#[.int .i64 0, .int .i64 0] : Array Value).size from rfl, made_row _ _ (by simp), ← ProxyK.part_zero] at hown)
  have hB1 : Below w.heap.size w w1 := (Below.refl _ _).grown hgrow (Nat.le_refl _) (by simp)
  have HO1 := Lib.hid hown
  clear hgrow hown
  go_loopw [4] (fun i wr => ∃ k : Nat, k ≤ xs.length ∧ i = .int .i64 k ∧ wr.ownsRow w.heap.size 91 2 (.slice (some ⟨w.heap.size, 0, none⟩) xs.length xs.length) xs.length (ProxyK.part [.int .i64 0, .int .i64 0] xs k) ∧ Below w.heap.size w wr) (fun i _ => xs.length - (intOf i).toNat)
  case atStart => exact ⟨0, Nat.zero_le _, rfl, HO1.out, hB1⟩
  case round =>
    clear hB1
    obtain ⟨k, hk, rfl, hown, hB⟩ := hrel
    by_cases hlt : k < xs.length
    · obtain ⟨a, rfl, hc0, hc1⟩ := proxy_at (ha.below hB) hlt
      have i1 : (k : Int) < (xs.length : Int) := by omega
      have HO := Lib.hid hown
      have HBB := Lib.hid hB
      have hzz := hB.size
      clear hown hB
      go_wp2_with fail
      refine (toProxy_any xs[k] wr).mono ?_
      rintro e w2 ⟨rfl, hb⟩
      have hown := own_keep HO.out hb
      have hB2 := after HBB.out hb
      obtain ⟨u0, g0⟩ := own_cell hown (j := k * 2) (by omega)
      have z0 := hown.frozenAt (k * 2)
      obtain ⟨u1, g1⟩ := own_cell hown (j := k * 2 + 1) (by omega)
      have z1 := hown.frozenAt (k * 2 + 1)
      have hst : World.ownsRow _ _ _ _ _ _ (setL (ProxyK.part [.int .i64 0, .int .i64 0] xs k) (k * ProxyK.sz) (ProxyK.enc xs[k])) := ((hown.stored (k * 2) (.int .i64 xs[k].a)).1.stored (k * 2 + 1) (.int .i64 xs[k].b)).1
      rw [ProxyK.part_set (by rfl) hlt] at hst
      have HS := Lib.hid hst
      have HB := Lib.hid ((hB2.setCell (p := ⟨w.heap.size, k * 2, none⟩) (Nat.le_refl _) (.int .i64 xs[k].a)).setCell (p := ⟨w.heap.size, k * 2 + 1, none⟩) (Nat.le_refl _) (.int .i64 xs[k].b))
      clear hst hB2 hown hb
      go_wp2
      go_roundw
      case rel => exact ⟨k + 1, hlt, by go_num, HS.out, HB.out⟩
      case measure => simp [intOf]; omega
    · obtain rfl : k = xs.length := by omega
      rw [ProxyK.part_all] at hown
      have HS := Lib.hid hown
      clear hown
      go_wp2
      go_ret
      exact ⟨_, _, rfl, Ow.mk HS.out hn hf, hB⟩
set_option maxHeartbeats 1000000 in
theorem eqProxyS_same (B1 B2 : Nat) (A B : Option Addr) (c d : Nat) (xs : List Prx) (w : World) (h : Rd ProxyK B1 w A c xs) (h' : Rd ProxyK B2 w B d xs) :
    Calls Try.prog 94 #[.slice A xs.length c, .slice B xs.length d] w fun e w' => e = .returned (.bool true) ∧ Below w.heap.size w w' := by
  have ha := h.cells
  have hb := h'.cells
  have hn := h.2.2.1
  have hne : ((xs.length : Int) != (xs.length : Int)) = false := by simp
  clear h h'
  go_enter Try.func94, Try.ntmps94
  go_wp2
  go_loopw [5] (fun i wr => ∃ k : Nat, k ≤ xs.length ∧ i = .int .i64 k ∧ Below w.heap.size w wr) (fun i _ => xs.length - (intOf i).toNat)
  case atStart => exact ⟨0, Nat.zero_le _, rfl, Below.refl _ _⟩
  case round =>
    obtain ⟨k, hk, rfl, hB⟩ := hrel
    by_cases hlt : k < xs.length
    · obtain ⟨a, rfl, hc0, hc1⟩ := proxy_at (ha.below hB) hlt
      obtain ⟨b, rfl, hd0, hd1⟩ := proxy_at (hb.below hB) hlt
      have i1 : (k : Int) < (xs.length : Int) := by omega
      have hz := hB.size
      have HX := fun W => eqProxy_same xs[k] W
      have HC := Lib.hid HX
      clear ha hb HX
      go_wp2
      go_region_held3 (fun w' => Below wr.heap.size wr w' ∧ w'.cell? (a.add (k * 2)) = some (.int .i64 xs[k].a) ∧ w'.cell? ⟨(a.add (k * 2)).block, (a.add (k * 2)).off + 1, none⟩ = some (.int .i64 xs[k].b) ∧ w'.cell? (b.add (k * 2)) = some (.int .i64 xs[k].a) ∧ w'.cell? ⟨(b.add (k * 2)).block, (b.add (k * 2)).off + 1, none⟩ = some (.int .i64 xs[k].b))
        ((first | exact ⟨(Below.refl _ _).drew, hc0, hc1, hd0, hd1⟩ | (refine ⟨hb, (hb.cell (World.block_lt_of_cell? _ _ hc0)).trans hc0, (hb.cell (World.block_lt_of_cell? _ _ hc1)).trans hc1, (hb.cell (World.block_lt_of_cell? _ _ hd0)).trans hd0, (hb.cell (World.block_lt_of_cell? _ _ hd1)).trans hd1⟩)))
        (first
          | (go_at_call 120; refine (HC.out _).mono ?_; rintro e w2 ⟨rfl, hb0⟩; have hb := (below_drewN (Below.refl wr.heap.size wr) 1).trans hb0; clear hb0))
      have hB2 := Lib.hid (hB.trans (hb.mono hz))
      clear hb
      go_wp2
      go_roundw
      case rel => exact ⟨k + 1, hlt, by go_num, hB2.out⟩
      case measure => simp [intOf]; omega
    · obtain rfl : k = xs.length := by omega
      go_wp2
      go_ret
      exact ⟨rfl, hB⟩
/-- The marks of element j, from k on. -/
def markProxy (k : Nat) (j : Nat) : Prx := ⟨((k + 2 * j : Nat) : Int), ((k + 2 * j + 1 : Nat) : Int)⟩
theorem szProxyS_any (A : Option Addr) (c n : Nat) (left : Int) (w : World) (hn : n ≤ maxLen) (h0 : 0 ≤ left) (h1 : left ≤ 1048576) :
    Calls Try.prog 87 #[.slice A n c, .int .i64 left] w fun e w' => e = .returned (.int .i64 (szN n left)) ∧ w = w' := by
  unfold maxLen at hn
  by_cases hl : left - (n : Int) < 0
  · have HR := Lib.hid (show szN n left = -1 by unfold szN; rw [if_pos (by omega)])
    go_enter Try.func87, Try.ntmps87
    go_wp2
    go_ret
    exact ⟨ret_int HR.out.symm, rfl⟩
  · have HR := Lib.hid (show szN n left = left - n by unfold szN; rw [if_neg (by omega)])
    go_enter Try.func87, Try.ntmps87
    go_wp2
    go_ret
    exact ⟨ret_int HR.out.symm, rfl⟩
end Go.Proofs.Ytcojohcnkafgdaa
