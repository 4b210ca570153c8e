/- What the draws of FnVotes return. Conditions: the ranges named. -/
import Derived.Test.YtjjjahfmgooobaaCu2
namespace Go.Proofs.Ytjjjahfmgooobaa
open Go.RowKit
set_option linter.unusedVariables false
set_option linter.unusedSimpArgs false
theorem BytesC.below {w w' : World} {A : Option Addr} {n : Nat} (h : BytesC w A n) (hb : Below w.heap.size w w') : BytesC w' A n := h.block fun a _ hl => hb.block _ hl
theorem Cur.new {w : World} {A : Option Addr} {n c : Nat} (h : BytesC w A n) (hn : n ≤ 65536) (T : TypeId) : Cur (w.alloc (.cells #[.slice A n c, .int .i64 0, .int .u64 0] T)) w.heap.size A n c 0 := by
  refine ⟨⟨0, 0, Nat.le_refl _, Int.le_refl _, by omega, BoxF.new' w _ _ _ rfl⟩, by simp, fun a ha hn0 => ?_, h.below (below1 w _), hn⟩
  obtain ⟨a', x, hA, _, _, hc⟩ := h 0 hn0
  rw [ha] at hA
  obtain rfl := Option.some.inj hA
  have := World.block_lt_of_cell? _ _ hc
  rw [block_add] at this
  omega
theorem vBig_any (A : Option Addr) (n c : Nat) (w : World) : Calls Try.prog 4 #[.slice A n c] w fun e w' => e = .returned (.bool (decide (65536 < n))) ∧ w = w' := by
  go_enter Try.func4, Try.ntmps4
  go_wp2
  go_ret
  exact ⟨ret_bool (by simp; try omega), rfl⟩
def CURB : Nat := 0
theorem DrawYesNeeded_any (A : Option Addr) (n c : Nat) (w : World) (h : BytesC w A n) (hn : n ≤ 65536) :
    Calls Try.prog 5 #[.slice A n c] w fun e w' => (∃ k x : Int, e = .returned (.tuple #[.int .i64 k, .int .i64 x])) ∧ Below w.heap.size w w' := by
  have HC := Lib.hid (Cur.new (c := c) h hn 39)
  have HB := Lib.hid (below1 w (.cells #[.slice A n c, .int .i64 0, .int .u64 0] 39))
  have hz : w.heap.size < (w.alloc (.cells #[.slice A n c, .int .i64 0, .int .u64 0] 39)).heap.size := by simp
  clear h
  go_enter Try.func5, Try.ntmps5
  go_wp2_with fail
  generalize w.alloc (.cells #[.slice A n c, .int .i64 0, .int .u64 0] 39) = W at *
  refine (need_any w.heap.size A n c 0 W HC.out (by omega)).mono ?_
  rintro e w1 ⟨⟨k, rfl, _⟩, hc, ho⟩
  have hlt := hc.lt
  have hb := below1 w1 (.cells (([0, 1, 2, 5, 20, 999, 1000, 1001, -1] : List Int).map (Value.int .i64)).toArray 3)
  have HL := Lib.hid (lit_cells w1 [0, 1, 2, 5, 20, 999, 1000, 1001, -1] 3 w1.heap.size rfl)
  have HC := Lib.hid (hc.below hb)
  have HB := Lib.hid (HB.out.trans ((ho.below (Nat.le_of_lt hz)).trans (hb.mono (by omega))))
  have hne : w1.heap.size ≠ w.heap.size := by omega
  have hzl := Nat.lt_of_lt_of_le hlt hb.size
  clear hc ho hb
  go_wp2_with fail
  refine (among_any [0, 1, 2, 5, 20, 999, 1000, 1001, -1] _ _ (by decide) (by decide) w.heap.size A n c _ _ HC.out (by omega) HL.out (fun a ha => by cases ha; exact hne)).mono ?_
  rintro e w2 ⟨⟨x, rfl, _⟩, hc, ho⟩
  have HB2 := Lib.hid (HB.out.trans (ho.below (Nat.le_of_lt hzl)))
  clear hc ho
  go_wp2
  go_ret2
  exact ⟨⟨k, x, by first | rfl | (simp; done) | (simp [Array.getD]; done)⟩, HB2.out⟩
theorem DrawMostNo_any (A : Option Addr) (n c : Nat) (w : World) (h : BytesC w A n) (hn : n ≤ 65536) :
    Calls Try.prog 10 #[.slice A n c] w fun e w' => (∃ k x : Int, e = .returned (.tuple #[.int .i64 k, .int .i64 x])) ∧ Below w.heap.size w w' := by
  have H := Lib.hid h
  clear h
  go_enter Try.func10, Try.ntmps10
  go_wp2_with (go_at_call 5; refine (DrawYesNeeded_any A n c _ H.out hn).mono ?_; rintro e w1 ⟨⟨k, x, rfl⟩, hb⟩; have HB := Lib.hid hb; clear hb)
  go_ret2
  exact ⟨⟨k, x, by first | rfl | (simp; done) | (simp [Array.getD]; done)⟩, HB.out⟩
set_option maxHeartbeats 1000000 in
theorem DrawIsAdopted_any (A : Option Addr) (n c : Nat) (w : World) (h : BytesC w A n) (hn : n ≤ 65536) :
    Calls Try.prog 12 #[.slice A n c] w fun e w' => (∃ k y n' a : Int, e = .returned (.tuple #[.int .i64 k, .agg #[.int .i64 y, .int .i64 n', .int .i64 a]])) ∧ Below w.heap.size w w' := by
  have hb0 := below1 w (.cells #[.int .i64 0, .int .i64 0, .int .i64 0] 31)
  have HC := Lib.hid (Cur.new (c := c) (h.below hb0) hn 39)
  have HB := Lib.hid (below2 w (.cells #[.int .i64 0, .int .i64 0, .int .i64 0] 31) (.cells #[.slice A n c, .int .i64 0, .int .u64 0] 39))
  have NR := Lib.hid ((show BoxF (w.alloc (.cells #[.int .i64 0, .int .i64 0, .int .i64 0] 31)) w.heap.size [.int .i64 0, .int .i64 0, .int .i64 0] from BoxF.new' w _ _ _ rfl).below (below1 _ (.cells #[.slice A n c, .int .i64 0, .int .u64 0] 39)) (by simp))
  have hcb : (w.alloc (.cells #[.int .i64 0, .int .i64 0, .int .i64 0] 31)).heap.size = w.heap.size + 1 := by simp
  have hz : w.heap.size + 1 < ((w.alloc (.cells #[.int .i64 0, .int .i64 0, .int .i64 0] 31)).alloc (.cells #[.slice A n c, .int .i64 0, .int .u64 0] 39)).heap.size := by simp
  rw [hcb] at HC
  clear h hb0 hcb
  go_enter Try.func12, Try.ntmps12
  go_wp2_with fail
  generalize (w.alloc (.cells #[.int .i64 0, .int .i64 0, .int .i64 0] 31)).alloc (.cells #[.slice A n c, .int .i64 0, .int .u64 0] 39) = W at *
  refine (need_any (w.heap.size + 1) A n c 0 W HC.out (by omega)).mono ?_
  rintro e w1 ⟨⟨k, rfl, _⟩, hc, ho⟩
  have HC := Lib.hid hc
  have NR := Lib.hid (NR.out.blk (ho.block _ (by omega) (by omega)))
  have HB := Lib.hid (HB.out.trans (ho.below (Nat.le_of_lt hz) |>.mono (by omega)))
  have hz1 := Nat.lt_of_lt_of_le hz ho.size
  clear hc ho
  go_wp2_with fail
  refine (tally_any (w.heap.size + 1) A n c _ w1 HC.out (by omega)).mono ?_
  rintro e w2 ⟨⟨y, n', a, rfl⟩, hc, ho⟩
  have NR := Lib.hid (NR.out.blk (ho.block _ (by omega) (by omega)))
  have HB := Lib.hid (HB.out.trans (ho.below (Nat.le_of_lt hz1) |>.mono (by omega)))
  clear hc ho
  have r0 := NR.out.1 0 _ rfl
  have r1 := NR.out.1 1 _ rfl
  have r2 := NR.out.1 2 _ rfl
  have g0 := NR.out.2 0
  have g1 := NR.out.2 1
  have g2 := NR.out.2 2
  go_wp2
  have KS := NR.out.set3 (.int .i64 y) (.int .i64 n') (.int .i64 a)
  have k0 := KS.1 0 _ rfl
  have k1 := KS.1 1 _ rfl
  have k2 := KS.1 2 _ rfl
  refine bodyPost_ret (v := .tuple #[.int .i64 k, .agg #[.int .i64 y, .int .i64 n', .int .i64 a]]) (by simp [results, Try.results12, go_sem, k0, k1, k2]) rfl ⟨⟨k, y, n', a, rfl⟩, ?_⟩
  have hb9 := HB.out
  go_grown
end Go.Proofs.Ytjjjahfmgooobaa
