/- Slices of pairs of numbers: the comparisons and marks of the laws. Conditions: the ranges named. -/
import Derived.Test.YthohogimhijbdaaDk7
namespace Go.Proofs.Ythohogimhijbdaa
open Go.RowKit
set_option linter.unusedVariables false
set_option linter.unusedSimpArgs false
theorem pair_at {w : World} {A : Option Addr} {xs : List (Int × Int)} (h : Cells w A (PairK.row xs)) {i : Nat} (hi : i < xs.length) : ∃ ad, A = some ad ∧ w.cell? (ad.add (i * 2)) = some (.int .i64 xs[i].1) ∧ w.cell? ⟨(ad.add (i * 2)).block, (ad.add (i * 2)).off + 1, none⟩ = some (.int .i64 xs[i].2) := by
  obtain ⟨ad, e, hc⟩ := Rd.at_ h hi (by decide)
  exact ⟨ad, e, hc 0 _ rfl, by rw [← add_split (h := by omega)]; exact hc 1 _ rfl⟩
theorem two_of {j : Nat} (h : j ≤ 2) : j = 0 ∨ j = 1 ∨ j = 2 := by omega
set_option maxHeartbeats 1000000 in
theorem eqIntA2_same (x y : Int) (w : World) : Calls Try.prog 45 #[.agg #[.int .i64 x, .int .i64 y], .agg #[.int .i64 x, .int .i64 y]] w fun e w' => e = .returned (.bool true) ∧ Below w.heap.size w w' := by
  have HB := Lib.hid (below2 w (.cells #[.int .i64 x, .int .i64 y] 64) (.cells #[.int .i64 x, .int .i64 y] 64))
  have N1 := Lib.hid ((show BoxF (w.alloc (.cells #[.int .i64 x, .int .i64 y] 64)) w.heap.size [.int .i64 x, .int .i64 y] from BoxF.new' w _ _ _ rfl).below (below1 _ (.cells #[.int .i64 x, .int .i64 y] 64)) (by simp))
  have N2 := Lib.hid ((show BoxF ((w.alloc (.cells #[.int .i64 x, .int .i64 y] 64)).alloc (.cells #[.int .i64 x, .int .i64 y] 64)) (w.heap.size + 1) [.int .i64 x, .int .i64 y] from BoxF.new' _ _ _ _ (by simp)))
  go_enter Try.func45, Try.ntmps45
  go_wp2
  generalize ((w.alloc (.cells #[.int .i64 x, .int .i64 y] 64)).alloc (.cells #[.int .i64 x, .int .i64 y] 64)) = W at *
  go_loopw [5] (fun i wr => ∃ k : Nat, k ≤ 2 ∧ i = .int .i64 k ∧ ∃ n, wr = W.drewN n) (fun i _ => 2 - (intOf i).toNat)
  case atStart => exact ⟨0, Nat.zero_le _, rfl, 0, rfl⟩
  case round =>
    obtain ⟨k, hk, rfl, n, rfl⟩ := hrel
    have a0 : W.cell? ⟨w.heap.size, 0, none⟩ = some (.int .i64 x) := N1.out.1 0 _ rfl
    have a1 : W.cell? ⟨w.heap.size, 1, none⟩ = some (.int .i64 y) := N1.out.1 1 _ rfl
    have b0 : W.cell? ⟨w.heap.size + 1, 0, none⟩ = some (.int .i64 x) := N2.out.1 0 _ rfl
    have b1 : W.cell? ⟨w.heap.size + 1, 1, none⟩ = some (.int .i64 y) := N2.out.1 1 _ rfl
    rcases two_of hk with rfl | rfl | rfl
    · go_wp2
      go_quiet (fail)
      go_wp2
      go_roundw
      case rel => exact ⟨1, by omega, rfl, by first | exact ⟨_, rfl⟩ | exact ⟨_, World.drewN_drewN _ _ _⟩ | exact drew_ex⟩
      case measure => simp [intOf]
    · go_wp2
      go_quiet (fail)
      go_wp2
      go_roundw
      case rel => exact ⟨2, by omega, rfl, by first | exact ⟨_, rfl⟩ | exact ⟨_, World.drewN_drewN _ _ _⟩ | exact drew_ex⟩
      case measure => simp [intOf]
    · go_wp2
      go_ret
      exact ⟨rfl, HB.out.trans ((below_drewN (Below.refl _ _) n).mono HB.out.size)⟩
set_option maxHeartbeats 1000000 in
theorem eqIntA2S_same (B1 B2 : Nat) (A B : Option Addr) (c d : Nat) (xs : List (Int × Int)) (w : World) (h : Rd PairK B1 w A c xs) (h' : Rd PairK B2 w B d xs) :
    Calls Try.prog 25 #[.slice A xs.length c, .slice B xs.length d] w fun e w' => e = .returned (.bool true) ∧ Below w.heap.size w w' := by
  have ha := h.cells
  have hb := h'.cells
  have hn := h.2.2.1
  have hne : ((xs.length : Int) != (xs.length : Int)) = false := by simp
  clear h h'
  go_enter Try.func25, Try.ntmps25
  go_wp2
  go_loopw [5] (fun i wr => ∃ k : Nat, k ≤ xs.length ∧ i = .int .i64 k ∧ Below w.heap.size w wr) (fun i _ => xs.length - (intOf i).toNat)
  case atStart => exact ⟨0, Nat.zero_le _, rfl, Below.refl _ _⟩
  case round =>
    obtain ⟨k, hk, rfl, hB⟩ := hrel
    by_cases hlt : k < xs.length
    · obtain ⟨a, rfl, hc0, hc1⟩ := pair_at (ha.below hB) hlt
      obtain ⟨b, rfl, hd0, hd1⟩ := pair_at (hb.below hB) hlt
      have i1 : (k : Int) < (xs.length : Int) := by omega
      have hz := hB.size
      have HX := fun W => eqIntA2_same xs[k].1 xs[k].2 W
      have HC := Lib.hid HX
      clear ha hb HX
      go_wp2
      go_region_held3 (fun w' => Below wr.heap.size wr w' ∧ w'.cell? (a.add (k * 2)) = some (.int .i64 xs[k].1) ∧ w'.cell? ⟨(a.add (k * 2)).block, (a.add (k * 2)).off + 1, none⟩ = some (.int .i64 xs[k].2) ∧ w'.cell? (b.add (k * 2)) = some (.int .i64 xs[k].1) ∧ w'.cell? ⟨(b.add (k * 2)).block, (b.add (k * 2)).off + 1, none⟩ = some (.int .i64 xs[k].2))
        ((first | exact ⟨(Below.refl _ _).drew, hc0, hc1, hd0, hd1⟩ | (refine ⟨hb, (hb.cell (World.block_lt_of_cell? _ _ hc0)).trans hc0, (hb.cell (World.block_lt_of_cell? _ _ hc1)).trans hc1, (hb.cell (World.block_lt_of_cell? _ _ hd0)).trans hd0, (hb.cell (World.block_lt_of_cell? _ _ hd1)).trans hd1⟩)))
        (first
          | (go_at_call 45; refine (HC.out _).mono ?_; rintro e w2 ⟨rfl, hb0⟩; have hb := (below_drewN (Below.refl wr.heap.size wr) 1).trans hb0; clear hb0))
      have hB2 := Lib.hid (hB.trans (hb.mono hz))
      clear hb
      go_wp2
      go_roundw
      case rel => exact ⟨k + 1, hlt, by go_num, hB2.out⟩
      case measure => simp [intOf]; omega
    · obtain rfl : k = xs.length := by omega
      go_wp2
      go_ret
      exact ⟨rfl, hB⟩
/-- The marks of element j, from k on. -/
def markPr (k : Nat) (j : Nat) : Int × Int := (((k + 2 * j : Nat) : Int), ((k + 2 * j + 1 : Nat) : Int))
set_option maxHeartbeats 1000000 in
theorem markPr_abs' {lo hi : Nat} {A : Option Addr} {c : Nat} {xs : List (Int × Int)} {w : World} (k : Nat) (kk : Int) (hkk : kk = (k : Int)) (h : Ow PairK 64 lo hi w A c xs) (hk0 : 0 < k) (hk : k ≤ 20000000) :
    Calls Try.prog 26 #[.slice A xs.length c, .int .i64 kk] w fun e w' => e = .returned (.int .i64 (kk + 2 * xs.length)) ∧ Ow PairK 64 lo hi w' A c (mkL (markPr k) xs.length) ∧ Only lo hi w w' := by
  subst hkk
  obtain ⟨hown, hu, hn, hf⟩ := h
  obtain ⟨n, HN⟩ : ∃ n, Hid (xs.length = n) := ⟨_, rfl⟩
  have hown0 := hown
  rw [HN.out] at hown hn ⊢
  go_enter Try.func26, Try.ntmps26
  go_wp2
  go_loopw [1, 5] (fun u i wr => ∃ j : Nat, j ≤ n ∧ i = .int .i64 j ∧ u = .int .i64 ((k : Int) + 2 * j) ∧ wr.ownsRow lo 64 2 (.slice A n c) n (PairK.row (mixL (markPr k) j xs)) ∧ w.grownBy wr (Value.slice A n c).ownBlock) (fun _ i _ => n - (intOf i).toNat)
  case atStart => exact ⟨0, Nat.zero_le _, rfl, by go_num, by rw [mixL_zero]; exact hown, World.grownBy.refl _ _⟩
  case round =>
    clear hown
    obtain ⟨w1, hw1⟩ : ∃ x : World, x = wr := ⟨_, rfl⟩
    subst hw1
    obtain ⟨j, hj, rfl, rfl, hown, hg⟩ := hrel
    by_cases hlt : j < n
    · obtain ⟨g, cap, hv, hbg, hgl⟩ := hown.form (by omega)
      obtain ⟨rfl, _, rfl⟩ : A = some ⟨g, 0, none⟩ ∧ n = n ∧ c = cap := by simpa using hv
      clear hv
      have i1 : (j : Int) < (n : Int) := by omega
      obtain ⟨u0, g0⟩ := own_cell hown (j := j * 2) (by omega)
      have z0 := hown.frozenAt (j * 2)
      obtain ⟨u1, g1⟩ := own_cell hown (j := j * 2 + 1) (by omega)
      have z1 := hown.frozenAt (j * 2 + 1)
      have he : ([.int .i64 ((k : Int) + 2 * j), .int .i64 ((k : Int) + 2 * j + 1)] : List Value) = PairK.enc (markPr k j) := by
        show _ = ([.int .i64 (markPr k j).1, .int .i64 (markPr k j).2] : List Value)
        unfold markPr
        simp only [List.cons.injEq, Value.int.injEq, true_and, and_true]
        omega
      have hst : World.ownsRow _ _ _ _ _ _ (setL (PairK.row (mixL (markPr k) j xs)) (j * PairK.sz) [.int .i64 ((k : Int) + 2 * j), .int .i64 ((k : Int) + 2 * j + 1)]) := ((hown.stored (j * 2) (.int .i64 ((k : Int) + 2 * j))).1.stored (j * 2 + 1) (.int .i64 ((k : Int) + 2 * j + 1))).1
      rw [he, mixL_set PairK (by have := HN.out; omega)] at hst
      have HS := Lib.hid hst
      have HG1 := Lib.hid (grownBy_trans (grownBy_trans hg (hown.stored (j * 2) (.int .i64 ((k : Int) + 2 * j))).2) ((hown.stored (j * 2) (.int .i64 ((k : Int) + 2 * j))).1.stored (j * 2 + 1) (.int .i64 ((k : Int) + 2 * j + 1))).2)
      obtain ⟨S, HSS⟩ : ∃ S : Int, Hid ((k : Int) + 2 * j = S) := ⟨_, Lib.hid rfl⟩
      have hS1 : S ≤ 40000000 := by rw [← HSS.out]; omega
      have hS0 : 0 ≤ S := by rw [← HSS.out]; omega
      rw [HSS.out] at HS HG1
      rw [HSS.out]
      clear hst hown hg hown0 he
      go_wp2_with fail
      go_loopw [1, 6] (fun u i w2 => (u = .int .i64 S ∧ i = .int .i64 0 ∧ w2 = w1) ∨ (u = .int .i64 (S + 1) ∧ i = .int .i64 1 ∧ w2 = w1.setCell ⟨g, j * 2, none⟩ (.int .i64 S)) ∨ (u = .int .i64 (S + 1 + 1) ∧ i = .int .i64 2 ∧ w2 = (w1.setCell ⟨g, j * 2, none⟩ (.int .i64 S)).setCell ⟨g, j * 2 + 1, none⟩ (.int .i64 (S + 1)))) (fun _ i _ => 2 - (intOf i).toNat)
      case atStart => exact .inl ⟨rfl, rfl, rfl⟩
      case round =>
        rcases hrel with ⟨rfl, rfl, rfl⟩ | ⟨rfl, rfl, rfl⟩ | ⟨rfl, rfl, rfl⟩
        · go_wp2
          go_roundw
          case rel => exact .inr (.inl ⟨rfl, rfl, (by first | rfl | trivial)⟩)
          case measure => simp [intOf]
        · go_wp2
          go_roundw
          case rel => exact .inr (.inr ⟨rfl, rfl, (by first | rfl | trivial)⟩)
          case measure => simp [intOf]
        · go_wp2
          go_roundw
          case rel => exact ⟨j + 1, hlt, by go_num, by have := HSS.out; congr 1; push_cast; omega, HS.out, HG1.out⟩
          case measure => simp [intOf]; omega
    · obtain rfl : j = n := by omega
      rw [mixL_all HN.out] at hown
      have HO := Lib.hid hown
      have HG := Lib.hid hg
      clear hown hg
      go_wp2
      go_ret
      refine ⟨rfl, ⟨by rw [mkL_len]; exact HO.out, hu, by rw [mkL_len]; exact hn, fun _ _ => trivial⟩, Only.of_grown HG.out fun g hgg => ?_⟩
      rw [← HN.out] at hgg
      have hl := hown0.lt g (by exact hgg)
      refine ⟨hl.1, ?_⟩
      cases A with
      | none => simp [Value.ownBlock] at hgg
      | some a =>
        have := hu a rfl
        simp [Value.ownBlock] at hgg
        omega
set_option maxHeartbeats 1000000 in
theorem heldPr_abs' {A : Option Addr} {n c B : Nat} {w : World} (k : Nat) (kk : Int) (hkk : kk = (k : Int)) (h : Rd PairK B w A c (mkL (markPr k) n)) (hk0 : 0 < k) (hk : k ≤ 20000000) :
    Calls Try.prog 27 #[.slice A n c, .int .i64 kk] w fun e w' => e = .returned (.int .i64 (kk + 2 * n)) ∧ Below w.heap.size w w' := by
  subst hkk
  have ha := h.cells
  have hn := h.2.2.1
  rw [mkL_len] at hn
  clear h
  go_enter Try.func27, Try.ntmps27
  go_wp2
  go_loopw [1, 5] (fun u i wr => ∃ j : Nat, j ≤ n ∧ i = .int .i64 j ∧ u = .int .i64 ((k : Int) + 2 * j) ∧ wr = w) (fun _ i _ => n - (intOf i).toNat)
  case atStart => exact ⟨0, Nat.zero_le _, rfl, by go_num, rfl⟩
  case round =>
    obtain ⟨j, hj, rfl, rfl, rfl⟩ := hrel
    by_cases hlt : j < n
    · obtain ⟨a, rfl, hc0, hc1⟩ := pair_at ha (i := j) (by rw [mkL_len]; exact hlt)
      have e0 : ((mkL (markPr k) n)[j]'(by rw [mkL_len]; exact hlt)).1 = (k : Int) + 2 * j := by rw [mkL_get _ _ _ hlt]; unfold markPr; simp
      rw [e0] at hc0
      have e1 : ((mkL (markPr k) n)[j]'(by rw [mkL_len]; exact hlt)).2 = (k : Int) + 2 * j + 1 := by rw [mkL_get _ _ _ hlt]; unfold markPr; simp
      rw [e1] at hc1
      have i1 : (j : Int) < (n : Int) := by omega
      clear e0 e1
      obtain ⟨S, HSS⟩ : ∃ S : Int, Hid ((k : Int) + 2 * j = S) := ⟨_, Lib.hid rfl⟩
      have hS1 : S ≤ 40000000 := by rw [← HSS.out]; omega
      have hS0 : 0 ≤ S := by rw [← HSS.out]; omega
      rw [HSS.out] at hc0 hc1
      rw [HSS.out]
      go_wp2_with fail
      go_loopw [1, 6] (fun u i w2 => w2 = wr ∧ ((u = .int .i64 S ∧ i = .int .i64 0) ∨ (u = .int .i64 (S + 1) ∧ i = .int .i64 1) ∨ (u = .int .i64 (S + 1 + 1) ∧ i = .int .i64 2))) (fun _ i _ => 2 - (intOf i).toNat)
      case atStart => exact ⟨rfl, .inl ⟨rfl, rfl⟩⟩
      case round =>
        obtain ⟨rfl, ⟨rfl, rfl⟩ | ⟨rfl, rfl⟩ | ⟨rfl, rfl⟩⟩ := hrel
        · go_wp2
          go_roundw
          case rel => exact ⟨(by first | rfl | trivial), .inr (.inl ⟨rfl, rfl⟩)⟩
          case measure => simp [intOf]
        · go_wp2
          go_roundw
          case rel => exact ⟨(by first | rfl | trivial), .inr (.inr ⟨rfl, rfl⟩)⟩
          case measure => simp [intOf]
        · go_wp2
          go_roundw
          case rel => exact ⟨j + 1, hlt, by go_num, by have := HSS.out; congr 1; push_cast; omega, (by first | rfl | trivial)⟩
          case measure => simp [intOf]; omega
    · obtain rfl : j = n := by omega
      go_wp2
      go_ret
      exact ⟨rfl, Below.refl _ _⟩
section
variable {B B' : Nat} {w : World} {A A' : Option Addr} {c c' : Nat} {xs : List (Int × Int)}
theorem eqPr_abs (h : Rd PairK B w A c xs) (h' : Rd PairK B' w A' c' xs) : Calls Try.prog 25 #[.slice A xs.length c, .slice A' xs.length c'] w fun e w' => e = .returned (.bool true) ∧ Below w.heap.size w w' := eqIntA2S_same B B' A A' c c' xs w h h'
end
end Go.Proofs.Ythohogimhijbdaa
