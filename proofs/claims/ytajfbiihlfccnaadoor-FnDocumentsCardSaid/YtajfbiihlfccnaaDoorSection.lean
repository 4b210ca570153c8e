/- Slices of elements Section: the copies, comparisons, sizes and marks of the laws. Conditions: the ranges named. -/
import Derived.Test.YtajfbiihlfccnaaDoorStrs
namespace Go.Proofs.YtajfbiihlfccnaaDoor
open Go.RowKit
set_option linter.unusedVariables false

structure Sec where
  d : Int
  t : ByteArray
def SectionK : Kd Sec := ⟨2, fun x => [.int .i64 x.d, .string x.t], fun _ => rfl, fun x => x.t.size ≤ maxLen⟩
theorem section_at {w : World} {A : Option Addr} {xs : List Sec} (h : Cells w A (SectionK.row xs)) {i : Nat} (hi : i < xs.length) : ∃ ad, A = some ad ∧ w.cell? (ad.add (i * 2)) = some (.int .i64 xs[i].d) ∧ w.cell? ⟨(ad.add (i * 2)).block, (ad.add (i * 2)).off + 1, none⟩ = some (.string xs[i].t) := by
  obtain ⟨ad, e, hc⟩ := Rd.at_ h hi (by decide)
  exact ⟨ad, e, hc 0 _ rfl, by rw [← add_split (h := by omega)]; exact hc 1 _ rfl⟩
set_option maxHeartbeats 400000 in
theorem eqSection_same (x : Sec) (w : World) : Calls Tryd.prog 59 #[.agg #[.int .i64 x.d, .string x.t], .agg #[.int .i64 x.d, .string x.t]] w fun e w' => e = .returned (.bool true) ∧ Below w.heap.size w w' := by
  have q0 := same_yes (rfl : x.t = x.t)
  go_enter Tryd.func59, Tryd.ntmps59
  go_wp2
  go_ret
  exact ⟨rfl, by go_grown⟩
theorem infoSection : (Tryd.prog.info? 51).map (fun i => (i.zero, i.size, i.bytes)) = some (some (.agg #[.int .i64 0, .string ByteArray.empty]), 2, 24) := by kernel_rfl
set_option maxHeartbeats 1000000 in
theorem eqSectionS_same (B1 B2 : Nat) (A B : Option Addr) (c d : Nat) (xs : List Sec) (w : World) (h : Rd SectionK B1 w A c xs) (h' : Rd SectionK B2 w B d xs) :
    Calls Tryd.prog 23 #[.slice A xs.length c, .slice B xs.length d] w fun e w' => e = .returned (.bool true) ∧ Below w.heap.size w w' := by
  have ha := h.cells
  have hb := h'.cells
  have hn := h.2.2.1
  have hne : ((xs.length : Int) != (xs.length : Int)) = false := by simp
  clear h h'
  go_enter Tryd.func23, Tryd.ntmps23
  go_wp2
  go_loopw [5] (fun i wr => ∃ k : Nat, k ≤ xs.length ∧ i = .int .i64 k ∧ Below w.heap.size w wr) (fun i _ => xs.length - (intOf i).toNat)
  case atStart => exact ⟨0, Nat.zero_le _, rfl, Below.refl _ _⟩
  case round =>
    obtain ⟨k, hk, rfl, hB⟩ := hrel
    by_cases hlt : k < xs.length
    · obtain ⟨a, rfl, hc0, hc1⟩ := section_at (ha.below hB) hlt
      obtain ⟨b, rfl, hd0, hd1⟩ := section_at (hb.below hB) hlt
      have i1 : (k : Int) < (xs.length : Int) := by omega
      have hz := hB.size
      have HX := fun W => eqSection_same xs[k] W
      have HC := Lib.hid HX
      clear ha hb HX
      go_wp2
      go_region_held3 (fun w' => Below wr.heap.size wr w' ∧ w'.cell? (a.add (k * 2)) = some (.int .i64 xs[k].d) ∧ w'.cell? ⟨(a.add (k * 2)).block, (a.add (k * 2)).off + 1, none⟩ = some (.string xs[k].t) ∧ w'.cell? (b.add (k * 2)) = some (.int .i64 xs[k].d) ∧ w'.cell? ⟨(b.add (k * 2)).block, (b.add (k * 2)).off + 1, none⟩ = some (.string xs[k].t))
        ((first | exact ⟨(Below.refl _ _).drew, hc0, hc1, hd0, hd1⟩ | (refine ⟨hb, (hb.cell (World.block_lt_of_cell? _ _ hc0)).trans hc0, (hb.cell (World.block_lt_of_cell? _ _ hc1)).trans hc1, (hb.cell (World.block_lt_of_cell? _ _ hd0)).trans hd0, (hb.cell (World.block_lt_of_cell? _ _ hd1)).trans hd1⟩)))
        (first
          | (go_at_call 59; refine (HC.out _).mono ?_; rintro e w2 ⟨rfl, hb0⟩; have hb := (below_drewN (Below.refl wr.heap.size wr) 1).trans hb0; clear hb0))
      have hB2 := Lib.hid (hB.trans (hb.mono hz))
      clear hb
      go_wp2
      go_roundw
      case rel => exact ⟨k + 1, hlt, by go_num, hB2.out⟩
      case measure => simp [intOf]; omega
    · obtain rfl : k = xs.length := by omega
      go_wp2
      go_ret
      exact ⟨rfl, hB⟩
/-- The marks of element j, from k on. -/
def markSection (k : Nat) (j : Nat) : Sec := ⟨((k + 2 * j : Nat) : Int), markB (k + 2 * j + 1)⟩
set_option maxHeartbeats 1000000 in
theorem markSectionS_any (lo hi : Nat) (A : Option Addr) (c k : Nat) (kk : Int) (hkk : kk = (k : Int)) (xs : List Sec) (w : World) (h : Ow SectionK 51 lo hi w A c xs) (hk0 : 0 < k) (hk : k ≤ 20000000) :
    Calls Tryd.prog 24 #[.slice A xs.length c, .int .i64 kk] w fun e w' => e = .returned (.int .i64 (kk + 2 * xs.length)) ∧ Ow SectionK 51 lo hi w' A c (mkL (markSection k) xs.length) ∧ Only lo hi w w' ∧ w.grownBy w' (Value.slice A xs.length c).ownBlock := by
  subst hkk
  obtain ⟨hown, hu, hn, hf⟩ := h
  obtain ⟨n, HN⟩ : ∃ n, Hid (xs.length = n) := ⟨_, rfl⟩
  have hown0 := hown
  rw [HN.out] at hown hn ⊢
  go_enter Tryd.func24, Tryd.ntmps24
  go_wp2
  go_loopw [1, 5] (fun u i wr => ∃ j : Nat, j ≤ n ∧ i = .int .i64 j ∧ u = .int .i64 ((k : Int) + 2 * j) ∧ wr.ownsRow lo 51 2 (.slice A n c) n (SectionK.row (mixL (markSection k) j xs)) ∧ w.grownBy wr (Value.slice A n c).ownBlock) (fun _ i _ => n - (intOf i).toNat)
  case atStart => exact ⟨0, Nat.zero_le _, rfl, by go_num, by rw [mixL_zero]; exact hown, World.grownBy.refl _ _⟩
  case round =>
    clear hown
    obtain ⟨j, hj, rfl, rfl, hown, hg⟩ := hrel
    by_cases hlt : j < n
    · obtain ⟨g, cap, hv, hbg, hgl⟩ := hown.form (by omega)
      obtain ⟨rfl, _, rfl⟩ : A = some ⟨g, 0, none⟩ ∧ n = n ∧ c = cap := by simpa using hv
      clear hv
      have i1 : (j : Int) < (n : Int) := by omega
      obtain ⟨u0, g0⟩ := own_cell hown (j := j * 2) (by omega)
      have z0 := hown.frozenAt (j * 2)
      have he : ([.int .i64 ((k : Int) + 2 * j), .string (markB (k + 2 * j + 1))] : List Value) = SectionK.enc (markSection k j) := by
        show _ = ([.int .i64 (markSection k j).d, .string (markSection k j).t] : List Value)
        unfold markSection
        simp only [List.cons.injEq, Value.int.injEq, true_and, and_true]
        omega
      have HW1 := Lib.hid (hown.stored (j * 2) (.int .i64 ((k : Int) + 2 * j))).1
      have HW2 := Lib.hid (grownBy_trans hg (hown.stored (j * 2) (.int .i64 ((k : Int) + 2 * j))).2)
      have HE := Lib.hid he
      have HM := Lib.hid (show j < xs.length by have := HN.out; omega)
      have hC := fun W => markText_any (k + 2 * j + 1) W (by omega) (by omega)
      rw [show (((k + 2 * j + 1 : Nat)) : Int) = (k : Int) + 2 * j + 1 by omega] at hC
      have HC := Lib.hid hC
      clear hown hg hown0 he hC
      go_wp2_with (go_at_call 60; refine (HC.out _).mono ?_; rintro e w1 ⟨rfl, hb⟩; have hown1 := HW1.out.kept (grownBy_of_below hb none) (.inr (by simp [Value.ownBlock])); have hg1 := grownBy_trans HW2.out (grownBy_of_below hb _); clear hb; obtain ⟨u1, g1⟩ := own_cell hown1 (j := j * 2 + 1) (by omega); have z1 := hown1.frozenAt (j * 2 + 1); have hst : World.ownsRow _ _ _ _ _ _ (setL (SectionK.row (mixL (markSection k) j xs)) (j * SectionK.sz) [.int .i64 ((k : Int) + 2 * j), .string (markB (k + 2 * j + 1))]) := (hown1.stored (j * 2 + 1) (.string (markB (k + 2 * j + 1)))).1; rw [HE.out, mixL_set SectionK HM.out] at hst; have HS := Lib.hid hst; have HG1 := Lib.hid (grownBy_trans hg1 (hown1.stored (j * 2 + 1) (.string (markB (k + 2 * j + 1)))).2); clear hst hown1 hg1)
      go_roundw
      case rel => exact ⟨j + 1, hlt, by go_num, by go_num, HS.out, HG1.out⟩
      case measure => simp [intOf]; omega
    · obtain rfl : j = n := by omega
      rw [mixL_all HN.out] at hown
      have HO := Lib.hid hown
      have HG := Lib.hid hg
      clear hown hg
      go_wp2
      go_ret
      refine ⟨rfl, ⟨by rw [mkL_len]; exact HO.out, hu, by rw [mkL_len]; exact hn, fun x hx => by obtain ⟨i, hi, rfl⟩ := mkL_mem hx; exact markB_size _ (by omega)⟩, Only.of_grown HG.out fun g hgg => ?_, HG.out⟩
      rw [← HN.out] at hgg
      have hl := hown0.lt g (by exact hgg)
      refine ⟨hl.1, ?_⟩
      cases A with
      | none => simp [Value.ownBlock] at hgg
      | some a =>
        have := hu a rfl
        simp [Value.ownBlock] at hgg
        omega
def szSection (xs : List Sec) (left : Int) : Int := szF (xs.map (·.t)) left
end Go.Proofs.YtajfbiihlfccnaaDoor
