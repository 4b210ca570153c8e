/- Slices of elements Section: the copies, comparisons, sizes and marks of the laws. Conditions: the ranges named. -/
import Derived.Test.YtfncfaamdedmjaaDoorStrs
namespace Go.Proofs.YtfncfaamdedmjaaDoor
open Go.RowKit
set_option linter.unusedVariables false

structure Sec where
  d : Int
  t : ByteArray
def SectionK : Kd Sec := ⟨2, fun x => [.int .i64 x.d, .string x.t], fun _ => rfl, fun x => x.t.size ≤ maxLen⟩
theorem section_at {w : World} {A : Option Addr} {xs : List Sec} (h : Cells w A (SectionK.row xs)) {i : Nat} (hi : i < xs.length) : ∃ ad, A = some ad ∧ w.cell? (ad.add (i * 2)) = some (.int .i64 xs[i].d) ∧ w.cell? ⟨(ad.add (i * 2)).block, (ad.add (i * 2)).off + 1, none⟩ = some (.string xs[i].t) := by
  obtain ⟨ad, e, hc⟩ := Rd.at_ h hi (by decide)
  exact ⟨ad, e, hc 0 _ rfl, by rw [← add_split (h := by omega)]; exact hc 1 _ rfl⟩
theorem toSection_any (x : Sec) (w : World) : Calls Tryd.prog 28 #[.agg #[.int .i64 x.d, .string x.t]] w fun e w' => e = .returned (.agg #[.int .i64 x.d, .string x.t]) ∧ Below w.heap.size w w' := by
  go_enter Tryd.func28, Tryd.ntmps28
  go_wp2
  refine bodyPost_ret (v := .agg #[.int .i64 x.d, .string x.t]) (by simp [results, Tryd.results28, go_sem]) rfl ⟨rfl, ?_⟩
  go_grown
set_option maxHeartbeats 400000 in
theorem eqSection_same (x : Sec) (w : World) : Calls Tryd.prog 31 #[.agg #[.int .i64 x.d, .string x.t], .agg #[.int .i64 x.d, .string x.t]] w fun e w' => e = .returned (.bool true) ∧ Below w.heap.size w w' := by
  have q0 := same_yes (rfl : x.t = x.t)
  go_enter Tryd.func31, Tryd.ntmps31
  go_wp2
  go_ret
  exact ⟨rfl, by go_grown⟩
theorem infoSection : (Tryd.prog.info? 52).map (fun i => (i.zero, i.size, i.bytes)) = some (some (.agg #[.int .i64 0, .string ByteArray.empty]), 2, 24) := by kernel_rfl
set_option maxHeartbeats 1000000 in
theorem toSectionS_any (A : Option Addr) (c : Nat) (xs : List Sec) (w : World) (ha : Cells w A (SectionK.row xs)) (hn : xs.length ≤ 1048576) (hf : ∀ x ∈ xs, SectionK.fit x) :
    Calls Tryd.prog 13 #[.slice A xs.length c] w (ToL SectionK 52 w xs) := by
  obtain ⟨i0, hi, hz0, hz1, hz2⟩ := info_parts infoSection
  go_enter Tryd.func13, Tryd.ntmps13
  go_wp2_with (at_make; refine wpList_make_full _ rfl (.tmp 6) (.tmp 6) 36 rfl w.heap.size 52 i0 _ 2 Tryd.underlying36 hi hz0 hz1 .i64 .i64 _ _ xs.length rfl rfl rfl rfl (by rw [hz2]; omega) (by unfold maxLen; omega) (Nat.le_refl _) ?_; intro w1 hown hgrow; rw [show (Value.agg #[.int .i64 0, .string ByteArray.empty]).cells = #[.int .i64 0, .string ByteArray.empty] from rfl, show xs.length * 2 = xs.length * (#[.int .i64 0, .string ByteArray.empty] : Array Value).size from rfl, made_row _ _ (by simp), ← SectionK.part_zero] at hown)
  have hB1 : Below w.heap.size w w1 := (Below.refl _ _).grown hgrow (Nat.le_refl _) (by simp)
  have HO1 := Lib.hid hown
  clear hgrow hown
  go_loopw [4] (fun i wr => ∃ k : Nat, k ≤ xs.length ∧ i = .int .i64 k ∧ wr.ownsRow w.heap.size 52 2 (.slice (some ⟨w.heap.size, 0, none⟩) xs.length xs.length) xs.length (SectionK.part [.int .i64 0, .string ByteArray.empty] xs k) ∧ Below w.heap.size w wr) (fun i _ => xs.length - (intOf i).toNat)
  case atStart => exact ⟨0, Nat.zero_le _, rfl, HO1.out, hB1⟩
  case round =>
    clear hB1
    obtain ⟨k, hk, rfl, hown, hB⟩ := hrel
    by_cases hlt : k < xs.length
    · obtain ⟨a, rfl, hc0, hc1⟩ := section_at (ha.below hB) hlt
      have i1 : (k : Int) < (xs.length : Int) := by omega
      have HO := Lib.hid hown
      have HBB := Lib.hid hB
      have hzz := hB.size
      clear hown hB
      go_wp2_with fail
      refine (toSection_any xs[k] wr).mono ?_
      rintro e w2 ⟨rfl, hb⟩
      have hown := own_keep HO.out hb
      have hB2 := after HBB.out hb
      obtain ⟨u0, g0⟩ := own_cell hown (j := k * 2) (by omega)
      have z0 := hown.frozenAt (k * 2)
      obtain ⟨u1, g1⟩ := own_cell hown (j := k * 2 + 1) (by omega)
      have z1 := hown.frozenAt (k * 2 + 1)
      have hst : World.ownsRow _ _ _ _ _ _ (setL (SectionK.part [.int .i64 0, .string ByteArray.empty] xs k) (k * SectionK.sz) (SectionK.enc xs[k])) := ((hown.stored (k * 2) (.int .i64 xs[k].d)).1.stored (k * 2 + 1) (.string xs[k].t)).1
      rw [SectionK.part_set (by rfl) hlt] at hst
      have HS := Lib.hid hst
      have HB := Lib.hid ((hB2.setCell (p := ⟨w.heap.size, k * 2, none⟩) (Nat.le_refl _) (.int .i64 xs[k].d)).setCell (p := ⟨w.heap.size, k * 2 + 1, none⟩) (Nat.le_refl _) (.string xs[k].t))
      clear hst hB2 hown hb
      go_wp2
      go_roundw
      case rel => exact ⟨k + 1, hlt, by go_num, HS.out, HB.out⟩
      case measure => simp [intOf]; omega
    · obtain rfl : k = xs.length := by omega
      rw [SectionK.part_all] at hown
      have HS := Lib.hid hown
      clear hown
      go_wp2
      go_ret
      exact ⟨_, _, rfl, Ow.mk HS.out hn hf, hB⟩
set_option maxHeartbeats 1000000 in
theorem eqSectionS_same (B1 B2 : Nat) (A B : Option Addr) (c d : Nat) (xs : List Sec) (w : World) (h : Rd SectionK B1 w A c xs) (h' : Rd SectionK B2 w B d xs) :
    Calls Tryd.prog 15 #[.slice A xs.length c, .slice B xs.length d] w fun e w' => e = .returned (.bool true) ∧ Below w.heap.size w w' := by
  have ha := h.cells
  have hb := h'.cells
  have hn := h.2.2.1
  have hne : ((xs.length : Int) != (xs.length : Int)) = false := by simp
  clear h h'
  go_enter Tryd.func15, Tryd.ntmps15
  go_wp2
  go_loopw [5] (fun i wr => ∃ k : Nat, k ≤ xs.length ∧ i = .int .i64 k ∧ Below w.heap.size w wr) (fun i _ => xs.length - (intOf i).toNat)
  case atStart => exact ⟨0, Nat.zero_le _, rfl, Below.refl _ _⟩
  case round =>
    obtain ⟨k, hk, rfl, hB⟩ := hrel
    by_cases hlt : k < xs.length
    · obtain ⟨a, rfl, hc0, hc1⟩ := section_at (ha.below hB) hlt
      obtain ⟨b, rfl, hd0, hd1⟩ := section_at (hb.below hB) hlt
      have i1 : (k : Int) < (xs.length : Int) := by omega
      have hz := hB.size
      have HX := fun W => eqSection_same xs[k] W
      have HC := Lib.hid HX
      clear ha hb HX
      go_wp2
      go_region_held3 (fun w' => Below wr.heap.size wr w' ∧ w'.cell? (a.add (k * 2)) = some (.int .i64 xs[k].d) ∧ w'.cell? ⟨(a.add (k * 2)).block, (a.add (k * 2)).off + 1, none⟩ = some (.string xs[k].t) ∧ w'.cell? (b.add (k * 2)) = some (.int .i64 xs[k].d) ∧ w'.cell? ⟨(b.add (k * 2)).block, (b.add (k * 2)).off + 1, none⟩ = some (.string xs[k].t))
        ((first | exact ⟨(Below.refl _ _).drew, hc0, hc1, hd0, hd1⟩ | (refine ⟨hb, (hb.cell (World.block_lt_of_cell? _ _ hc0)).trans hc0, (hb.cell (World.block_lt_of_cell? _ _ hc1)).trans hc1, (hb.cell (World.block_lt_of_cell? _ _ hd0)).trans hd0, (hb.cell (World.block_lt_of_cell? _ _ hd1)).trans hd1⟩)))
        (first
          | (go_at_call 31; refine (HC.out _).mono ?_; rintro e w2 ⟨rfl, hb0⟩; have hb := (below_drewN (Below.refl wr.heap.size wr) 1).trans hb0; clear hb0))
      have hB2 := Lib.hid (hB.trans (hb.mono hz))
      clear hb
      go_wp2
      go_roundw
      case rel => exact ⟨k + 1, hlt, by go_num, hB2.out⟩
      case measure => simp [intOf]; omega
    · obtain rfl : k = xs.length := by omega
      go_wp2
      go_ret
      exact ⟨rfl, hB⟩
def szSection (xs : List Sec) (left : Int) : Int := szF (xs.map (·.t)) left
theorem szSection1_any (x : Sec) (left : Int) (w : World) (hf : x.t.size ≤ maxLen) (h0 : 0 ≤ left) (h1 : left ≤ 1048576) : Calls Tryd.prog 25 #[.agg #[.int .i64 x.d, .string x.t], .int .i64 left] w fun e w' => e = .returned (.int .i64 (if left - (x.t.size : Int) < 0 then -1 else left - (x.t.size : Int))) ∧ Below w.heap.size w w' := by
  unfold maxLen at hf
  by_cases hl : left - (x.t.size : Int) < 0
  · go_enter Tryd.func25, Tryd.ntmps25
    go_wp2
    go_ret
    exact ⟨ret_int (by simp), by go_grown⟩
  · go_enter Tryd.func25, Tryd.ntmps25
    go_wp2
    go_ret
    exact ⟨ret_int (by simp), by go_grown⟩
set_option maxHeartbeats 400000 in
theorem szSectionS_any (A : Option Addr) (c : Nat) (xs : List Sec) (left : Int) (w : World) (ha : Cells w A (SectionK.row xs)) (hn : xs.length ≤ maxLen) (hf : ∀ x ∈ xs, SectionK.fit x) (h0 : 0 ≤ left) (h1 : left ≤ 1048576) :
    Calls Tryd.prog 11 #[.slice A xs.length c, .int .i64 left] w fun e w' => e = .returned (.int .i64 (szSection xs left)) ∧ Below w.heap.size w w' := by
  unfold maxLen at hn
  by_cases hl : left - (xs.length : Int) < 0
  · have HR := Lib.hid (show szSection xs left = -1 by unfold szSection szF; rw [if_pos (by rw [List.length_map]; omega)])
    go_enter Tryd.func11, Tryd.ntmps11
    go_wp2
    go_ret
    exact ⟨ret_int HR.out.symm, Below.refl _ _⟩
  · go_enter Tryd.func11, Tryd.ntmps11
    go_wp2
    go_loopw [1, 5] (fun l i wr => ∃ k : Nat, k ≤ xs.length ∧ i = .int .i64 k ∧ 0 ≤ left - (xs.length : Int) - (szAll ((xs.map (·.t)).take k) : Int) ∧ l = .int .i64 (left - (xs.length : Int) - (szAll ((xs.map (·.t)).take k) : Int)) ∧ Below w.heap.size w wr) (fun _ i _ => xs.length - (intOf i).toNat)
    case atStart => exact ⟨0, Nat.zero_le _, rfl, by simp [szAll]; omega, by simp [szAll], Below.refl _ _⟩
    case round =>
      obtain ⟨k, hk, rfl, hnn, rfl, hB⟩ := hrel
      by_cases hlt : k < xs.length
      · obtain ⟨a, rfl, hc0, hc1⟩ := section_at (ha.below hB) hlt
        have i1 : (k : Int) < (xs.length : Int) := by omega
        have hfk := hf _ (List.getElem_mem hlt)
        obtain ⟨S, hS⟩ : ∃ S : Int, Hid (left - (xs.length : Int) - (szAll ((xs.map (·.t)).take k) : Int) = S) := ⟨_, Lib.hid rfl⟩
        have HT := Lib.hid (show szAll ((xs.map (·.t)).take (k + 1)) = szAll ((xs.map (·.t)).take k) + xs[k].t.size by rw [List.take_succ_eq_append_getElem (by simpa using hlt), szAll_snoc]; simp)
        have hS0 : 0 ≤ S := by rw [← hS.out]; exact hnn
        have hS1 : S ≤ 1048576 := by rw [← hS.out]; omega
        have HB := Lib.hid hB
        rw [hS.out]
        clear hnn hB
        by_cases hneg : S - (xs[k].t.size : Int) < 0
        · have HR := Lib.hid (show szSection xs left = -1 by unfold szSection szF; rw [if_pos (by have h1 := HT.out; have h2 := szAll_take_le (xs.map (·.t)) (k + 1); have h3 := hS.out; rw [List.length_map]; omega)])
          go_wp2_with (go_at_call 25; refine (szSection1_any xs[k] S _ hfk hS0 hS1).mono ?_; rintro e w1 ⟨rfl, hb⟩; rw [if_pos hneg]; have HB1 := Lib.hid (after HB.out hb); clear hb)
          go_ret
          exact ⟨ret_int HR.out.symm, HB1.out⟩
        · go_wp2_with (go_at_call 25; refine (szSection1_any xs[k] S _ hfk hS0 hS1).mono ?_; rintro e w1 ⟨rfl, hb⟩; rw [if_neg hneg]; have HB1 := Lib.hid (after HB.out hb); clear hb)
          go_roundw
          case rel => exact ⟨k + 1, hlt, by go_num, by rw [HT.out]; have := hS.out; omega, by rw [HT.out]; have := hS.out; congr 1; omega, HB1.out⟩
          case measure => simp [intOf]; omega
      · obtain rfl : k = xs.length := by omega
        have HR := Lib.hid (show szSection xs left = left - (xs.length : Int) - (szAll ((xs.map (·.t)).take xs.length) : Int) by
          have h2 : (xs.map (·.t)).take xs.length = xs.map (·.t) := List.take_of_length_le (by simp)
          rw [h2] at hnn ⊢
          unfold szSection szF; rw [List.length_map, if_neg (by omega)])
        go_wp2
        go_ret
        exact ⟨ret_int HR.out.symm, hB⟩
end Go.Proofs.YtfncfaamdedmjaaDoor
