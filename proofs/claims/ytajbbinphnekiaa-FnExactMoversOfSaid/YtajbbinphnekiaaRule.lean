/- Slices of elements Rule: the copies, comparisons, sizes and marks of the laws. Conditions: the ranges named. -/
import Derived.Test.YtajbbinphnekiaaStrs
namespace Go.Proofs.Ytajbbinphnekiaa
open Go.RowKit
set_option linter.unusedVariables false

structure Rul where
  id : Int
  nm : ByteArray
  rk : Int
  sc : Bool
  db : Bool
  am : Bool
  nd : Int
def RuleK : Kd Rul := ⟨7, fun x => [.int .i64 x.id, .string x.nm, .int .i64 x.rk, .bool x.sc, .bool x.db, .bool x.am, .int .i64 x.nd], fun _ => rfl, fun x => x.nm.size ≤ maxLen⟩
theorem rule_at {w : World} {A : Option Addr} {xs : List Rul} (h : Cells w A (RuleK.row xs)) {i : Nat} (hi : i < xs.length) : ∃ ad, A = some ad ∧ w.cell? (ad.add (i * 7)) = some (.int .i64 xs[i].id) ∧ w.cell? ⟨(ad.add (i * 7)).block, (ad.add (i * 7)).off + 1, none⟩ = some (.string xs[i].nm) ∧ w.cell? ⟨(ad.add (i * 7)).block, (ad.add (i * 7)).off + 2, none⟩ = some (.int .i64 xs[i].rk) ∧ w.cell? ⟨(ad.add (i * 7)).block, (ad.add (i * 7)).off + 3, none⟩ = some (.bool xs[i].sc) ∧ w.cell? ⟨(ad.add (i * 7)).block, (ad.add (i * 7)).off + 4, none⟩ = some (.bool xs[i].db) ∧ w.cell? ⟨(ad.add (i * 7)).block, (ad.add (i * 7)).off + 5, none⟩ = some (.bool xs[i].am) ∧ w.cell? ⟨(ad.add (i * 7)).block, (ad.add (i * 7)).off + 6, none⟩ = some (.int .i64 xs[i].nd) := by
  obtain ⟨ad, e, hc⟩ := Rd.at_ h hi (by decide)
  exact ⟨ad, e, hc 0 _ rfl, by rw [← add_split (h := by omega)]; exact hc 1 _ rfl, by rw [← add_split (h := by omega)]; exact hc 2 _ rfl, by rw [← add_split (h := by omega)]; exact hc 3 _ rfl, by rw [← add_split (h := by omega)]; exact hc 4 _ rfl, by rw [← add_split (h := by omega)]; exact hc 5 _ rfl, by rw [← add_split (h := by omega)]; exact hc 6 _ rfl⟩
theorem toRule_any (x : Rul) (w : World) : Calls Try.prog 76 #[.agg #[.int .i64 x.id, .string x.nm, .int .i64 x.rk, .bool x.sc, .bool x.db, .bool x.am, .int .i64 x.nd]] w fun e w' => e = .returned (.agg #[.int .i64 x.id, .string x.nm, .int .i64 x.rk, .bool x.sc, .bool x.db, .bool x.am, .int .i64 x.nd]) ∧ Below w.heap.size w w' := by
  go_enter Try.func76, Try.ntmps76
  go_wp2
  refine bodyPost_ret (v := .agg #[.int .i64 x.id, .string x.nm, .int .i64 x.rk, .bool x.sc, .bool x.db, .bool x.am, .int .i64 x.nd]) (by simp [results, Try.results76, go_sem]) rfl ⟨rfl, ?_⟩
  go_grown
set_option maxHeartbeats 400000 in
theorem eqRule_same (x : Rul) (w : World) : Calls Try.prog 83 #[.agg #[.int .i64 x.id, .string x.nm, .int .i64 x.rk, .bool x.sc, .bool x.db, .bool x.am, .int .i64 x.nd], .agg #[.int .i64 x.id, .string x.nm, .int .i64 x.rk, .bool x.sc, .bool x.db, .bool x.am, .int .i64 x.nd]] w fun e w' => e = .returned (.bool true) ∧ Below w.heap.size w w' := by
  have q0 := same_yes (rfl : x.nm = x.nm)
  go_enter Try.func83, Try.ntmps83
  go_wp2
  go_ret
  exact ⟨rfl, by go_grown⟩
theorem infoRule : (Try.prog.info? 67).map (fun i => (i.zero, i.size, i.bytes)) = some (some (.agg #[.int .i64 0, .string ByteArray.empty, .int .i64 0, .bool false, .bool false, .bool false, .int .i64 0]), 7, 48) := by kernel_rfl
set_option maxHeartbeats 1000000 in
theorem toRuleS_any (A : Option Addr) (c : Nat) (xs : List Rul) (w : World) (ha : Cells w A (RuleK.row xs)) (hn : xs.length ≤ 1048576) (hf : ∀ x ∈ xs, RuleK.fit x) :
    Calls Try.prog 18 #[.slice A xs.length c] w (ToL RuleK 67 w xs) := by
  obtain ⟨i0, hi, hz0, hz1, hz2⟩ := info_parts infoRule
  go_enter Try.func18, Try.ntmps18
  go_wp2_with (at_make; refine wpList_make_full _ rfl (.tmp 6) (.tmp 6) 27 rfl w.heap.size 67 i0 _ 7 Try.underlying27 hi hz0 hz1 .i64 .i64 _ _ xs.length rfl rfl rfl rfl (by rw [hz2]; omega) (by unfold maxLen; omega) (Nat.le_refl _) ?_; intro w1 hown hgrow; rw [show (Value.agg #[.int .i64 0, .string ByteArray.empty, .int .i64 0, .bool false, .bool false, .bool false, .int .i64 0]).cells = #[.int .i64 0, .string ByteArray.empty, .int .i64 0, .bool false, .bool false, .bool false, .int .i64 0] from rfl, show xs.length * 7 = xs.length * (#[.int .i64 0, .string ByteArray.empty, .int .i64 0, .bool false, .bool false, .bool false, .int .i64 0] : Array Value).size from rfl, made_row _ _ (by simp), ← RuleK.part_zero] at hown)
  have hB1 : Below w.heap.size w w1 := (Below.refl _ _).grown hgrow (Nat.le_refl _) (by simp)
  have HO1 := Lib.hid hown
  clear hgrow hown
  go_loopw [4] (fun i wr => ∃ k : Nat, k ≤ xs.length ∧ i = .int .i64 k ∧ wr.ownsRow w.heap.size 67 7 (.slice (some ⟨w.heap.size, 0, none⟩) xs.length xs.length) xs.length (RuleK.part [.int .i64 0, .string ByteArray.empty, .int .i64 0, .bool false, .bool false, .bool false, .int .i64 0] xs k) ∧ Below w.heap.size w wr) (fun i _ => xs.length - (intOf i).toNat)
  case atStart => exact ⟨0, Nat.zero_le _, rfl, HO1.out, hB1⟩
  case round =>
    clear hB1
    obtain ⟨k, hk, rfl, hown, hB⟩ := hrel
    by_cases hlt : k < xs.length
    · obtain ⟨a, rfl, hc0, hc1, hc2, hc3, hc4, hc5, hc6⟩ := rule_at (ha.below hB) hlt
      have i1 : (k : Int) < (xs.length : Int) := by omega
      have HO := Lib.hid hown
      have HBB := Lib.hid hB
      have hzz := hB.size
      clear hown hB
      go_wp2_with fail
      refine (toRule_any xs[k] wr).mono ?_
      rintro e w2 ⟨rfl, hb⟩
      have hown := own_keep HO.out hb
      have hB2 := after HBB.out hb
      obtain ⟨u0, g0⟩ := own_cell hown (j := k * 7) (by omega)
      have z0 := hown.frozenAt (k * 7)
      obtain ⟨u1, g1⟩ := own_cell hown (j := k * 7 + 1) (by omega)
      have z1 := hown.frozenAt (k * 7 + 1)
      obtain ⟨u2, g2⟩ := own_cell hown (j := k * 7 + 2) (by omega)
      have z2 := hown.frozenAt (k * 7 + 2)
      obtain ⟨u3, g3⟩ := own_cell hown (j := k * 7 + 3) (by omega)
      have z3 := hown.frozenAt (k * 7 + 3)
      obtain ⟨u4, g4⟩ := own_cell hown (j := k * 7 + 4) (by omega)
      have z4 := hown.frozenAt (k * 7 + 4)
      obtain ⟨u5, g5⟩ := own_cell hown (j := k * 7 + 5) (by omega)
      have z5 := hown.frozenAt (k * 7 + 5)
      obtain ⟨u6, g6⟩ := own_cell hown (j := k * 7 + 6) (by omega)
      have z6 := hown.frozenAt (k * 7 + 6)
      have hst : World.ownsRow _ _ _ _ _ _ (setL (RuleK.part [.int .i64 0, .string ByteArray.empty, .int .i64 0, .bool false, .bool false, .bool false, .int .i64 0] xs k) (k * RuleK.sz) (RuleK.enc xs[k])) := (((((((hown.stored (k * 7) (.int .i64 xs[k].id)).1.stored (k * 7 + 1) (.string xs[k].nm)).1.stored (k * 7 + 2) (.int .i64 xs[k].rk)).1.stored (k * 7 + 3) (.bool xs[k].sc)).1.stored (k * 7 + 4) (.bool xs[k].db)).1.stored (k * 7 + 5) (.bool xs[k].am)).1.stored (k * 7 + 6) (.int .i64 xs[k].nd)).1
      rw [RuleK.part_set (by rfl) hlt] at hst
      have HS := Lib.hid hst
      have HB := Lib.hid (((((((hB2.setCell (p := ⟨w.heap.size, k * 7, none⟩) (Nat.le_refl _) (.int .i64 xs[k].id)).setCell (p := ⟨w.heap.size, k * 7 + 1, none⟩) (Nat.le_refl _) (.string xs[k].nm)).setCell (p := ⟨w.heap.size, k * 7 + 2, none⟩) (Nat.le_refl _) (.int .i64 xs[k].rk)).setCell (p := ⟨w.heap.size, k * 7 + 3, none⟩) (Nat.le_refl _) (.bool xs[k].sc)).setCell (p := ⟨w.heap.size, k * 7 + 4, none⟩) (Nat.le_refl _) (.bool xs[k].db)).setCell (p := ⟨w.heap.size, k * 7 + 5, none⟩) (Nat.le_refl _) (.bool xs[k].am)).setCell (p := ⟨w.heap.size, k * 7 + 6, none⟩) (Nat.le_refl _) (.int .i64 xs[k].nd))
      clear hst hB2 hown hb
      go_wp2
      go_roundw
      case rel => exact ⟨k + 1, hlt, by go_num, HS.out, HB.out⟩
      case measure => simp [intOf]; omega
    · obtain rfl : k = xs.length := by omega
      rw [RuleK.part_all] at hown
      have HS := Lib.hid hown
      clear hown
      go_wp2
      go_ret
      exact ⟨_, _, rfl, Ow.mk HS.out hn hf, hB⟩
set_option maxHeartbeats 1000000 in
theorem eqRuleS_same (B1 B2 : Nat) (A B : Option Addr) (c d : Nat) (xs : List Rul) (w : World) (h : Rd RuleK B1 w A c xs) (h' : Rd RuleK B2 w B d xs) :
    Calls Try.prog 21 #[.slice A xs.length c, .slice B xs.length d] w fun e w' => e = .returned (.bool true) ∧ Below w.heap.size w w' := by
  have ha := h.cells
  have hb := h'.cells
  have hn := h.2.2.1
  have hne : ((xs.length : Int) != (xs.length : Int)) = false := by simp
  clear h h'
  go_enter Try.func21, Try.ntmps21
  go_wp2
  go_loopw [5] (fun i wr => ∃ k : Nat, k ≤ xs.length ∧ i = .int .i64 k ∧ Below w.heap.size w wr) (fun i _ => xs.length - (intOf i).toNat)
  case atStart => exact ⟨0, Nat.zero_le _, rfl, Below.refl _ _⟩
  case round =>
    obtain ⟨k, hk, rfl, hB⟩ := hrel
    by_cases hlt : k < xs.length
    · obtain ⟨a, rfl, hc0, hc1, hc2, hc3, hc4, hc5, hc6⟩ := rule_at (ha.below hB) hlt
      obtain ⟨b, rfl, hd0, hd1, hd2, hd3, hd4, hd5, hd6⟩ := rule_at (hb.below hB) hlt
      have i1 : (k : Int) < (xs.length : Int) := by omega
      have hz := hB.size
      have HX := fun W => eqRule_same xs[k] W
      have HC := Lib.hid HX
      clear ha hb HX
      go_wp2
      go_region_held3 (fun w' => Below wr.heap.size wr w' ∧ w'.cell? (a.add (k * 7)) = some (.int .i64 xs[k].id) ∧ w'.cell? ⟨(a.add (k * 7)).block, (a.add (k * 7)).off + 1, none⟩ = some (.string xs[k].nm) ∧ w'.cell? ⟨(a.add (k * 7)).block, (a.add (k * 7)).off + 2, none⟩ = some (.int .i64 xs[k].rk) ∧ w'.cell? ⟨(a.add (k * 7)).block, (a.add (k * 7)).off + 3, none⟩ = some (.bool xs[k].sc) ∧ w'.cell? ⟨(a.add (k * 7)).block, (a.add (k * 7)).off + 4, none⟩ = some (.bool xs[k].db) ∧ w'.cell? ⟨(a.add (k * 7)).block, (a.add (k * 7)).off + 5, none⟩ = some (.bool xs[k].am) ∧ w'.cell? ⟨(a.add (k * 7)).block, (a.add (k * 7)).off + 6, none⟩ = some (.int .i64 xs[k].nd) ∧ w'.cell? (b.add (k * 7)) = some (.int .i64 xs[k].id) ∧ w'.cell? ⟨(b.add (k * 7)).block, (b.add (k * 7)).off + 1, none⟩ = some (.string xs[k].nm) ∧ w'.cell? ⟨(b.add (k * 7)).block, (b.add (k * 7)).off + 2, none⟩ = some (.int .i64 xs[k].rk) ∧ w'.cell? ⟨(b.add (k * 7)).block, (b.add (k * 7)).off + 3, none⟩ = some (.bool xs[k].sc) ∧ w'.cell? ⟨(b.add (k * 7)).block, (b.add (k * 7)).off + 4, none⟩ = some (.bool xs[k].db) ∧ w'.cell? ⟨(b.add (k * 7)).block, (b.add (k * 7)).off + 5, none⟩ = some (.bool xs[k].am) ∧ w'.cell? ⟨(b.add (k * 7)).block, (b.add (k * 7)).off + 6, none⟩ = some (.int .i64 xs[k].nd))
        ((first | exact ⟨(Below.refl _ _).drew, hc0, hc1, hc2, hc3, hc4, hc5, hc6, hd0, hd1, hd2, hd3, hd4, hd5, hd6⟩ | (refine ⟨hb, (hb.cell (World.block_lt_of_cell? _ _ hc0)).trans hc0, (hb.cell (World.block_lt_of_cell? _ _ hc1)).trans hc1, (hb.cell (World.block_lt_of_cell? _ _ hc2)).trans hc2, (hb.cell (World.block_lt_of_cell? _ _ hc3)).trans hc3, (hb.cell (World.block_lt_of_cell? _ _ hc4)).trans hc4, (hb.cell (World.block_lt_of_cell? _ _ hc5)).trans hc5, (hb.cell (World.block_lt_of_cell? _ _ hc6)).trans hc6, (hb.cell (World.block_lt_of_cell? _ _ hd0)).trans hd0, (hb.cell (World.block_lt_of_cell? _ _ hd1)).trans hd1, (hb.cell (World.block_lt_of_cell? _ _ hd2)).trans hd2, (hb.cell (World.block_lt_of_cell? _ _ hd3)).trans hd3, (hb.cell (World.block_lt_of_cell? _ _ hd4)).trans hd4, (hb.cell (World.block_lt_of_cell? _ _ hd5)).trans hd5, (hb.cell (World.block_lt_of_cell? _ _ hd6)).trans hd6⟩)))
        (first
          | (go_at_call 83; refine (HC.out _).mono ?_; rintro e w2 ⟨rfl, hb0⟩; have hb := (below_drewN (Below.refl wr.heap.size wr) 1).trans hb0; clear hb0))
      have hB2 := Lib.hid (hB.trans (hb.mono hz))
      clear hb
      go_wp2
      go_roundw
      case rel => exact ⟨k + 1, hlt, by go_num, hB2.out⟩
      case measure => simp [intOf]; omega
    · obtain rfl : k = xs.length := by omega
      go_wp2
      go_ret
      exact ⟨rfl, hB⟩
/-- The marks of element j, from k on. -/
def markRule (k : Nat) (j : Nat) : Rul := ⟨((k + 7 * j : Nat) : Int), markB (k + 7 * j + 1), ((k + 7 * j + 2 : Nat) : Int), decide ((k + 7 * j + 3) % 3 = 0), decide ((k + 7 * j + 4) % 3 = 0), decide ((k + 7 * j + 5) % 3 = 0), ((k + 7 * j + 6 : Nat) : Int)⟩
set_option maxHeartbeats 1000000 in
theorem markRuleS_any (lo hi : Nat) (A : Option Addr) (c k : Nat) (kk : Int) (hkk : kk = (k : Int)) (xs : List Rul) (w : World) (h : Ow RuleK 67 lo hi w A c xs) (hk0 : 0 < k) (hk : k ≤ 20000000) :
    Calls Try.prog 26 #[.slice A xs.length c, .int .i64 kk] w fun e w' => e = .returned (.int .i64 (kk + 7 * xs.length)) ∧ Ow RuleK 67 lo hi w' A c (mkL (markRule k) xs.length) ∧ Only lo hi w w' ∧ w.grownBy w' (Value.slice A xs.length c).ownBlock := by
  subst hkk
  obtain ⟨hown, hu, hn, hf⟩ := h
  obtain ⟨n, HN⟩ : ∃ n, Hid (xs.length = n) := ⟨_, rfl⟩
  have hown0 := hown
  rw [HN.out] at hown hn ⊢
  go_enter Try.func26, Try.ntmps26
  go_wp2
  go_loopw [1, 5] (fun u i wr => ∃ j : Nat, j ≤ n ∧ i = .int .i64 j ∧ u = .int .i64 ((k : Int) + 7 * j) ∧ wr.ownsRow lo 67 7 (.slice A n c) n (RuleK.row (mixL (markRule k) j xs)) ∧ w.grownBy wr (Value.slice A n c).ownBlock) (fun _ i _ => n - (intOf i).toNat)
  case atStart => exact ⟨0, Nat.zero_le _, rfl, by go_num, by rw [mixL_zero]; exact hown, World.grownBy.refl _ _⟩
  case round =>
    clear hown
    obtain ⟨j, hj, rfl, rfl, hown, hg⟩ := hrel
    by_cases hlt : j < n
    · obtain ⟨g, cap, hv, hbg, hgl⟩ := hown.form (by omega)
      obtain ⟨rfl, _, rfl⟩ : A = some ⟨g, 0, none⟩ ∧ n = n ∧ c = cap := by simpa using hv
      clear hv
      have i1 : (j : Int) < (n : Int) := by omega
      obtain ⟨u0, g0⟩ := own_cell hown (j := j * 7) (by omega)
      have z0 := hown.frozenAt (j * 7)
      have he : ([.int .i64 ((k : Int) + 7 * j), .string (markB (k + 7 * j + 1)), .int .i64 ((k : Int) + 7 * j + 1 + 1), .bool ((markRule k j).sc), .bool ((markRule k j).db), .bool ((markRule k j).am), .int .i64 ((k : Int) + 7 * j + 1 + 1 + 1 + 1 + 1 + 1)] : List Value) = RuleK.enc (markRule k j) := by
        show _ = ([.int .i64 (markRule k j).id, .string (markRule k j).nm, .int .i64 (markRule k j).rk, .bool (markRule k j).sc, .bool (markRule k j).db, .bool (markRule k j).am, .int .i64 (markRule k j).nd] : List Value)
        unfold markRule
        simp only [List.cons.injEq, Value.int.injEq, true_and, and_true]
        omega
      have HW1 := Lib.hid (hown.stored (j * 7) (.int .i64 ((k : Int) + 7 * j))).1
      have HW2 := Lib.hid (grownBy_trans hg (hown.stored (j * 7) (.int .i64 ((k : Int) + 7 * j))).2)
      have HE := Lib.hid he
      have HM := Lib.hid (show j < xs.length by have := HN.out; omega)
      have hC := fun W => markText_any (k + 7 * j + 1) W (by omega) (by omega)
      rw [show (((k + 7 * j + 1 : Nat)) : Int) = (k : Int) + 7 * j + 1 by omega] at hC
      have HC := Lib.hid hC
      have t3 : (((k : Int) + 7 * j + 1 + 1 + 1) % 3 == 0) = (markRule k j).sc := by
        show _ = decide _
        rw [Bool.eq_iff_iff]; simp; omega
      have t4 : (((k : Int) + 7 * j + 1 + 1 + 1 + 1) % 3 == 0) = (markRule k j).db := by
        show _ = decide _
        rw [Bool.eq_iff_iff]; simp; omega
      have t5 : (((k : Int) + 7 * j + 1 + 1 + 1 + 1 + 1) % 3 == 0) = (markRule k j).am := by
        show _ = decide _
        rw [Bool.eq_iff_iff]; simp; omega
      clear hown hg hown0 he hC
      go_wp2_with (go_at_call 86; refine (HC.out _).mono ?_; rintro e w1 ⟨rfl, hb⟩; have hown1 := HW1.out.kept (grownBy_of_below hb none) (.inr (by simp [Value.ownBlock])); have hg1 := grownBy_trans HW2.out (grownBy_of_below hb _); clear hb; obtain ⟨u1, g1⟩ := own_cell hown1 (j := j * 7 + 1) (by omega); have z1 := hown1.frozenAt (j * 7 + 1); obtain ⟨u2, g2⟩ := own_cell hown1 (j := j * 7 + 2) (by omega); have z2 := hown1.frozenAt (j * 7 + 2); obtain ⟨u3, g3⟩ := own_cell hown1 (j := j * 7 + 3) (by omega); have z3 := hown1.frozenAt (j * 7 + 3); obtain ⟨u4, g4⟩ := own_cell hown1 (j := j * 7 + 4) (by omega); have z4 := hown1.frozenAt (j * 7 + 4); obtain ⟨u5, g5⟩ := own_cell hown1 (j := j * 7 + 5) (by omega); have z5 := hown1.frozenAt (j * 7 + 5); obtain ⟨u6, g6⟩ := own_cell hown1 (j := j * 7 + 6) (by omega); have z6 := hown1.frozenAt (j * 7 + 6); have hst : World.ownsRow _ _ _ _ _ _ (setL (RuleK.row (mixL (markRule k) j xs)) (j * RuleK.sz) [.int .i64 ((k : Int) + 7 * j), .string (markB (k + 7 * j + 1)), .int .i64 ((k : Int) + 7 * j + 1 + 1), .bool ((markRule k j).sc), .bool ((markRule k j).db), .bool ((markRule k j).am), .int .i64 ((k : Int) + 7 * j + 1 + 1 + 1 + 1 + 1 + 1)]) := ((((((hown1.stored (j * 7 + 1) (.string (markB (k + 7 * j + 1)))).1.stored (j * 7 + 2) (.int .i64 ((k : Int) + 7 * j + 1 + 1))).1.stored (j * 7 + 3) (.bool ((markRule k j).sc))).1.stored (j * 7 + 4) (.bool ((markRule k j).db))).1.stored (j * 7 + 5) (.bool ((markRule k j).am))).1.stored (j * 7 + 6) (.int .i64 ((k : Int) + 7 * j + 1 + 1 + 1 + 1 + 1 + 1))).1; rw [HE.out, mixL_set RuleK HM.out] at hst; have HS := Lib.hid hst; have HG1 := Lib.hid (grownBy_trans (grownBy_trans (grownBy_trans (grownBy_trans (grownBy_trans (grownBy_trans hg1 (hown1.stored (j * 7 + 1) (.string (markB (k + 7 * j + 1)))).2) ((hown1.stored (j * 7 + 1) (.string (markB (k + 7 * j + 1)))).1.stored (j * 7 + 2) (.int .i64 ((k : Int) + 7 * j + 1 + 1))).2) (((hown1.stored (j * 7 + 1) (.string (markB (k + 7 * j + 1)))).1.stored (j * 7 + 2) (.int .i64 ((k : Int) + 7 * j + 1 + 1))).1.stored (j * 7 + 3) (.bool ((markRule k j).sc))).2) ((((hown1.stored (j * 7 + 1) (.string (markB (k + 7 * j + 1)))).1.stored (j * 7 + 2) (.int .i64 ((k : Int) + 7 * j + 1 + 1))).1.stored (j * 7 + 3) (.bool ((markRule k j).sc))).1.stored (j * 7 + 4) (.bool ((markRule k j).db))).2) (((((hown1.stored (j * 7 + 1) (.string (markB (k + 7 * j + 1)))).1.stored (j * 7 + 2) (.int .i64 ((k : Int) + 7 * j + 1 + 1))).1.stored (j * 7 + 3) (.bool ((markRule k j).sc))).1.stored (j * 7 + 4) (.bool ((markRule k j).db))).1.stored (j * 7 + 5) (.bool ((markRule k j).am))).2) ((((((hown1.stored (j * 7 + 1) (.string (markB (k + 7 * j + 1)))).1.stored (j * 7 + 2) (.int .i64 ((k : Int) + 7 * j + 1 + 1))).1.stored (j * 7 + 3) (.bool ((markRule k j).sc))).1.stored (j * 7 + 4) (.bool ((markRule k j).db))).1.stored (j * 7 + 5) (.bool ((markRule k j).am))).1.stored (j * 7 + 6) (.int .i64 ((k : Int) + 7 * j + 1 + 1 + 1 + 1 + 1 + 1))).2); clear hst hown1 hg1)
      go_roundw
      case rel => exact ⟨j + 1, hlt, by go_num, by go_num, HS.out, HG1.out⟩
      case measure => simp [intOf]; omega
    · obtain rfl : j = n := by omega
      rw [mixL_all HN.out] at hown
      have HO := Lib.hid hown
      have HG := Lib.hid hg
      clear hown hg
      go_wp2
      go_ret
      refine ⟨rfl, ⟨by rw [mkL_len]; exact HO.out, hu, by rw [mkL_len]; exact hn, fun x hx => by obtain ⟨i, hi, rfl⟩ := mkL_mem hx; exact markB_size _ (by omega)⟩, Only.of_grown HG.out fun g hgg => ?_, HG.out⟩
      rw [← HN.out] at hgg
      have hl := hown0.lt g (by exact hgg)
      refine ⟨hl.1, ?_⟩
      cases A with
      | none => simp [Value.ownBlock] at hgg
      | some a =>
        have := hu a rfl
        simp [Value.ownBlock] at hgg
        omega
def szRule (xs : List Rul) (left : Int) : Int := szF (xs.map (·.nm)) left
theorem szRule1_any (x : Rul) (left : Int) (w : World) (hf : x.nm.size ≤ maxLen) (h0 : 0 ≤ left) (h1 : left ≤ 1048576) : Calls Try.prog 74 #[.agg #[.int .i64 x.id, .string x.nm, .int .i64 x.rk, .bool x.sc, .bool x.db, .bool x.am, .int .i64 x.nd], .int .i64 left] w fun e w' => e = .returned (.int .i64 (if left - (x.nm.size : Int) < 0 then -1 else left - (x.nm.size : Int))) ∧ Below w.heap.size w w' := by
  unfold maxLen at hf
  by_cases hl : left - (x.nm.size : Int) < 0
  · go_enter Try.func74, Try.ntmps74
    go_wp2
    go_ret
    exact ⟨ret_int (by simp), by go_grown⟩
  · go_enter Try.func74, Try.ntmps74
    go_wp2
    go_ret
    exact ⟨ret_int (by simp), by go_grown⟩
set_option maxHeartbeats 400000 in
theorem szRuleS_any (A : Option Addr) (c : Nat) (xs : List Rul) (left : Int) (w : World) (ha : Cells w A (RuleK.row xs)) (hn : xs.length ≤ maxLen) (hf : ∀ x ∈ xs, RuleK.fit x) (h0 : 0 ≤ left) (h1 : left ≤ 1048576) :
    Calls Try.prog 15 #[.slice A xs.length c, .int .i64 left] w fun e w' => e = .returned (.int .i64 (szRule xs left)) ∧ Below w.heap.size w w' := by
  unfold maxLen at hn
  by_cases hl : left - (xs.length : Int) < 0
  · have HR := Lib.hid (show szRule xs left = -1 by unfold szRule szF; rw [if_pos (by rw [List.length_map]; omega)])
    go_enter Try.func15, Try.ntmps15
    go_wp2
    go_ret
    exact ⟨ret_int HR.out.symm, Below.refl _ _⟩
  · go_enter Try.func15, Try.ntmps15
    go_wp2
    go_loopw [1, 5] (fun l i wr => ∃ k : Nat, k ≤ xs.length ∧ i = .int .i64 k ∧ 0 ≤ left - (xs.length : Int) - (szAll ((xs.map (·.nm)).take k) : Int) ∧ l = .int .i64 (left - (xs.length : Int) - (szAll ((xs.map (·.nm)).take k) : Int)) ∧ Below w.heap.size w wr) (fun _ i _ => xs.length - (intOf i).toNat)
    case atStart => exact ⟨0, Nat.zero_le _, rfl, by simp [szAll]; omega, by simp [szAll], Below.refl _ _⟩
    case round =>
      obtain ⟨k, hk, rfl, hnn, rfl, hB⟩ := hrel
      by_cases hlt : k < xs.length
      · obtain ⟨a, rfl, hc0, hc1, hc2, hc3, hc4, hc5, hc6⟩ := rule_at (ha.below hB) hlt
        have i1 : (k : Int) < (xs.length : Int) := by omega
        have hfk := hf _ (List.getElem_mem hlt)
        obtain ⟨S, hS⟩ : ∃ S : Int, Hid (left - (xs.length : Int) - (szAll ((xs.map (·.nm)).take k) : Int) = S) := ⟨_, Lib.hid rfl⟩
        have HT := Lib.hid (show szAll ((xs.map (·.nm)).take (k + 1)) = szAll ((xs.map (·.nm)).take k) + xs[k].nm.size by rw [List.take_succ_eq_append_getElem (by simpa using hlt), szAll_snoc]; simp)
        have hS0 : 0 ≤ S := by rw [← hS.out]; exact hnn
        have hS1 : S ≤ 1048576 := by rw [← hS.out]; omega
        have HB := Lib.hid hB
        rw [hS.out]
        clear hnn hB
        by_cases hneg : S - (xs[k].nm.size : Int) < 0
        · have HR := Lib.hid (show szRule xs left = -1 by unfold szRule szF; rw [if_pos (by have h1 := HT.out; have h2 := szAll_take_le (xs.map (·.nm)) (k + 1); have h3 := hS.out; rw [List.length_map]; omega)])
          go_wp2_with (go_at_call 74; refine (szRule1_any xs[k] S _ hfk hS0 hS1).mono ?_; rintro e w1 ⟨rfl, hb⟩; rw [if_pos hneg]; have HB1 := Lib.hid (after HB.out hb); clear hb)
          go_ret
          exact ⟨ret_int HR.out.symm, HB1.out⟩
        · go_wp2_with (go_at_call 74; refine (szRule1_any xs[k] S _ hfk hS0 hS1).mono ?_; rintro e w1 ⟨rfl, hb⟩; rw [if_neg hneg]; have HB1 := Lib.hid (after HB.out hb); clear hb)
          go_roundw
          case rel => exact ⟨k + 1, hlt, by go_num, by rw [HT.out]; have := hS.out; omega, by rw [HT.out]; have := hS.out; congr 1; omega, HB1.out⟩
          case measure => simp [intOf]; omega
      · obtain rfl : k = xs.length := by omega
        have HR := Lib.hid (show szRule xs left = left - (xs.length : Int) - (szAll ((xs.map (·.nm)).take xs.length) : Int) by
          have h2 : (xs.map (·.nm)).take xs.length = xs.map (·.nm) := List.take_of_length_le (by simp)
          rw [h2] at hnn ⊢
          unfold szRule szF; rw [List.length_map, if_neg (by omega)])
        go_wp2
        go_ret
        exact ⟨ret_int HR.out.symm, hB⟩
end Go.Proofs.Ytajbbinphnekiaa
