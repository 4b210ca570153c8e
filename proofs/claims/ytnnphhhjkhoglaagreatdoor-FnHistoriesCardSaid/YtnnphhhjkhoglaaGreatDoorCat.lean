/- slices.Grow of the nil slice and slices.Concat of four lists of words. Conditions: the ranges named. -/
import Derived.Test.YtnnphhhjkhoglaaGreatDoorDo2
import Derived.Lib.AppendZerosOnto
import Derived.Lib.SliceRun
import Derived.Maps.AppendAt
namespace Go.Proofs.YtnnphhhjkhoglaaGreatDoor
open Go.RowKit
set_option linter.unusedVariables false
set_option maxRecDepth 100000
set_option maxHeartbeats 800000 in
theorem growPos_any (n : Nat) (w : World) (h0 : 0 < n) (h1 : n ≤ 1000000) :
    Calls Tryz.prog 80 #[.slice none 0 0, .int .i64 n] w fun e w' => ∃ c : Nat, e = .returned (.slice (some ⟨w.heap.size, 0, none⟩) 0 c) ∧ w'.ownsRow w.heap.size 9 1 (.slice (some ⟨w.heap.size, 0, none⟩) 0 c) 0 [] ∧ Below w.heap.size w w' := by
  obtain ⟨i0, hi, hz0, hz1, hz2⟩ := info_parts infoStr
  have hold : (Builtin.firstCells i0.size 0 (.slice none 0 0)).run Tryz.prog w.drew = .ok ([] : List Value).toArray w.drew := run_firstCells_none w.drew i0.size 0 0 0
  have hrz := fun ty => Lib.run_append_grow_zeros (P := Tryz.prog) w 24 3 ty 9 i0 _ .i64 .i64 Tryz.underlying24 Tryz.underlying3 hi hz0 none 0 0 [] hold n h0 (by omega) (by omega) (by omega) (by rw [hz2]; omega) (by rw [Nat.zero_add, hz2]; exact growslice_fits (by omega) (by omega))
  simp only [Nat.zero_add] at hrz
  obtain ⟨G, hG⟩ : ∃ G, G = grownCap w n 0 9 := ⟨_, rfl⟩
  have hGn : n ≤ G := by rw [hG]; exact grownCap_ge w _ _ _
  have hG63 : G ≤ 9223372036854775807 := by
    have := grownCap_le_maxLen w n 0 9 (by unfold maxLen; omega)
    rw [← hG] at this; unfold maxLen at this; omega
  rw [← hG] at hrz
  clear hold hG
  go_enter Tryz.func80, Tryz.ntmps80
  go_wp2_with (at_builtin; refine Lib.wpList_append_run _ rfl _ _ _ _ rfl _ _ rfl rfl _ _ (hrz _) ?_)
  go_ret
  exact ⟨G, rfl, (World.ownsRow_made w _ G (Nat.le_refl _) (by unfold maxLen; omega) (by simp [size_zeroCells]; omega)).drew, by go_grown⟩

theorem growNil_any (n : Nat) (w : World) (h1 : n ≤ 1000000) :
    Calls Tryz.prog 80 #[.slice none 0 0, .int .i64 n] w fun e w' => ∃ (O : Option Addr) (d : Nat), e = .returned (.slice O 0 d) ∧ w'.ownsRow w.heap.size 9 1 (.slice O 0 d) 0 [] ∧ Below w.heap.size w w' := by
  rcases Nat.eq_zero_or_pos n with h0 | h0
  · subst h0
    go_enter Tryz.func80, Tryz.ntmps80
    go_wp2
    go_ret
    exact ⟨none, 0, rfl, World.ownsRow_nil _ _ _ _, Below.refl _ _⟩
  · exact (growPos_any n w h0 h1).mono fun e w' ⟨c, he, ho, hb⟩ => ⟨_, _, he, ho, hb⟩

/-- A list of words in memory: its address, its capacity, the words. -/
abbrev Part := Option Addr × Nat × List ByteArray
def partV (q : Part) : Value := .slice q.1 q.2.2.length q.2.1
def catL (l : List Part) : List ByteArray := (l.map (·.2.2)).flatten
theorem catL_snoc (l : List Part) (q : Part) : catL (l ++ [q]) = catL l ++ q.2.2 := by simp [catL]
theorem catL_take_le (l : List Part) (k : Nat) : (catL (l.take k)).length ≤ (catL l).length := by
  induction l generalizing k with
  | nil => simp [catL]
  | cons q l ih =>
    cases k with
    | zero => simp [catL]
    | succ k => have := ih k; simp [catL] at this ⊢; exact this
theorem strs_append (a b : List ByteArray) : strs (a ++ b) = strs a ++ strs b := by simp [strs]
theorem strs_one {ss : List ByteArray} : ∀ u ∈ strs ss, u.oneCell' = true := by
  intro u hu
  simp [strs] at hu
  obtain ⟨x, _, rfl⟩ := hu
  rfl
theorem append_nil_run {P : Program} (w : World) (base : Nat) (t ty e : TypeId) (i : TypeInfo) (size : Nat) (ht : P.underlying t = some (.slice e)) (hi : P.info? e = some i) (v : Value) (n : Nat) (xs : List Value) (hown : w.ownsRow base e size v n xs) (c : Nat) :
    (Builtin.append_ #[t, t] ty #[v, .slice none 0 c]).run P w = .ok v w := by
  rcases hown.2 with ⟨rfl, rfl⟩ | ⟨g, cap, cur, rfl, _, _, hnc, _⟩
  · simp [Builtin.append_, run_underlying ht, sizeOf, typeInfo, hi, Builtin.lenOf, Builtin.firstCells]
  · simp [Builtin.append_, run_underlying ht, sizeOf, typeInfo, hi, Builtin.lenOf, Builtin.firstCells, hnc, storeCells]
/-- append of a list of words, whatever its address, onto a row of the call's own. -/
theorem append_strs (w : World) (ty : TypeId) (base : Nat) (O A : Option Addr) (oc n c : Nat) (xs : List Value) (ss : List ByteArray) (hown : w.ownsRow base 9 1 (.slice O n oc) n xs) (hx : Cells w A (strs ss)) (hb : base ≤ w.heap.size) (h63 : n + ss.length ≤ 1000000) :
    ∃ (O' : Option Addr) (d : Nat) (w' : World), (Builtin.append_ #[24, 24] ty #[.slice O n oc, .slice A ss.length c]).run Tryz.prog w = .ok (.slice O' (n + ss.length) d) w' ∧ w'.ownsRow base 9 1 (.slice O' (n + ss.length) d) (n + ss.length) (xs ++ strs ss) ∧ Below base w w' ∧ w.grownBy w' (Value.slice O n oc).ownBlock := by
  obtain ⟨i0, hi, hz0, hz1, hz2⟩ := info_parts infoStr
  cases A with
  | none =>
    have h0 : ss = [] := by
      cases ss with
      | nil => rfl
      | cons s r => obtain ⟨ad, h, _⟩ := hx 0 (.string s) (by simp [strs]); cases h
    subst h0
    exact ⟨O, oc, w, append_nil_run w base _ _ _ i0 1 Tryz.underlying24 hi _ n xs hown c, by simpa [strs] using hown, Below.refl _ _, World.grownBy.refl w _⟩
  | some ad =>
    obtain ⟨v', w', hrun, h2, h3, _, h5⟩ := run_append_own_at (P := Tryz.prog) w base 24 ty 9 i0 _ 1 16 Tryz.underlying24 hi hz0 hz1 hz2 rfl (by omega) _ n xs hown ad ss.length c (strs ss) (by simp [strs]) (fun j u hj => by
      obtain ⟨ad', h, hc⟩ := hx j u hj
      cases h; exact hc) strs_one (by unfold maxLen; omega) (by omega) hb
    have hv : ∃ O' d, v' = .slice O' (n + ss.length) d := by
      rcases h2.2 with ⟨h6, h7⟩ | ⟨g, cap, cur, h6, _⟩
      · exact ⟨none, 0, by rw [h6, h7]⟩
      · exact ⟨_, _, h6⟩
    obtain ⟨O', d, rfl⟩ := hv
    refine ⟨O', d, w', hrun, h2, below_of_grownBy h3 hb (fun g hg => (hown.lt g hg).1), h3⟩
set_option maxHeartbeats 1600000 in
theorem concat_any (A : Option Addr) (c : Nat) (l : List Part) (w : World) (h : Cells w A (l.map partV)) (hl : l.length ≤ 100) (hp : ∀ q ∈ l, Cells w q.1 (strs q.2.2)) (hn2 : (catL l).length ≤ 1000000) :
    Calls Tryz.prog 65 #[.slice A l.length c] w fun e w' => ∃ (O : Option Addr) (d : Nat), e = .returned (.slice O (catL l).length d) ∧ w'.ownsRow w.heap.size 9 1 (.slice O (catL l).length d) (catL l).length (strs (catL l)) ∧ Below w.heap.size w w' := by
  obtain ⟨i0, hi, hz0, hz1, hz2⟩ := info_parts infoStr
  go_enter Tryz.func65, Tryz.ntmps65
  go_wp2
  go_loop [3, 11] (fun s i => ∃ k : Nat, k ≤ l.length ∧ i = .int .i64 k ∧ s = .int .i64 (catL (l.take k)).length) (fun _ i => l.length - (intOf i).toNat)
  case atStart => exact ⟨0, Nat.zero_le _, rfl, by simp [catL]⟩
  case round =>
    obtain ⟨k, hk, rfl, rfl⟩ := hrel
    by_cases hlt : k < l.length
    · obtain ⟨ad, rfl, hc⟩ := h k (partV l[k]) (by simp [hlt])
      obtain ⟨q, hq⟩ : ∃ q, q = l[k] := ⟨_, rfl⟩
      have HT := Lib.hid (show catL (l.take (k + 1)) = catL (l.take k) ++ q.2.2 by rw [List.take_succ_eq_append_getElem hlt, catL_snoc, hq])
      rw [← hq] at hc
      obtain ⟨qa, qc, qs⟩ := q
      simp only [partV] at hc
      have hle := catL_take_le l (k + 1)
      rw [HT.out, List.length_append] at hle
      simp only at hle
      clear hq
      go_wp2
      go_round
      case rel => exact ⟨k + 1, hlt, by go_num, by rw [HT.out, List.length_append]; go_num⟩
      case measure => simp [intOf]; omega
    · obtain rfl : k = l.length := by omega
      rw [List.take_length] at *
      have hpos : ¬ ((catL l).length : Int) < 0 := by omega
      go_wp2_with fail
      refine (growNil_any (catL l).length _ hn2).mono ?_
      rintro e w1 ⟨O, d, rfl, own, hb⟩
      have HO := Lib.hid own
      have hB1 := hb
      clear own hb
      go_wp2_with fail
      go_loopw [6, 27] (fun v i wr => ∃ (k : Nat) (O : Option Addr) (d : Nat), k ≤ l.length ∧ i = .int .i64 k ∧ v = .slice O (catL (l.take k)).length d ∧ Hid (wr.ownsRow w.heap.size 9 1 (.slice O (catL (l.take k)).length d) (catL (l.take k)).length (strs (catL (l.take k)))) ∧ Below w.heap.size w wr) (fun _ i _ => l.length - (intOf i).toNat)
      case atStart => exact ⟨0, O, d, Nat.zero_le _, rfl, by simp [catL], by show World.ownsRow _ _ _ _ _ _ _; simpa [catL, strs] using HO.out, hB1⟩
      case round =>
        obtain ⟨k, O, d, hk, rfl, rfl, hown, hB⟩ := hrel
        by_cases hlt : k < l.length
        · obtain ⟨ad, rfl, hc⟩ := (h.below hB) k (partV l[k]) (by simp [hlt])
          obtain ⟨q, hq⟩ : ∃ q, q = l[k] := ⟨_, rfl⟩
          have HT := Lib.hid (show catL (l.take (k + 1)) = catL (l.take k) ++ q.2.2 by rw [List.take_succ_eq_append_getElem hlt, catL_snoc, hq])
          have hq1 := (hp q (by rw [hq]; exact List.getElem_mem hlt)).below hB
          rw [← hq] at hc
          obtain ⟨qa, qc, qs⟩ := q
          simp only [partV] at hc
          have hle := catL_take_le l (k + 1)
          rw [HT.out, List.length_append] at hle
          simp only at hle hq1
          obtain ⟨O', d', w2, hrun, hown2, hb2, _⟩ := append_strs wr 24 w.heap.size O qa d _ qc _ qs hown.out hq1 hB.size (by omega)
          have HR := Lib.hid hrun
          have HO2 := Lib.hid hown2
          have hB2 := hB.trans hb2
          clear hq hrun hown2 hown hq1
          go_wp2_with (at_builtin; refine Lib.wpList_append_run _ rfl _ _ _ _ rfl _ _ rfl rfl _ _ HR.out ?_)
          go_roundw
          case rel => exact ⟨k + 1, O', d', hlt, by go_num, by rw [HT.out, List.length_append], by have h1 := HO2.out; rw [HT.out, List.length_append, strs_append]; exact h1, hB2⟩
          case measure => simp [intOf]; omega
        · obtain rfl : k = l.length := by omega
          rw [List.take_length] at *
          go_wp2
          go_ret
          exact ⟨O, d, rfl, hown.out, hB⟩

theorem cells_new (w : World) (xs : List Value) (t : TypeId) : Cells (w.alloc (.cells xs.toArray t)) (some ⟨w.heap.size, 0, none⟩) xs := fun i u hi => by
  refine ⟨_, rfl, ?_⟩
  rw [add_head]
  rw [World.cell?_alloc_new]
  simpa using hi
theorem concat4_any (g : Nat) (q1 q2 q3 q4 : Part) (v1 v2 v3 v4 : Value) (w : World) (e1 : v1 = partV q1) (e2 : v2 = partV q2) (e3 : v3 = partV q3) (e4 : v4 = partV q4) (h : Cells w (some ⟨g, 0, none⟩) [v1, v2, v3, v4]) (h1 : Cells w q1.1 (strs q1.2.2)) (h2 : Cells w q2.1 (strs q2.2.2)) (h3 : Cells w q3.1 (strs q3.2.2)) (h4 : Cells w q4.1 (strs q4.2.2)) (L : List ByteArray) (hL : L = catL [q1, q2, q3, q4]) (hn : L.length ≤ 1000000) :
    Calls Tryz.prog 65 #[.slice (some ⟨g, 0, none⟩) 4 4] w fun e w' => ∃ (O : Option Addr) (d : Nat), e = .returned (.slice O L.length d) ∧ w'.ownsRow w.heap.size 9 1 (.slice O L.length d) L.length (strs L) ∧ Below w.heap.size w w' := by
  subst e1 e2 e3 e4 hL
  exact concat_any (some ⟨g, 0, none⟩) 4 [q1, q2, q3, q4] w h (by simp) (fun q hq => by
    simp at hq
    rcases hq with rfl | rfl | rfl | rfl <;> assumption) hn
end Go.Proofs.YtnnphhhjkhoglaaGreatDoor
