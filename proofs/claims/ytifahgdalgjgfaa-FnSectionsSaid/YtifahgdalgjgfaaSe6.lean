/- slices.Delete of sections in a row of the call's own. Conditions: the ranges named. -/
import Derived.Test.YtifahgdalgjgfaaSe5
import Derived.Deep.RegionLaw
import Derived.Lib.SliceRun
import Derived.Lib.Walk
import Derived.Shelf.Spec.SlicesInsert
namespace Go.Proofs.Ytifahgdalgjgfaa
open Go.RowKit
set_option linter.unusedVariables false
set_option linter.unusedSimpArgs false
theorem run_clear_k {P : Program} (w : World) (t e ty : TypeId) (z : Value) (Z : List Value) (ht : P.underlying t = some (.slice e)) (hv : ∀ w, (zeroValue e).run P w = .ok z w) (b o n c : Nat) (hn : 0 < n) (hZ : (Builtin.zeroCells z.cells n).toList = Z)
    (hc : ∀ j, j < Z.length → (w.cell? ⟨b, o + j, none⟩).isSome = true) (hf : ∀ j, j < Z.length → w.frozen? ⟨b, o + j, none⟩ = false) (h1 : ∀ v ∈ Z, v.oneCell' = true) :
    (Builtin.clear_ #[t] ty #[.slice (some ⟨b, o, none⟩) n c]).run P w = .ok (.tuple #[]) (w.setCells b o Z) := by
  have hst := run_storeCells_cells (P := P) b o Z 0 w (by simpa using hc) (by simpa using hf) h1
  simp only [Nat.add_zero] at hst
  obtain ⟨m, rfl⟩ : ∃ m, n = m + 1 := ⟨n - 1, by omega⟩
  simp [Builtin.clear_, run_underlying ht, hv, hZ, hst]
theorem zero_sec (w : World) : (zeroValue 78).run Try.prog w = .ok (.agg #[.int .i64 0, .string ByteArray.empty]) w := by kernel_rfl
theorem zeroCells_sec (n : Nat) : ∀ v ∈ (Builtin.zeroCells (Value.agg #[.int .i64 0, .string ByteArray.empty]).cells n).toList, v.oneCell' = true := by
  intro v hv
  have h : (Value.agg #[.int .i64 0, .string ByteArray.empty]).cells = #[.int .i64 0, .string ByteArray.empty] := by rfl
  rw [h] at hv
  simp only [Builtin.zeroCells, Array.toList_map] at hv
  obtain ⟨i, _, rfl⟩ := List.mem_map.1 hv
  have h3 : (#[Value.int .i64 0, Value.string ByteArray.empty] : Array Value).size = 2 := rfl
  rw [h3]
  have h2 : i % 2 = 0 ∨ i % 2 = 1 := by omega
  rcases h2 with h2 | h2 <;> rw [h2] <;> rfl
theorem del_cells (P R L1 L2 Z : List Value) (h1 : L1.length = R.length) (h2 : L2.length = Z.length) : (setL (setL (P ++ (L1 ++ L2)) P.length R) (P ++ R).length Z).take ((P ++ R).length) = P ++ R := by
  rw [setL_append P L1 R h1 L2, ← List.append_assoc, show (P ++ R) ++ L2 = (P ++ R) ++ (L2 ++ []) by simp, setL_append (P ++ R) L2 Z h2 []]
  exact List.take_left' rfl
set_option maxHeartbeats 4000000 in
set_option maxRecDepth 100000 in
theorem deleteS_any (base g n oc i j : Nat) (xs : List Sec) (w : World) (hn : n = xs.length) (own : w.ownsRow base 78 2 (.slice (some ⟨g, 0, none⟩) n oc) n (SectionK.row xs)) (hij : i < j) (hj : j ≤ n) (hm : n ≤ 1000000) (hb0 : base ≤ w.heap.size) :
    Calls Try.prog 110 #[.slice (some ⟨g, 0, none⟩) n oc, .int .i64 i, .int .i64 j] w fun e w' => e = .returned (.slice (some ⟨g, 0, none⟩) (i + (n - j)) oc) ∧ w'.ownsRow base 78 2 (.slice (some ⟨g, 0, none⟩) (i + (n - j)) oc) (i + (n - j)) (SectionK.row (xs.take i ++ xs.drop j)) ∧ Below base w w' := by
  obtain ⟨i0, hi0, hz0, hzs, hzb⟩ := info_parts infoSection
  have hnc := own_cap own
  obtain ⟨R, hR⟩ : ∃ R, R = SectionK.row (xs.drop j) := ⟨_, rfl⟩
  have hRl : R.length = (n - j) * 2 := by rw [hR, Kd.row_len, List.length_drop, hn]; rfl
  have hPl : (SectionK.row (xs.take i)).length = i * 2 := by rw [Kd.row_len, List.length_take, Nat.min_eq_left (by omega)]; rfl
  have hXl : (SectionK.row xs).length = n * 2 := by rw [Kd.row_len, hn]; rfl
  have hone : ∀ u ∈ R, u.oneCell' = true := fun u hu => section_one u (by rw [hR] at hu; exact hu)
  have hsome : ∀ k, k < n * 2 → (w.cell? ⟨g, k, none⟩).isSome = true := fun k hk => by
    obtain ⟨u, hu⟩ := own_cell own hk
    rw [hu]; rfl
  have hfr : ∀ k, w.frozen? ⟨g, k, none⟩ = false := fun k => own.frozenAt k
  have hget : ∀ k u, R[k]? = some u → w.cell? ⟨g, j * 2 + k, none⟩ = some u := fun k u hk => by
    rw [hR, Kd.row_drop, List.getElem?_drop] at hk
    have hlt : j * 2 + k < n * 2 := by
      have := (List.getElem?_eq_some_iff.1 hk).1
      rw [hXl] at this
      exact this
    rw [own.cellAt _ hlt]; exact hk
  obtain ⟨A, hA, hsrc⟩ : ∃ A : Addr, (if oc = j then some (⟨g, 0, none⟩ : Addr) else some ⟨g, j * 2, none⟩) = some A ∧ Hid (∀ t u, R[t]? = some u → w.drew.cell? (A.add t) = some u) := by
    by_cases h : oc = j
    · refine ⟨⟨g, 0, none⟩, by simp [h], fun t u hu => ?_⟩
      have h0 : R.length = 0 := by rw [hRl]; omega
      rw [List.length_eq_zero_iff.1 h0] at hu
      simp at hu
    · refine ⟨⟨g, j * 2, none⟩, by simp [h], fun t u hu => ?_⟩
      rw [Addr.add_lit]
      exact hget t u hu
  have HS3 := Lib.hid (show ∀ t, t < R.length → (w.drew.cell? ⟨g, 0 + i * 2 + t, none⟩).isSome = true ∧ w.drew.frozen? ⟨g, 0 + i * 2 + t, none⟩ = false from fun t ht => by
    rw [hRl] at ht
    rw [Nat.zero_add]
    exact ⟨hsome _ (by omega), hfr _⟩)
  obtain ⟨W1, hW1⟩ : ∃ W1, W1 = w.drew.setCells g (i * 2) R := ⟨_, rfl⟩
  have h1 := own_setCells R (i * 2) own.drew
  rw [← hW1] at h1
  obtain ⟨Z, hZ⟩ : ∃ Z, (Builtin.zeroCells (Value.agg #[.int .i64 0, .string ByteArray.empty]).cells (n - (i + (n - j)))).toList = Z := ⟨_, rfl⟩
  have hZl : Z.length = (j - i) * 2 := by
    rw [← hZ, Array.length_toList, size_zeroCells]
    show (n - (i + (n - j))) * 2 = _
    omega
  have hZ1 : ∀ v ∈ Z, v.oneCell' = true := fun v hv => zeroCells_sec _ v (by rw [hZ]; exact hv)
  have hcl : ∀ ty, (Builtin.clear_ #[68] ty #[.slice (some ⟨g, (i + (n - j)) * 2, none⟩) (n - (i + (n - j))) (oc - (i + (n - j)))]).run Try.prog W1 = .ok (.tuple #[]) (W1.setCells g ((i + (n - j)) * 2) Z) :=
    fun ty => run_clear_k W1 _ _ ty _ Z Try.underlying68 zero_sec g _ _ _ (by omega) hZ (fun k hk => by
      obtain ⟨u, hu⟩ := own_cell h1.1 (j := (i + (n - j)) * 2 + k) (by rw [hZl] at hk; omega)
      rw [hu]; rfl) (fun k hk => h1.1.frozenAt _) hZ1
  have h2 := own_setCells Z ((i + (n - j)) * 2) h1.1
  have HFIN := Lib.hid (show (W1.setCells g ((i + (n - j)) * 2) Z).ownsRow base 78 2 (.slice (some ⟨g, 0, none⟩) (i + (n - j)) oc) (i + (n - j)) (SectionK.row (xs.take i ++ xs.drop j)) ∧ Below base w (W1.setCells g ((i + (n - j)) * 2) Z) from by
    refine ⟨?_, ?_⟩
    · have h3 := own_less h2.1 (show i + (n - j) ≤ n by omega)
      obtain ⟨L1, L2, hL, hL1, hL2⟩ := split_at (SectionK.row (xs.drop i)) R.length (by rw [hRl, Kd.row_len, List.length_drop, ← hn]; show (n - j) * 2 ≤ (n - i) * 2; omega)
      have h5 : SectionK.row xs = SectionK.row (xs.take i) ++ (L1 ++ L2) := by rw [← hL, ← Kd.row_append, List.take_append_drop]
      have h4 := del_cells (SectionK.row (xs.take i)) R L1 L2 Z hL1 (by rw [hL2, hZl, hRl, Kd.row_len, List.length_drop, ← hn]; show (n - i) * 2 - (n - j) * 2 = _; omega)
      have h6 : (SectionK.row (xs.take i) ++ R).length = (i + (n - j)) * 2 := by rw [List.length_append, hPl, hRl]; omega
      rw [h6, hPl, ← h5] at h4
      rw [h4] at h3
      rw [Kd.row_append, ← hR]
      exact h3
    · have h7 := grownBy_trans h1.2 h2.2
      exact below_of_grownBy ⟨h7.os, h7.tape, h7.output, h7.size, h7.block⟩ hb0 (fun g' hg => (own.lt g' hg).1))
  have HW := Lib.hid hW1
  have hic : i ≤ oc := by omega
  have hjc : j ≤ oc := by omega
  have hin : (i : Int) ≤ (n : Int) := by omega
  have hji : (i : Int) ≤ (j : Int) := by omega
  have hjn : (j : Int) ≤ (n : Int) := by omega
  have hnoc : (n : Int) ≤ (oc : Int) := by omega
  have hne : ((i : Int) == (j : Int)) = false := by rw [beq_eq_false_iff_ne]; omega
  have hz2 : ¬ ((i : Int) = (j : Int)) := by omega
  have mixed : Try.prog.follows Departure.mixedOrders = true := by kernel_rfl
  have s2 := Lib.hid hone
  have s1 := Lib.hid hRl
  clear own h1 h2 hone hsome hfr hget hRl hPl hXl hW1 hZ hZl hZ1 hR hn
  go_enter Try.func110, Try.ntmps110
  go_wp2_with fail
  go_region_law_o (refine step_append_room rfl (.tmp 22) (.tmp 25) 68 rfl 78 i0 2 Try.underlying68 hi0 hzs g 0 i oc (by simp [Act.eval, Act.put]) A (n - j) (oc - j) R (by simp [Act.eval, Act.put, hA]) s1.out hsrc.out s2.out (by omega) HS3.out ?_; rw [Nat.zero_add, ← HW.out])
  go_wp2
  go_ret
  exact ⟨rfl, HFIN.out⟩
end Go.Proofs.Ytifahgdalgjgfaa
