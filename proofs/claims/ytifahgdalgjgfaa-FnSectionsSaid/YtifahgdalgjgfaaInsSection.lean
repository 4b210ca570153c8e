/- slices.Insert of one element into a row of the call's own (Section). Conditions: the ranges named. -/
import Derived.Test.YtifahgdalgjgfaaIb
import Derived.Test.YtifahgdalgjgfaaAgr
import Derived.Test.YtifahgdalgjgfaaSe5
import Derived.Shelf.Spec.SlicesInsert
namespace Go.Proofs.Ytifahgdalgjgfaa
open Go.RowKit
set_option linter.unusedVariables false
set_option linter.unusedSimpArgs false
/-- What an insertion returns. -/
def InsSection (base : Nat) (w : World) (O : Option Addr) (n oc : Nat) (ys : List Sec) (e : Ending) (w' : World) : Prop := ∃ (O' : Option Addr) (d : Nat), e = .returned (.slice O' (n + 1) d) ∧ w'.ownsRow base 78 2 (.slice O' (n + 1) d) (n + 1) (SectionK.row ys) ∧ w.grownBy w' (Value.slice O n oc).ownBlock
theorem insSection_row (xs : List Sec) (x : Sec) (i : Nat) : SectionK.row (xs.take i ++ x :: xs.drop i) = SectionK.row (xs.take i) ++ SectionK.enc x ++ SectionK.row (xs.drop i) := by
  rw [SectionK.row_append, show x :: xs.drop i = [x] ++ xs.drop i from rfl, SectionK.row_append, SectionK.row_one, List.append_assoc]
set_option maxHeartbeats 2000000 in
theorem insSection_end (base : Nat) (O : Option Addr) (n oc vb : Nat) (xs : List Sec) (x : Sec) (w : World) (hn : n = xs.length) (own : w.ownsRow base 78 2 (.slice O n oc) n (SectionK.row xs)) (hm : xs.length ≤ 1000000) (hv : Cells w (some ⟨vb, 0, none⟩) (SectionK.enc x)) (hb0 : base ≤ w.heap.size) :
    Calls Try.prog 117 #[.slice O n oc, .int .i64 n, .slice (some ⟨vb, 0, none⟩) 1 1] w (InsSection base w O n oc (xs.take n ++ x :: xs.drop n)) := by
  have HOWN := Lib.hid own
  have HV := Lib.hid hv
  have HX : Hid (SectionK.row xs ++ SectionK.enc x = SectionK.row (xs.take n ++ x :: xs.drop n)) := Lib.hid (by rw [insSection_row, hn, List.take_length, List.drop_length, Kd.row_nil, List.append_nil])
  have HN := Lib.hid hn
  have hcap := own_cap own
  obtain ⟨Q, e2⟩ : ∃ Q, (if oc = n then O else O.map (·.add (n * 2))) = Q := ⟨_, rfl⟩
  have t1 : (n : Int) ≤ (oc : Int) := by omega
  clear own hv hn
  go_enter Try.func117, Try.ntmps117
  go_wp2_with (at_builtin; refine list_append_gr elSection _ rfl _ _ rfl base O (some ⟨vb, 0, none⟩) oc n 1 1 (SectionK.row xs) (SectionK.enc x) rfl rfl rfl HOWN.out HV.out (fun u hu => section_one (xs := [x]) u (by rw [SectionK.row_one]; exact hu)) hb0 (by have := HN.out; omega) ?_; intro O' d w' g1 g2 g3; have H1 := Lib.hid g1; have H2 := Lib.hid g2; have H3 := Lib.hid g3; clear g1 g2 g3)
  go_ret
  exact ⟨O', d, rfl, by rw [← HX.out]; exact H1.out, H3.out⟩
set_option maxHeartbeats 4000000 in
set_option maxRecDepth 100000 in
theorem insSection_shift (base g n oc i vb : Nat) (xs : List Sec) (x : Sec) (w : World) (hn : n = xs.length) (own : w.ownsRow base 78 2 (.slice (some ⟨g, 0, none⟩) n oc) n (SectionK.row xs)) (hi : i < n) (hroom : n + 1 ≤ oc) (hv : w.heap[vb]? = some (.cells (SectionK.enc x).toArray 78 (0, 0))) (hne : vb ≠ g) (hm : n ≤ 1000000) :
    Calls Try.prog 117 #[.slice (some ⟨g, 0, none⟩) n oc, .int .i64 i, .slice (some ⟨vb, 0, none⟩) 1 1] w (InsSection base w (some ⟨g, 0, none⟩) n oc (xs.take i ++ x :: xs.drop i)) := by
  obtain ⟨ys, hyl, hnc, hcm, hshg, hfull⟩ := own_full own
  have hfit : ∀ u ∈ SectionK.row xs ++ SectionK.enc x, u.oneCell' = true := fun u hu => section_one (xs := xs ++ [x]) u (by rw [SectionK.row_snoc]; exact hu)
  have hsz : (Try.prog.info? 78).map (·.size) = some 2 := by
    obtain ⟨i0, hi0, h0, h1, h2⟩ := info_parts infoSection
    rw [hi0]; simp [h1]
  have hshv : w.shape? vb = some (78, 2) := by simp [World.shape?, hv]; rfl
  have hfv : ∀ j, w.frozen? ⟨vb, j, none⟩ = false := fun j => frozen_of_row w vb j _ _ hv
  have hfg : ∀ j, w.frozen? ⟨g, j, none⟩ = false := fun j => own.frozenAt j
  have hov : ∀ q lb cb, (callFunc 139 #[.slice (some ⟨vb, 0, none⟩) 1 1, .slice (some ⟨g, q, none⟩) lb cb]).run Try.prog w = .ok (.value (.bool false)) w := fun q lb cb => by
    rw [run_callFunc_extern Try.func139 (by kernel_rfl) (by kernel_rfl) (by kernel_rfl) (e := Extern.SlicesOverlaps.overlaps #[68, 68] #[4]) (by kernel_rfl),
      Lib.run_overlaps_apart w 68 4 78 Try.underlying68 2 (fun w => by kernel_rfl) ⟨vb, 0, none⟩ ⟨g, q, none⟩ 1 1 lb cb hne 78 78 2 (oc * 2) hshv hshg (by omega) (hfv 0) (hfv _)]
    rfl
  have hRl : (SectionK.row (xs.drop i)).length = (n - i) * 2 := by rw [Kd.row_len, List.length_drop, hn]; rfl
  have hPl : (SectionK.row (xs.take i)).length = i * 2 := by rw [Kd.row_len, List.length_take, Nat.min_eq_left (by omega)]; rfl
  have hsp : ∀ j, j < oc * 2 → (w.cell? ⟨g, j, none⟩).isSome = true := fun j hj => by
    obtain ⟨u, hu⟩ := own_cell hfull hj
    rw [hu]; rfl
  have hRs : ∀ j v, (SectionK.row (xs.drop i))[j]? = some v → w.cell? ⟨g, i * 2 + j, none⟩ = some v := fun j v hj => by
    rw [Kd.row_drop, List.getElem?_drop] at hj
    have hlt : i * 2 + j < n * 2 := by
      have := (List.getElem?_eq_some_iff.1 hj).1
      rw [Kd.row_len, ← hn] at this
      exact this
    rw [own.cellAt _ hlt]; exact hj
  have hw1 : IntKind.i64.wrap ((i : Int) + 1) = (i : Int) + 1 := by rw [IntKind.wrap_i64]; omega
  have hw2 : IntKind.i64.wrap ((n : Int) + 1) = (n : Int) + 1 := by rw [IntKind.wrap_i64]; omega
  have hcp1 : ∀ ty dc sc, (Builtin.copy_ #[68, 68] ty #[.slice (some ⟨g, (i + 1) * 2, none⟩) (n + 1 - (i + 1)) dc, .slice (some ⟨g, i * 2, none⟩) (n + 1 - i) sc]).run Try.prog w.drew = .ok (goInt (Nat.min (n + 1 - i) (n + 1 - (i + 1)))) (w.drew.setCells g ((i + 1) * 2) (SectionK.row (xs.drop i))) := fun ty dc sc =>
    run_copy_k w.drew _ _ ty 78 2 g ((i + 1) * 2) (n + 1 - (i + 1)) dc ⟨g, i * 2, none⟩ (n + 1 - i) sc _ Try.underlying68 hsz (by rw [hRl]; congr 1; simp only [Nat.min_def]; split <;> omega)
      (fun j v hj => by rw [Addr.add_lit]; exact hRs j v hj)
      (fun j hj => hsp _ (by rw [hRl] at hj; omega)) (fun j hj => hfg _) (fun v hv => hfit v (List.mem_append_left _ (by rw [Kd.row_drop] at hv; exact List.mem_of_mem_drop hv)))
  obtain ⟨W1, hW1⟩ : ∃ W1, W1 = w.drew.setCells g ((i + 1) * 2) (SectionK.row (xs.drop i)) := ⟨_, rfl⟩
  have hown1 := own_setCells (SectionK.row (xs.drop i)) ((i + 1) * 2) hfull.drew
  rw [← hW1] at hcp1 hown1
  have hvs : ∀ j v, (SectionK.enc x)[j]? = some v → W1.cell? ⟨vb, j, none⟩ = some v := fun j v hj => by
    rw [hW1, World.cell?_setCells_out g _ _ _ _ (fun h _ => absurd h hne)]
    exact (cell_of_row w vb j _ _ _ hv).trans (by simpa using hj)
  have hcp2 : ∀ (W : World), (∀ x, W.cell? x = W1.cell? x) → (∀ x, W.frozen? x = W1.frozen? x) → ∀ ty dc, (Builtin.copy_ #[68, 68] ty #[.slice (some ⟨g, i * 2, none⟩) (n + 1 - i) dc, .slice (some ⟨vb, 0, none⟩) 1 1]).run Try.prog W = .ok (goInt (Nat.min 1 (n + 1 - i))) (W.setCells g (i * 2) (SectionK.enc x)) := fun W hWc hWf ty dc =>
    run_copy_k W _ _ ty 78 2 g (i * 2) (n + 1 - i) dc ⟨vb, 0, none⟩ 1 1 _ Try.underlying68 hsz (by rw [SectionK.len, show Nat.min 1 (n + 1 - i) = 1 from Nat.min_eq_left (by omega)]; rfl)
      (fun j v hj => by rw [Addr.add_lit, hWc, Nat.zero_add]; exact hvs j v hj)
      (fun j hj => by
        rw [hWc]
        obtain ⟨u, hu⟩ := own_cell hown1.1 (j := i * 2 + j) (by rw [SectionK.len] at hj; simp only [SectionK] at hj; omega)
        rw [hu]; rfl) (fun j hj => by rw [hWf]; exact hown1.1.frozenAt _) (fun v hv => hfit v (List.mem_append_right _ hv))
  have HFIN : Hid (InsSection base w (some ⟨g, 0, none⟩) n oc (xs.take i ++ x :: xs.drop i) (.returned (.slice (some ⟨g, 0, none⟩) (n + 1) oc)) (W1.setCells g (i * 2) (SectionK.enc x))) := Lib.hid (by
    have hown2 := own_setCells (SectionK.enc x) (i * 2) hown1.1
    have h3 := own_less hown2.1 hroom
    have h4 := shift_cells (SectionK.row (xs.take i)) (SectionK.row (xs.drop i)) ys (SectionK.enc x) (by rw [hyl, SectionK.len]; simp only [SectionK]; omega)
    have h5 : SectionK.row xs = SectionK.row (xs.take i) ++ SectionK.row (xs.drop i) := by rw [← Kd.row_append, List.take_append_drop]
    have h6 : (SectionK.enc x).length = 2 := rfl
    rw [hPl, hRl, h6] at h4
    rw [h5, show (i + 1) * 2 = i * 2 + 2 by omega, show (n + 1) * 2 = i * 2 + 2 + (n - i) * 2 by omega, h4, ← insSection_row] at h3
    have h7 := grownBy_trans hown1.2 hown2.2
    exact ⟨_, _, rfl, h3, ⟨h7.os, h7.tape, h7.output, h7.size, h7.block⟩⟩)
  have hz2 : ¬ ((i : Int) = (n : Int)) := by omega
  have hb1 : (0 : Int) ≤ (i : Int) + 1 := by omega
  have hin : i ≤ n := by omega
  have htn : ((i : Int) + 1).toNat = i + 1 := by omega
  have htn2 : ((n : Int) + 1).toNat = n + 1 := by omega
  have hb2 : ¬ (oc = i + 1) := by omega
  have hb3 : (i : Int) ≤ (n : Int) + 1 := by omega
  have hb4 : ¬ (oc = i) := by omega
  have hb5 : ¬ ((oc : Int) < (n : Int) + 1) := by omega
  have hc63 : oc ≤ 9223372036854775807 := by unfold maxLen at hcm; omega
  have mixed : Try.prog.follows Departure.mixedOrders = true := by kernel_rfl
  clear hfull hown1 hRs hsp hvs hfit hyl hshg own hRl hPl hn hW1
  go_enter Try.func117, Try.ntmps117
  go_wp2_with (simp only [hov])
  go_region_law_o (refine step_copy_runI rfl _ _ 68 68 rfl (.slice (some ⟨g, (i + 1) * 2, none⟩) (n + 1 - (i + 1)) (oc - (i + 1))) (.slice (some ⟨g, i * 2, none⟩) (n + 1 - i) (oc - i)) (by simp [Act.eval, Act.put]) (by simp [Act.eval, Act.put]) (hcp1 _ _ _) ?_)
  go_wp2_with (at_builtin; refine wpList_copy_runI _ rfl _ _ 68 68 rfl _ _ rfl rfl (hcp2 _ (fun _ => rfl) (fun _ => rfl) _ _) ?_)
  go_ret
  exact HFIN.out
set_option maxHeartbeats 4000000 in
set_option maxRecDepth 100000 in
theorem insSection_grow (base g n oc i vb : Nat) (xs : List Sec) (x : Sec) (w : World) (hn : n = xs.length) (own : w.ownsRow base 78 2 (.slice (some ⟨g, 0, none⟩) n oc) n (SectionK.row xs)) (hi : i < n) (hroom : oc < n + 1) (hv : w.heap[vb]? = some (.cells (SectionK.enc x).toArray 78 (0, 0))) (hm : n ≤ 1000000) (hb0 : base ≤ w.heap.size) :
    Calls Try.prog 117 #[.slice (some ⟨g, 0, none⟩) n oc, .int .i64 i, .slice (some ⟨vb, 0, none⟩) 1 1] w (InsSection base w (some ⟨g, 0, none⟩) n oc (xs.take i ++ x :: xs.drop i)) := by
  have hnc := own_cap own
  have hfit : ∀ u ∈ SectionK.row xs ++ SectionK.enc x, u.oneCell' = true := fun u hu => section_one (xs := xs ++ [x]) u (by rw [SectionK.row_snoc]; exact hu)
  obtain ⟨i0, hi0, hz0, hzs, hzb⟩ := info_parts infoSection
  have hsz : (Try.prog.info? 78).map (·.size) = some 2 := by rw [hi0]; simp [hzs]
  have hgw : g < w.heap.size := (own.lt g rfl).2
  have hvw : vb < w.heap.size := by
    rcases Nat.lt_or_ge vb w.heap.size with h | h
    · exact h
    · rw [Array.getElem?_eq_none h] at hv; cases hv
  have hRl : (SectionK.row (xs.drop i)).length = (n - i) * 2 := by rw [Kd.row_len, List.length_drop, hn]; rfl
  have hPl : (SectionK.row (xs.take i)).length = i * 2 := by rw [Kd.row_len, List.length_take, Nat.min_eq_left (by omega)]; rfl
  have hxs : ∀ j v, (SectionK.row xs)[j]? = some v → w.cell? ⟨g, j, none⟩ = some v := fun j v hj => by
    have hlt : j < n * 2 := by
      have := (List.getElem?_eq_some_iff.1 hj).1
      rw [Kd.row_len, ← hn] at this
      exact this
    rw [own.cellAt _ hlt]; exact hj
  have hold : (Builtin.firstCells i0.size i (.slice (some ⟨g, 0, none⟩) i oc)).run Try.prog w.drew = .ok (SectionK.row (xs.take i)).toArray w.drew := by
    rw [hzs]
    exact run_firstCells_some w.drew 2 i ⟨g, 0, none⟩ i oc (SectionK.row (xs.take i)) hPl (fun j v hj => by
      rw [Addr.add_lit, Nat.zero_add]
      rw [show xs.take i = xs.take i from rfl, Kd.row_take, List.getElem?_take] at hj
      split at hj
      · exact hxs j v hj
      · cases hj)
  have hik : i + (n + 1 - i) = n + 1 := by omega
  have hkk : (n : Int) + 1 - (i : Int) = ((n + 1 - i : Nat) : Int) := by omega
  obtain ⟨G, hG⟩ : ∃ G, G = grownCap w (n + 1) oc 78 := ⟨_, rfl⟩
  obtain ⟨Z, hZ⟩ : ∃ Z : List Value, Z = (Builtin.zeroCells (Value.cells (.agg #[.int .i64 0, .string ByteArray.empty])) (n + 1 - i) ++ Builtin.zeroCells (Value.cells (.agg #[.int .i64 0, .string ByteArray.empty])) (G - (n + 1))).toList := ⟨_, rfl⟩
  have hGn : n + 1 ≤ G := by rw [hG]; exact grownCap_ge w _ _ _
  have hGm : G ≤ maxLen := by rw [hG]; exact grownCap_le_maxLen w _ _ _ (by unfold maxLen; omega)
  have hZl : Z.length = (G - i) * 2 := by
    rw [hZ, Array.length_toList, Array.size_append, size_zeroCells, size_zeroCells]
    show (n + 1 - i) * 2 + (G - (n + 1)) * 2 = _
    omega
  have hrz : ∀ ty, (Builtin.append_ #[68, 3] ty #[.slice (some ⟨g, 0, none⟩) i oc, .int .i64 ((n : Int) + 1 - (i : Int))]).run Try.prog w =
      .ok (.slice (some ⟨w.heap.size, 0, none⟩) (n + 1) G) (w.drew.alloc (.cells (SectionK.row (xs.take i) ++ Z).toArray 78)) := fun ty => by
    have h := Lib.run_append_grow_zeros w 68 3 ty 78 i0 _ .i64 .i64 Try.underlying68 Try.underlying3 hi0 hz0 (some ⟨g, 0, none⟩) i oc (SectionK.row (xs.take i)) hold (n + 1 - i) (by omega) (by omega) (by omega) (by omega) (by rw [hzb]; omega) (by rw [hzb, hik]; exact growslice_fits hroom (by omega))
    rw [hik, ← hG] at h
    rw [hkk, h, hZ]
    congr 3
    apply Array.ext'
    simp
  obtain ⟨W1, hW1⟩ : ∃ W1, W1 = w.drew.alloc (.cells (SectionK.row (xs.take i) ++ Z).toArray 78) := ⟨_, rfl⟩
  have hown0 : W1.ownsRow base 78 2 (.slice (some ⟨w.heap.size, 0, none⟩) G G) G (SectionK.row (xs.take i) ++ Z) := by
    refine ⟨by rw [List.length_append, hPl, hZl]; omega, .inr ⟨w.heap.size, G, (SectionK.row (xs.take i) ++ Z).toArray, rfl, hb0, ?_, Nat.le_refl _, hGm, ?_, ?_⟩⟩
    · rw [hW1]; exact heap_alloc_new w.drew _
    · rw [List.size_toArray, List.length_append, hPl, hZl]; omega
    · exact List.take_of_length_le (by rw [List.length_append, hPl, hZl]; omega)
  have hB1 : Below w.heap.size w W1 := by rw [hW1]; exact (Below.refl w.heap.size w).drew.alloc (Nat.le_refl _) _
  rw [← hW1] at hrz
  have hvs : ∀ j v, (SectionK.enc x)[j]? = some v → W1.cell? ⟨vb, j, none⟩ = some v := fun j v hj => by
    rw [hB1.cell (p := ⟨vb, j, none⟩) hvw]
    exact (cell_of_row w vb j _ _ _ hv).trans (by simpa using hj)
  have hRs : ∀ j v, (SectionK.row (xs.drop i))[j]? = some v → W1.cell? ⟨g, i * 2 + j, none⟩ = some v := fun j v hj => by
    rw [hB1.cell (p := ⟨g, i * 2 + j, none⟩) hgw]
    rw [Kd.row_drop, List.getElem?_drop] at hj
    exact hxs _ v hj
  have hcpA : ∀ (W : World), (∀ x, W.cell? x = W1.cell? x) → (∀ x, W.frozen? x = W1.frozen? x) → ∀ ty dc, (Builtin.copy_ #[68, 68] ty #[.slice (some ⟨w.heap.size, i * 2, none⟩) (n + 1 - i) dc, .slice (some ⟨vb, 0, none⟩) 1 1]).run Try.prog W = .ok (goInt (Nat.min 1 (n + 1 - i))) (W.setCells w.heap.size (i * 2) (SectionK.enc x)) := fun W hWc hWf ty dc =>
    run_copy_k W _ _ ty 78 2 w.heap.size (i * 2) (n + 1 - i) dc ⟨vb, 0, none⟩ 1 1 _ Try.underlying68 hsz (by rw [SectionK.len, show Nat.min 1 (n + 1 - i) = 1 from Nat.min_eq_left (by omega)]; rfl)
      (fun j v hj => by rw [Addr.add_lit, hWc, Nat.zero_add]; exact hvs j v hj)
      (fun j hj => by
        rw [hWc]
        obtain ⟨u, hu⟩ := own_cell hown0 (j := i * 2 + j) (by rw [SectionK.len] at hj; simp only [SectionK] at hj; omega)
        rw [hu]; rfl) (fun j hj => by rw [hWf]; exact hown0.frozenAt _) (fun v hv => hfit v (List.mem_append_right _ hv))
  have hown1 := own_setCells (SectionK.enc x) (i * 2) hown0
  have hcpB : ∀ (W : World), (∀ y, W.cell? y = (W1.setCells w.heap.size (i * 2) (SectionK.enc x)).cell? y) → (∀ y, W.frozen? y = (W1.setCells w.heap.size (i * 2) (SectionK.enc x)).frozen? y) → ∀ ty dc sc, (Builtin.copy_ #[68, 68] ty #[.slice (some ⟨w.heap.size, (i + 1) * 2, none⟩) (n + 1 - (i + 1)) dc, .slice (some ⟨g, i * 2, none⟩) (n - i) sc]).run Try.prog W = .ok (goInt (Nat.min (n - i) (n + 1 - (i + 1)))) (W.setCells w.heap.size ((i + 1) * 2) (SectionK.row (xs.drop i))) := fun W hWc hWf ty dc sc =>
    run_copy_k W _ _ ty 78 2 w.heap.size ((i + 1) * 2) (n + 1 - (i + 1)) dc ⟨g, i * 2, none⟩ (n - i) sc _ Try.underlying68 hsz (by rw [hRl]; congr 1; simp only [Nat.min_def]; split <;> omega)
      (fun j v hj => by
        rw [Addr.add_lit, hWc, World.cell?_setCells_out _ _ _ _ _ (fun h _ => absurd h (by show g ≠ w.heap.size; omega))]
        exact hRs j v hj)
      (fun j hj => by
        rw [hWc]
        obtain ⟨u, hu⟩ := own_cell hown1.1 (j := (i + 1) * 2 + j) (by rw [hRl] at hj; omega)
        rw [hu]; rfl) (fun j hj => by rw [hWf]; exact hown1.1.frozenAt _) (fun v hv => hfit v (List.mem_append_left _ (by rw [Kd.row_drop] at hv; exact List.mem_of_mem_drop hv)))
  have HFIN : Hid (InsSection base w (some ⟨g, 0, none⟩) n oc (xs.take i ++ x :: xs.drop i) (.returned (.slice (some ⟨w.heap.size, 0, none⟩) (n + 1) G)) ((W1.setCells w.heap.size (i * 2) (SectionK.enc x)).drew.setCells w.heap.size ((i + 1) * 2) (SectionK.row (xs.drop i)))) := Lib.hid (by
    have hown2 := own_setCells (SectionK.row (xs.drop i)) ((i + 1) * 2) hown1.1.drew
    have h3 := own_less hown2.1 hGn
    have h4 := fill_cells (SectionK.row (xs.take i)) (SectionK.row (xs.drop i)) Z (SectionK.enc x) (by rw [hZl, hRl, SectionK.len]; simp only [SectionK]; omega)
    have h6 : (SectionK.enc x).length = 2 := rfl
    rw [hPl, hRl, h6] at h4
    rw [show (i + 1) * 2 = i * 2 + 2 by omega, show (n + 1) * 2 = i * 2 + 2 + (n - i) * 2 by omega, h4, ← insSection_row] at h3
    have h7 := hown2.2
    rw [show (i + 1) * 2 = i * 2 + 2 by omega] at h7 ⊢
    refine ⟨_, _, rfl, h3, ⟨h7.os.trans (hown1.2.os.trans hB1.os), h7.tape.trans (hown1.2.tape.trans hB1.tape), h7.output.trans (hown1.2.output.trans hB1.output), Nat.le_trans hB1.size (Nat.le_trans hown1.2.size h7.size), fun k hk hne => ?_⟩⟩
    have hk1 := Nat.lt_of_lt_of_le hk hB1.size
    have hnk : some k ≠ some w.heap.size := by simp; omega
    exact (h7.block k (Nat.lt_of_lt_of_le hk1 hown1.2.size) hnk).trans ((hown1.2.block k hk1 hnk).trans (hB1.block k hk)))
  have hz2 : ¬ ((i : Int) = (n : Int)) := by omega
  have hz3 : (oc : Int) < (n : Int) + 1 := by omega
  have hw1 : IntKind.i64.wrap ((i : Int) + 1) = (i : Int) + 1 := by rw [IntKind.wrap_i64]; omega
  have hw2 : IntKind.i64.wrap ((n : Int) + 1) = (n : Int) + 1 := by rw [IntKind.wrap_i64]; omega
  have hb1 : (0 : Int) ≤ (i : Int) + 1 := by omega
  have hin : i ≤ n := by omega
  have htn : ((i : Int) + 1).toNat = i + 1 := by omega
  have hb3 : (i : Int) ≤ (n : Int) := by omega
  have hGi : ¬ (G = i) := by omega
  have hGim : ¬ (G = i + 1) := by omega
  have hci : ¬ (oc = i) := by omega
  have hG63 : G ≤ 9223372036854775807 := by unfold maxLen at hGm; omega
  have hF1 : ∀ y, ((W1.setCells w.heap.size (i * 2) (SectionK.enc x)).drew).cell? y = (W1.setCells w.heap.size (i * 2) (SectionK.enc x)).cell? y := fun _ => rfl
  have hF2 : ∀ y, ((W1.setCells w.heap.size (i * 2) (SectionK.enc x)).drew).frozen? y = (W1.setCells w.heap.size (i * 2) (SectionK.enc x)).frozen? y := fun _ => rfl
  have mixed : Try.prog.follows Departure.mixedOrders = true := by kernel_rfl
  clear hRs hvs hfit hxs own hown0 hown1 hRl hPl hZl hn hB1 hW1 hkk hik hold hi0 hz0 hzs hzb hgw hvw hG hZ
  go_enter Try.func117, Try.ntmps117
  go_wp2_with (first
    | (at_builtin; refine Lib.wpList_append_run _ rfl _ _ _ _ rfl _ _ rfl rfl _ _ (hrz _) ?_)
    | (at_builtin; refine wpList_copy_runI _ rfl _ _ 68 68 rfl _ _ rfl rfl (hcpA _ (fun _ => rfl) (fun _ => rfl) _ _) ?_))
  go_region_law_o (refine step_copy_runI rfl _ _ 68 68 rfl (.slice (some ⟨w.heap.size, (i + 1) * 2, none⟩) (n + 1 - (i + 1)) (G - (i + 1))) (.slice (some ⟨g, i * 2, none⟩) (n - i) (oc - i)) (by simp [Act.eval, Act.put]) (by simp [Act.eval, Act.put]) (hcpB _ hF1 hF2 _ _ _) ?_)
  go_wp2
  go_ret
  exact HFIN.out
end Go.Proofs.Ytifahgdalgjgfaa
