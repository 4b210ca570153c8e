/- slices.SortStableFunc at at most 20 numbers, and the order of speaking in the program. Conditions: the ranges named. -/
import Derived.Test.YtbpikbcnpmplfaaSo2
import Derived.BigRegion
namespace Go.Proofs.Ytbpikbcnpmplfaa
open Go.RowKit
set_option linter.unusedVariables false
set_option linter.unusedSimpArgs false
attribute [local go_sem ↓] Go.wp_at_zero Go.wp_at_succ
/-- y lies at place j of L; R behind. -/
def midL (L : List Int) (y : Int) (R : List Int) (j : Nat) : List Int := L.take j ++ (y :: (L.drop j ++ R))
theorem midL_len {L R : List Int} {y : Int} {j : Nat} : (midL L y R j).length = L.length + 1 + R.length := by
  unfold midL
  rw [List.length_append, List.length_cons, List.length_append, List.length_take, List.length_drop]
  omega
theorem midL_get {L R : List Int} {y : Int} {j : Nat} (h : j ≤ L.length) : (midL L y R j)[j]? = some y := by
  unfold midL
  rw [List.getElem?_append_right (by rw [List.length_take]; omega), List.length_take, show j - min j L.length = 0 by omega]
  rfl
theorem midL_prev {L R : List Int} {y : Int} {j : Nat} (h : j < L.length) : (midL L y R (j + 1))[j]? = some L[j] := by
  unfold midL
  rw [List.getElem?_append_left (by rw [List.length_take]; omega), List.getElem?_take, if_pos (by omega), List.getElem?_eq_getElem h]
theorem midL_swap {L R : List Int} {y : Int} {j : Nat} (h : j < L.length) : ((midL L y R (j + 1)).set (j + 1) L[j]).set j y = midL L y R j := by
  have h1 : L.take (j + 1) = L.take j ++ [L[j]] := by rw [List.take_add_one, List.getElem?_eq_getElem h]; rfl
  have h2 : L.drop j = L[j] :: L.drop (j + 1) := List.drop_eq_getElem_cons h
  have hl : (L.take j).length = j := by rw [List.length_take]; omega
  unfold midL
  rw [h1, h2, List.append_assoc, List.set_append, if_neg (by omega), hl, List.set_append, if_neg (by omega), hl]
  simp
  rw [h2]
  rfl
theorem insT_sorted {t : Int → Int} {y : Int} : ∀ {L : List Int}, L.Pairwise (fun a b => t a ≤ t b) → (insT t y L).Pairwise (fun a b => t a ≤ t b)
  | [], _ => by simp [insT]
  | x :: xs, h => by
    rw [List.pairwise_cons] at h
    rw [insT]
    split
    · rename_i h1
      refine List.pairwise_cons.2 ⟨fun z hz => ?_, List.pairwise_cons.2 h⟩
      rcases List.mem_cons.1 hz with rfl | hz
      · omega
      · have := h.1 z hz; omega
    · rename_i h1
      refine List.pairwise_cons.2 ⟨fun z hz => ?_, insT_sorted h.2⟩
      rcases insT_mem.1 hz with rfl | hz
      · omega
      · exact h.1 z hz
theorem foldT_sorted {t : Int → Int} : ∀ {xs acc : List Int}, acc.Pairwise (fun a b => t a ≤ t b) → (xs.foldl (fun l x => insT t x l) acc).Pairwise (fun a b => t a ≤ t b)
  | [], _, h => h
  | x :: xs, _, h => foldT_sorted (xs := xs) (insT_sorted h)
theorem isortT_sorted (t : Int → Int) (xs : List Int) : (isortT t xs).Pairwise (fun a b => t a ≤ t b) := foldT_sorted (by simp)
theorem insT_len {t : Int → Int} {y : Int} : ∀ {L : List Int}, (insT t y L).length = L.length + 1
  | [] => rfl
  | x :: xs => by
    rw [insT]
    split
    · rfl
    · rw [List.length_cons, insT_len]; rfl
theorem foldT_len {t : Int → Int} : ∀ {xs acc : List Int}, (xs.foldl (fun l x => insT t x l) acc).length = acc.length + xs.length
  | [], _ => rfl
  | x :: xs, acc => by rw [List.foldl_cons, foldT_len, insT_len, List.length_cons]; omega
theorem isortT_len (t : Int → Int) (xs : List Int) : (isortT t xs).length = xs.length := by unfold isortT; rw [foldT_len]; simp
theorem isortT_step {t : Int → Int} {xs : List Int} {i : Nat} (h : i < xs.length) : isortT t (xs.take (i + 1)) = insT t xs[i] (isortT t (xs.take i)) := by
  unfold isortT
  rw [List.take_add_one, List.getElem?_eq_getElem h, List.foldl_append]
  rfl
/-- Where the number goes. -/
theorem insT_at {t : Int → Int} {y : Int} : ∀ {L : List Int} {j : Nat}, L.Pairwise (fun a b => t a ≤ t b) → j ≤ L.length → (∀ z ∈ L.drop j, t y < t z) → (∀ p, j = p + 1 → ∀ h : p < L.length, ¬ t y < t L[p]) → insT t y L = L.take j ++ (y :: L.drop j)
  | [], j, _, _, _, _ => by simp [insT]
  | x :: xs, 0, _, _, h, _ => by rw [insT_front (by simpa using h)]; rfl
  | x :: xs, j + 1, hs, hj, h, hp => by
    rw [List.pairwise_cons] at hs
    have h0 : ¬ t y < t x := by
      have h1 := hp j rfl (by rw [List.length_cons] at hj ⊢; omega)
      cases j with
      | zero => exact h1
      | succ p =>
        rw [List.getElem_cons_succ] at h1
        have h2 := hs.1 (xs[p]'(by rw [List.length_cons] at hj; omega)) (List.getElem_mem _)
        omega
    rw [insT, if_neg h0, insT_at hs.2 (by rw [List.length_cons] at hj; omega) (fun z hz => h z hz) (fun p hp1 hpl => ?_)]
    · rfl
    · have h1 := hp (p + 1) (by omega) (by rw [List.length_cons]; omega)
      rwa [List.getElem_cons_succ] at h1
/-- The turns of a member. -/
def trn (f : Flr) : Int → Int := fun m => (shOf m f.sh).t
/-- The list while the i-th is being put in order. -/
def midS (t : Int → Int) (xs : List Int) (i j : Nat) : List Int := midL (isortT t (xs.take i)) (xs.getD i 0) (xs.drop (i + 1)) j
def rowS (t : Int → Int) (xs : List Int) (i : Nat) : List Int := isortT t (xs.take i) ++ xs.drop i
theorem rowS_len {t : Int → Int} {xs : List Int} {i : Nat} : (rowS t xs i).length = xs.length := by
  unfold rowS; rw [List.length_append, isortT_len, List.length_take, List.length_drop]; omega
theorem tk_len {t : Int → Int} {xs : List Int} {i : Nat} (h : i < xs.length) : (isortT t (xs.take i)).length = i := by rw [isortT_len, List.length_take]; omega
theorem midS_len {t : Int → Int} {xs : List Int} {i j : Nat} (h : i < xs.length) : (midS t xs i j).length = xs.length := by
  unfold midS; rw [midL_len, tk_len h, List.length_drop]; omega
theorem midS_start {t : Int → Int} {xs : List Int} {i : Nat} (h : i < xs.length) : midS t xs i i = rowS t xs i := by
  have h1 := tk_len (t := t) h
  unfold midS midL rowS
  rw [List.take_of_length_le (by omega), List.drop_of_length_le (by omega), List.nil_append, List.drop_eq_getElem_cons h, List.getD_eq_getElem?_getD, List.getElem?_eq_getElem h]
  rfl
theorem midS_end {t : Int → Int} {xs : List Int} {i j : Nat} (h : i < xs.length) (hj : j ≤ i) (h1 : ∀ z ∈ (isortT t (xs.take i)).drop j, t (xs.getD i 0) < t z) (h2 : ∀ p, j = p + 1 → ∀ h : p < (isortT t (xs.take i)).length, ¬ t (xs.getD i 0) < t (isortT t (xs.take i))[p]) : midS t xs i j = rowS t xs (i + 1) := by
  have e : xs.getD i 0 = xs[i] := by rw [List.getD_eq_getElem?_getD, List.getElem?_eq_getElem h]; rfl
  unfold midS midL rowS
  rw [isortT_step h, ← e, insT_at (isortT_sorted t _) (by rw [tk_len h]; exact hj) h1 h2]
  simp
theorem rowS_start (t : Int → Int) (xs : List Int) : rowS t xs 1 = xs := by
  unfold rowS
  cases xs with
  | nil => rfl
  | cons x l => rfl
theorem rowS_end (t : Int → Int) (xs : List Int) {i : Nat} (h : xs.length ≤ i) : rowS t xs i = isortT t xs := by
  unfold rowS; rw [List.take_of_length_le h, List.drop_of_length_le h, List.append_nil]
theorem own_drew {w : World} {base e size n : Nat} {v : Value} {xs : List Value} (h : w.ownsRow base e size v n xs) : w.drew.ownsRow base e size v n xs := own_keep h (Below.refl _ _).drew
theorem own_at {w : World} {base oc g n : Nat} {T : TypeId} {xs : List Int} (h : w.ownsRow base T 1 (.slice (some ⟨g, 0, none⟩) n oc) n (IntK.row xs)) {j : Nat} {x : Int} (hx : xs[j]? = some x) : w.cell? ⟨g, j, none⟩ = some (.int .i64 x) := by
  obtain ⟨hj, he⟩ := List.getElem?_eq_some_iff.1 hx
  obtain ⟨ad, had, hc⟩ := int_at (Cells.of_own h) (i := j) hj
  obtain rfl : ad = ⟨g, 0, none⟩ := by simpa using had.symm
  rw [add_head, he] at hc
  exact hc
set_option maxHeartbeats 4000000 in
set_option maxRecDepth 100000 in
theorem insSort_any (w0 w : World) (A D : Option Addr) (c d g oc q : Nat) (f : Flr) (xs : List Int) (hd : Cells w0 D (ShareK.row f.sh)) (hn : f.sh.length ≤ 1048576) (hq : FBox w0 q A D c d f) (hql : q < w0.heap.size) (own : w.ownsRow w0.heap.size 3 1 (.slice (some ⟨g, 0, none⟩) xs.length oc) xs.length (IntK.row xs)) (hm : xs.length ≤ 1000000) (hB : Below w0.heap.size w0 w) :
    Calls Try.prog 101 #[.slice (some ⟨g, 0, none⟩) xs.length oc, .int .i64 0, .int .i64 xs.length, .func (.func 89) #[] #[.pointer (some ⟨q, 0, none⟩)]] w fun e w' => e = .returned (.tuple #[]) ∧ w'.ownsRow w0.heap.size 3 1 (.slice (some ⟨g, 0, none⟩) xs.length oc) xs.length (IntK.row (isortT (trn f) xs)) ∧ Below w0.heap.size w0 w' := by
  have HD := Lib.hid hd
  have HQ := Lib.hid hq
  have HO0 := Lib.hid own
  have HB0 := Lib.hid hB
  have hcap := own_cap own
  clear hd hq own hB
  go_enter Try.func101, Try.ntmps101
  go_wp2
  go_loopw [8] (fun vi wr => ∃ i : Nat, 1 ≤ i ∧ (i ≤ xs.length ∨ i = 1) ∧ vi = .int .i64 i ∧ Hid (wr.ownsRow w0.heap.size 3 1 (.slice (some ⟨g, 0, none⟩) xs.length oc) xs.length (IntK.row (rowS (trn f) xs i))) ∧ Hid (Below w0.heap.size w0 wr)) (fun vi _ => xs.length - (intOf vi).toNat)
  case atStart => exact ⟨1, Nat.le_refl _, .inr rfl, rfl, Lib.hid (by rw [rowS_start]; exact HO0.out), HB0⟩
  case round =>
    clear HO0 HB0
    obtain ⟨i, h1i, hin, rfl, HO, HB⟩ := hrel
    by_cases hlt : i < xs.length
    · have i1 : (i : Int) < (xs.length : Int) := by omega
      go_wp2
      go_loopw [9] (fun vj wr2 => ∃ j : Nat, j ≤ i ∧ vj = .int .i64 j ∧ Hid (∀ z ∈ (isortT (trn f) (xs.take i)).drop j, trn f (xs.getD i 0) < trn f z) ∧ Hid (wr2.ownsRow w0.heap.size 3 1 (.slice (some ⟨g, 0, none⟩) xs.length oc) xs.length (IntK.row (midS (trn f) xs i j))) ∧ Hid (Below w0.heap.size w0 wr2)) (fun vj _ => (intOf vj).toNat)
      case atStart => exact ⟨i, Nat.le_refl _, rfl, Lib.hid (by intro z hz; rw [List.drop_of_length_le (by rw [tk_len hlt]; omega)] at hz; cases hz), Lib.hid (by rw [midS_start hlt]; exact HO.out), HB⟩
      case round =>
        clear HO HB
        obtain ⟨j, hji, rfl, HG, HO, HB⟩ := hrel
        by_cases hj0 : 0 < j
        · obtain ⟨jp, hjp⟩ : ∃ q, q + 1 = j := ⟨j - 1, by omega⟩
          subst hjp
          have zjp : ((jp + 1 : Nat) : Int) = (jp : Int) + 1 := by omega
          rw [zjp]
          have hpl : jp < (isortT (trn f) (xs.take i)).length := by rw [tk_len hlt]; omega
          have HY := Lib.hid (own_at HO.out (j := jp + 1) (midL_get (by rw [tk_len hlt]; exact hji)))
          have HP := Lib.hid (own_at HO.out (j := jp) (midL_prev hpl))
          have HSW := Lib.hid (midL_swap (R := xs.drop (i + 1)) (y := xs.getD i 0) hpl)
          have HEND := Lib.hid (fun (hno : ¬ trn f (xs.getD i 0) < trn f ((isortT (trn f) (xs.take i))[jp])) => midS_end (t := trn f) hlt hji HG.out (fun p hp1 hpl2 => by (obtain rfl : jp = p := (by omega)); exact hno))
          have HGO := Lib.hid (fun (hyes : trn f (xs.getD i 0) < trn f ((isortT (trn f) (xs.take i))[jp])) => show ∀ z ∈ (isortT (trn f) (xs.take i)).drop jp, trn f (xs.getD i 0) < trn f z by
            intro z hz
            rw [List.drop_eq_getElem_cons hpl] at hz
            rcases List.mem_cons.1 hz with rfl | hz
            · exact hyes
            · exact HG.out z hz)
          obtain ⟨y, hy⟩ : ∃ y, Hid (xs.getD i 0 = y) := ⟨_, Lib.hid rfl⟩
          obtain ⟨p, hp⟩ : ∃ p, Hid ((isortT (trn f) (xs.take i))[jp] = p) := ⟨_, Lib.hid rfl⟩
          rw [hy.out] at HY HSW HEND HGO
          rw [hp.out] at HP HSW HEND HGO
          have hcY : ∀ w', Below wr.heap.size wr w' → w'.cell? ⟨g, jp + 1, none⟩ = some (.int .i64 y) := fun w' h => (h.cell (p := ⟨g, jp + 1, none⟩) (World.block_lt_of_cell? _ _ HY.out)).trans HY.out
          have hcP : ∀ w', Below wr.heap.size wr w' → w'.cell? ⟨g, jp, none⟩ = some (.int .i64 p) := fun w' h => (h.cell (p := ⟨g, jp, none⟩) (World.block_lt_of_cell? _ _ HP.out)).trans HP.out
          have q1 : ((jp : Int) + 1).toNat = jp + 1 := by omega
          have q2 : (0 : Int) ≤ (jp : Int) + 1 := by omega
          have q3 : (jp : Int) + 1 < (xs.length : Int) := by omega
          have q4 : (jp : Int) < (xs.length : Int) := by omega
          have q5 : (0 : Int) < (jp : Int) + 1 := by omega
          have q6 : IntKind.i64.wrap (jp : Int) = (jp : Int) := by rw [IntKind.wrap_i64]; omega
          clear HY HP zjp
          cases hcv : decide (trn f y < trn f p) with
          | true =>
            have hlt2 : trn f y < trn f p := of_decide_eq_true hcv
            have HGO := Lib.hid (HGO.out hlt2)
            obtain ⟨cv, hcmp⟩ : ∃ cv, cmpI (shOf y f.sh).t (shOf p f.sh).t = cv := ⟨_, rfl⟩
            have hneg : cv < 0 := by have h9 := cmpI_neg (a := (shOf y f.sh).t) (b := (shOf p f.sh).t); rw [hcmp] at h9; exact of_decide_eq_true (h9.trans hcv)
            clear hcv hlt2 HEND
            go_wp2_with fail
            refine wp_region_noPanic ?_
            refine wp_region_held_drew (S := (fun w' => Below wr.heap.size wr w')) (by kernel_rfl) ?_ (fun hHeld => ?_)
            · ((try dsimp only); exact (Below.refl _ _).drew)
            refine take_yes (i := 0) (d := 18) (v := ?_) rfl rfl (by kernel_rfl) (by kernel_rfl) (by kernel_rfl) (fun _ _ _ h => h) (by kernel_rfl) ?_ hHeld ?_
            rotate_left
            · (intro w hSw; (try dsimp only at hSw); go_simp; try (with_reducible rfl))
            try simp only [Act.put, List.setIfInBounds_toArray, List.set_cons_zero, List.set_cons_succ]
            refine take_yes (i := 1) (d := 19) (v := ?_) rfl rfl (by kernel_rfl) (by kernel_rfl) (by kernel_rfl) (fun _ _ _ h => h) (by kernel_rfl) ?_ hHeld ?_
            rotate_left
            · (intro w hSw; (try dsimp only at hSw); go_simp; try (with_reducible rfl))
            try simp only [Act.put, List.setIfInBounds_toArray, List.set_cons_zero, List.set_cons_succ]
            refine take_yes (i := 2) (d := 20) (v := ?_) rfl rfl (by kernel_rfl) (by kernel_rfl) (by kernel_rfl) (fun _ _ _ h => h) (by kernel_rfl) ?_ hHeld ?_
            rotate_left
            · (intro w hSw; (try dsimp only at hSw); go_simp; try (with_reducible rfl))
            try simp only [Act.put, List.setIfInBounds_toArray, List.set_cons_zero, List.set_cons_succ]
            refine take_yes (i := 3) (d := 21) (v := ?_) rfl rfl (by kernel_rfl) (by kernel_rfl) (by kernel_rfl) (fun _ _ _ h => h) (by kernel_rfl) ?_ hHeld ?_
            rotate_left
            · (intro w hSw; (try dsimp only at hSw); go_simp; try (with_reducible rfl))
            try simp only [Act.put, List.setIfInBounds_toArray, List.set_cons_zero, List.set_cons_succ]
            refine take_yes (i := 4) (d := 22) (v := ?_) rfl rfl (by kernel_rfl) (by kernel_rfl) (by kernel_rfl) (fun _ _ _ h => h) (by kernel_rfl) ?_ hHeld ?_
            rotate_left
            · (intro w hSw; (try dsimp only at hSw); go_simp; try (with_reducible rfl))
            try simp only [Act.put, List.setIfInBounds_toArray, List.set_cons_zero, List.set_cons_succ]
            refine take_yes (i := 5) (d := 23) (v := ?_) rfl rfl (by kernel_rfl) (by kernel_rfl) (by kernel_rfl) (fun _ _ _ h => h) (by kernel_rfl) ?_ hHeld ?_
            rotate_left
            · (intro w hSw; (try dsimp only at hSw); go_simp; try (with_reducible rfl))
            try simp only [Act.put, List.setIfInBounds_toArray, List.set_cons_zero, List.set_cons_succ]
            refine take_yes (i := 6) (d := 24) (v := ?_) rfl rfl (by kernel_rfl) (by kernel_rfl) (by kernel_rfl) (fun _ _ _ h => h) (by kernel_rfl) ?_ hHeld ?_
            rotate_left
            · (intro w hSw; (try dsimp only at hSw); go_simp; try (with_reducible rfl))
            try simp only [Act.put, List.setIfInBounds_toArray, List.set_cons_zero, List.set_cons_succ]
            refine take_yes (i := 7) (d := 25) (v := ?_) rfl rfl (by kernel_rfl) (by kernel_rfl) (by kernel_rfl) (fun _ _ _ h => h) (by kernel_rfl) ?_ hHeld ?_
            rotate_left
            · (intro w hSw; (try dsimp only at hSw); go_simp; try (with_reducible rfl))
            try simp only [Act.put, List.setIfInBounds_toArray, List.set_cons_zero, List.set_cons_succ]
            refine take_yes (i := 8) (d := 26) (v := (.int .i64 y)) rfl rfl (by kernel_rfl) (by kernel_rfl) (by kernel_rfl) (fun _ _ _ h => h) (by kernel_rfl) ?_ hHeld ?_
            · (intro w hSw; (try dsimp only at hSw); have k1 := hcY w hSw; have k2 := hcP w hSw; go_simp; try (with_reducible rfl))
            try simp only [Act.put, List.setIfInBounds_toArray, List.set_cons_zero, List.set_cons_succ]
            refine take_yes (i := 9) (d := 27) (v := ?_) rfl rfl (by kernel_rfl) (by kernel_rfl) (by kernel_rfl) (fun _ _ _ h => h) (by kernel_rfl) ?_ hHeld ?_
            rotate_left
            · (intro w hSw; (try dsimp only at hSw); go_simp; try (with_reducible rfl))
            try simp only [Act.put, List.setIfInBounds_toArray, List.set_cons_zero, List.set_cons_succ]
            refine take_yes (i := 10) (d := 28) (v := ?_) rfl rfl (by kernel_rfl) (by kernel_rfl) (by kernel_rfl) (fun _ _ _ h => h) (by kernel_rfl) ?_ hHeld ?_
            rotate_left
            · (intro w hSw; (try dsimp only at hSw); go_simp; try (with_reducible rfl))
            try simp only [Act.put, List.setIfInBounds_toArray, List.set_cons_zero, List.set_cons_succ]
            refine take_yes (i := 11) (d := 29) (v := ?_) rfl rfl (by kernel_rfl) (by kernel_rfl) (by kernel_rfl) (fun _ _ _ h => h) (by kernel_rfl) ?_ hHeld ?_
            rotate_left
            · (intro w hSw; (try dsimp only at hSw); go_simp; try (with_reducible rfl))
            try simp only [Act.put, List.setIfInBounds_toArray, List.set_cons_zero, List.set_cons_succ]
            refine take_yes (i := 12) (d := 30) (v := ?_) rfl rfl (by kernel_rfl) (by kernel_rfl) (by kernel_rfl) (fun _ _ _ h => h) (by kernel_rfl) ?_ hHeld ?_
            rotate_left
            · (intro w hSw; (try dsimp only at hSw); go_simp; try (with_reducible rfl))
            try simp only [Act.put, List.setIfInBounds_toArray, List.set_cons_zero, List.set_cons_succ]
            refine take_yes (i := 13) (d := 31) (v := (.int .i64 p)) rfl rfl (by kernel_rfl) (by kernel_rfl) (by kernel_rfl) (fun _ _ _ h => h) (by kernel_rfl) ?_ hHeld ?_
            · (intro w hSw; (try dsimp only at hSw); have k1 := hcY w hSw; have k2 := hcP w hSw; go_simp; try (with_reducible rfl))
            try simp only [Act.put, List.setIfInBounds_toArray, List.set_cons_zero, List.set_cons_succ]
            refine wpAnyH_ready (rs := [14]) (by kernel_rfl) (by simp) ?_
            refine AllReadyH.cons rfl (fun K hK => ?_) AllReadyH.nil
            go_simp
            refine (cmpShare_any A D c d q f y p _ (HD.out.below (HB.out.trans (hHeld.mono HB.out.size))) hn (HQ.out.below (HB.out.trans (hHeld.mono HB.out.size)) hql) (Nat.lt_of_lt_of_le hql (HB.out.trans (hHeld.mono HB.out.size)).size)).mono ?_
            rintro e w1 ⟨rfl, hb⟩
            have HBk := Lib.hid (after hHeld hb)
            clear hb
            rw [hcmp]
            (first | refine hK.out _ _ ?_ (fun hHeld1 => ?_) | (go_wp2_with fail; refine hK.out _ _ ?_ (fun hHeld1 => ?_)))
            · ((try dsimp only); exact HBk.out)
            clear hK K hHeld
            have hHeld := hHeld1
            clear hHeld1
            try simp only [Act.put, List.setIfInBounds_toArray, List.set_cons_zero, List.set_cons_succ]
            clear HBk
            refine take_yes (i := 15) (d := 33) (v := (.bool true)) rfl rfl (by kernel_rfl) (by kernel_rfl) (by kernel_rfl) (fun _ _ _ h => h) (by kernel_rfl) ?_ hHeld ?_
            · (intro w hSw; (try dsimp only at hSw); go_simp; try (with_reducible rfl))
            try simp only [Act.put, List.setIfInBounds_toArray, List.set_cons_zero, List.set_cons_succ]
            refine take_yes (i := 16) (d := 34) (v := (.bool true)) rfl rfl (by kernel_rfl) (by kernel_rfl) (by kernel_rfl) (fun _ _ _ h => h) (by kernel_rfl) ?_ hHeld ?_
            · (intro w hSw; (try dsimp only at hSw); go_simp; try (with_reducible rfl))
            try simp only [Act.put, List.setIfInBounds_toArray, List.set_cons_zero, List.set_cons_succ]
            refine wpAnyH_done (by kernel_rfl) ?_ _
            refine NoPanic.normal ?_
            have HB2 := Lib.hid (HB.out.trans (hHeld.mono HB.out.size))
            have HO2 := Lib.hid (own_keep HO.out hHeld)
            have kY := hcY _ hHeld
            have kP := hcP _ hHeld
            have z0 := HO2.out.frozenAt (jp + 1)
            have z1 := HO2.out.frozenAt jp
            clear hHeld hcY hcP HB HO hneg hcmp
            go_wp2_with fail
            go_big_region
            have HS := Lib.hid (own_drew (own_set (t := jp) (own_set (t := jp + 1) HO2.out p) y))
            have HB3 := Lib.hid (show Below w0.heap.size w0 ((w1.setCell ⟨g, jp + 1, none⟩ (.int .i64 p)).setCell ⟨g, jp, none⟩ (.int .i64 y)).drew from ((HB2.out.setCell (HO2.out.lt g rfl).1 _).setCell (HO2.out.lt g rfl).1 _).drew)
            clear kY kP z0 z1 HO2 HB2
            generalize ((w1.setCell ⟨g, jp + 1, none⟩ (.int .i64 p)).setCell ⟨g, jp, none⟩ (.int .i64 y)).drew = w3 at HS HB3 ⊢
            go_wp2
            go_roundw
            case rel => exact ⟨jp, by omega, by go_num, Lib.hid (by rw [hy.out]; exact HGO.out), Lib.hid (by have h9 := HS.out; have h8 : ((midS (trn f) xs i (jp + 1)).set (jp + 1) p).set jp y = midS (trn f) xs i jp := (by unfold midS; rw [hy.out]; exact HSW.out); rw [h8] at h9; exact h9), HB3⟩
            case measure => simp [intOf]; try omega
          | false =>
            have hlt2 : ¬ trn f y < trn f p := of_decide_eq_false hcv
            have HEN2 : Hid (midS (trn f) xs i (jp + 1) = rowS (trn f) xs (i + 1)) := Lib.hid (HEND.out hlt2)
            obtain ⟨cv, hcmp⟩ : ∃ cv, cmpI (shOf y f.sh).t (shOf p f.sh).t = cv := ⟨_, rfl⟩
            have hneg : ¬ cv < 0 := by have h9 := cmpI_neg (a := (shOf y f.sh).t) (b := (shOf p f.sh).t); rw [hcmp] at h9; exact of_decide_eq_false (h9.trans hcv)
            clear hcv hlt2 HGO HEND
            go_wp2_with fail
            refine wp_region_noPanic ?_
            refine wp_region_held_drew (S := (fun w' => Below wr.heap.size wr w')) (by kernel_rfl) ?_ (fun hHeld => ?_)
            · ((try dsimp only); exact (Below.refl _ _).drew)
            refine take_yes (i := 0) (d := 18) (v := ?_) rfl rfl (by kernel_rfl) (by kernel_rfl) (by kernel_rfl) (fun _ _ _ h => h) (by kernel_rfl) ?_ hHeld ?_
            rotate_left
            · (intro w hSw; (try dsimp only at hSw); go_simp; try (with_reducible rfl))
            try simp only [Act.put, List.setIfInBounds_toArray, List.set_cons_zero, List.set_cons_succ]
            refine take_yes (i := 1) (d := 19) (v := ?_) rfl rfl (by kernel_rfl) (by kernel_rfl) (by kernel_rfl) (fun _ _ _ h => h) (by kernel_rfl) ?_ hHeld ?_
            rotate_left
            · (intro w hSw; (try dsimp only at hSw); go_simp; try (with_reducible rfl))
            try simp only [Act.put, List.setIfInBounds_toArray, List.set_cons_zero, List.set_cons_succ]
            refine take_yes (i := 2) (d := 20) (v := ?_) rfl rfl (by kernel_rfl) (by kernel_rfl) (by kernel_rfl) (fun _ _ _ h => h) (by kernel_rfl) ?_ hHeld ?_
            rotate_left
            · (intro w hSw; (try dsimp only at hSw); go_simp; try (with_reducible rfl))
            try simp only [Act.put, List.setIfInBounds_toArray, List.set_cons_zero, List.set_cons_succ]
            refine take_yes (i := 3) (d := 21) (v := ?_) rfl rfl (by kernel_rfl) (by kernel_rfl) (by kernel_rfl) (fun _ _ _ h => h) (by kernel_rfl) ?_ hHeld ?_
            rotate_left
            · (intro w hSw; (try dsimp only at hSw); go_simp; try (with_reducible rfl))
            try simp only [Act.put, List.setIfInBounds_toArray, List.set_cons_zero, List.set_cons_succ]
            refine take_yes (i := 4) (d := 22) (v := ?_) rfl rfl (by kernel_rfl) (by kernel_rfl) (by kernel_rfl) (fun _ _ _ h => h) (by kernel_rfl) ?_ hHeld ?_
            rotate_left
            · (intro w hSw; (try dsimp only at hSw); go_simp; try (with_reducible rfl))
            try simp only [Act.put, List.setIfInBounds_toArray, List.set_cons_zero, List.set_cons_succ]
            refine take_yes (i := 5) (d := 23) (v := ?_) rfl rfl (by kernel_rfl) (by kernel_rfl) (by kernel_rfl) (fun _ _ _ h => h) (by kernel_rfl) ?_ hHeld ?_
            rotate_left
            · (intro w hSw; (try dsimp only at hSw); go_simp; try (with_reducible rfl))
            try simp only [Act.put, List.setIfInBounds_toArray, List.set_cons_zero, List.set_cons_succ]
            refine take_yes (i := 6) (d := 24) (v := ?_) rfl rfl (by kernel_rfl) (by kernel_rfl) (by kernel_rfl) (fun _ _ _ h => h) (by kernel_rfl) ?_ hHeld ?_
            rotate_left
            · (intro w hSw; (try dsimp only at hSw); go_simp; try (with_reducible rfl))
            try simp only [Act.put, List.setIfInBounds_toArray, List.set_cons_zero, List.set_cons_succ]
            refine take_yes (i := 7) (d := 25) (v := ?_) rfl rfl (by kernel_rfl) (by kernel_rfl) (by kernel_rfl) (fun _ _ _ h => h) (by kernel_rfl) ?_ hHeld ?_
            rotate_left
            · (intro w hSw; (try dsimp only at hSw); go_simp; try (with_reducible rfl))
            try simp only [Act.put, List.setIfInBounds_toArray, List.set_cons_zero, List.set_cons_succ]
            refine take_yes (i := 8) (d := 26) (v := (.int .i64 y)) rfl rfl (by kernel_rfl) (by kernel_rfl) (by kernel_rfl) (fun _ _ _ h => h) (by kernel_rfl) ?_ hHeld ?_
            · (intro w hSw; (try dsimp only at hSw); have k1 := hcY w hSw; have k2 := hcP w hSw; go_simp; try (with_reducible rfl))
            try simp only [Act.put, List.setIfInBounds_toArray, List.set_cons_zero, List.set_cons_succ]
            refine take_yes (i := 9) (d := 27) (v := ?_) rfl rfl (by kernel_rfl) (by kernel_rfl) (by kernel_rfl) (fun _ _ _ h => h) (by kernel_rfl) ?_ hHeld ?_
            rotate_left
            · (intro w hSw; (try dsimp only at hSw); go_simp; try (with_reducible rfl))
            try simp only [Act.put, List.setIfInBounds_toArray, List.set_cons_zero, List.set_cons_succ]
            refine take_yes (i := 10) (d := 28) (v := ?_) rfl rfl (by kernel_rfl) (by kernel_rfl) (by kernel_rfl) (fun _ _ _ h => h) (by kernel_rfl) ?_ hHeld ?_
            rotate_left
            · (intro w hSw; (try dsimp only at hSw); go_simp; try (with_reducible rfl))
            try simp only [Act.put, List.setIfInBounds_toArray, List.set_cons_zero, List.set_cons_succ]
            refine take_yes (i := 11) (d := 29) (v := ?_) rfl rfl (by kernel_rfl) (by kernel_rfl) (by kernel_rfl) (fun _ _ _ h => h) (by kernel_rfl) ?_ hHeld ?_
            rotate_left
            · (intro w hSw; (try dsimp only at hSw); go_simp; try (with_reducible rfl))
            try simp only [Act.put, List.setIfInBounds_toArray, List.set_cons_zero, List.set_cons_succ]
            refine take_yes (i := 12) (d := 30) (v := ?_) rfl rfl (by kernel_rfl) (by kernel_rfl) (by kernel_rfl) (fun _ _ _ h => h) (by kernel_rfl) ?_ hHeld ?_
            rotate_left
            · (intro w hSw; (try dsimp only at hSw); go_simp; try (with_reducible rfl))
            try simp only [Act.put, List.setIfInBounds_toArray, List.set_cons_zero, List.set_cons_succ]
            refine take_yes (i := 13) (d := 31) (v := (.int .i64 p)) rfl rfl (by kernel_rfl) (by kernel_rfl) (by kernel_rfl) (fun _ _ _ h => h) (by kernel_rfl) ?_ hHeld ?_
            · (intro w hSw; (try dsimp only at hSw); have k1 := hcY w hSw; have k2 := hcP w hSw; go_simp; try (with_reducible rfl))
            try simp only [Act.put, List.setIfInBounds_toArray, List.set_cons_zero, List.set_cons_succ]
            refine wpAnyH_ready (rs := [14]) (by kernel_rfl) (by simp) ?_
            refine AllReadyH.cons rfl (fun K hK => ?_) AllReadyH.nil
            go_simp
            refine (cmpShare_any A D c d q f y p _ (HD.out.below (HB.out.trans (hHeld.mono HB.out.size))) hn (HQ.out.below (HB.out.trans (hHeld.mono HB.out.size)) hql) (Nat.lt_of_lt_of_le hql (HB.out.trans (hHeld.mono HB.out.size)).size)).mono ?_
            rintro e w1 ⟨rfl, hb⟩
            have HBk := Lib.hid (after hHeld hb)
            clear hb
            rw [hcmp]
            (first | refine hK.out _ _ ?_ (fun hHeld1 => ?_) | (go_wp2_with fail; refine hK.out _ _ ?_ (fun hHeld1 => ?_)))
            · ((try dsimp only); exact HBk.out)
            clear hK K hHeld
            have hHeld := hHeld1
            clear hHeld1
            try simp only [Act.put, List.setIfInBounds_toArray, List.set_cons_zero, List.set_cons_succ]
            clear HBk
            refine take_yes (i := 15) (d := 33) (v := (.bool false)) rfl rfl (by kernel_rfl) (by kernel_rfl) (by kernel_rfl) (fun _ _ _ h => h) (by kernel_rfl) ?_ hHeld ?_
            · (intro w hSw; (try dsimp only at hSw); go_simp; try (with_reducible rfl))
            try simp only [Act.put, List.setIfInBounds_toArray, List.set_cons_zero, List.set_cons_succ]
            refine take_yes (i := 16) (d := 34) (v := (.bool false)) rfl rfl (by kernel_rfl) (by kernel_rfl) (by kernel_rfl) (fun _ _ _ h => h) (by kernel_rfl) ?_ hHeld ?_
            · (intro w hSw; (try dsimp only at hSw); go_simp; try (with_reducible rfl))
            try simp only [Act.put, List.setIfInBounds_toArray, List.set_cons_zero, List.set_cons_succ]
            refine wpAnyH_done (by kernel_rfl) ?_ _
            refine NoPanic.normal ?_
            have HB2 := Lib.hid (HB.out.trans (hHeld.mono HB.out.size))
            have HO2 := Lib.hid (own_keep HO.out hHeld)
            clear hHeld hcY hcP HB HO hneg hcmp
            go_wp2
            go_roundw
            case rel => exact ⟨i + 1, by omega, .inl (by omega), by go_num, Lib.hid (by rw [← HEN2.out]; exact HO2.out), HB2⟩
            case measure => simp [intOf]; try omega
        · obtain rfl : j = 0 := by omega
          have HEND := Lib.hid (midS_end (t := trn f) hlt hji HG.out (fun p hp1 _ => absurd hp1 (by omega)))
          clear HG
          go_wp2_with fail
          refine wp_region_noPanic ?_
          refine wp_region_held_drew (S := (fun w' => Below wr.heap.size wr w')) (by kernel_rfl) ?_ (fun hHeld => ?_)
          · ((try dsimp only); exact (Below.refl _ _).drew)
          refine take_yes (i := 0) (d := 18) (v := ?_) rfl rfl (by kernel_rfl) (by kernel_rfl) (by kernel_rfl) (fun _ _ _ h => h) (by kernel_rfl) ?_ hHeld ?_
          rotate_left
          · (intro w hSw; (try dsimp only at hSw); go_simp; try (with_reducible rfl))
          try simp only [Act.put, List.setIfInBounds_toArray, List.set_cons_zero, List.set_cons_succ]
          refine take_yes (i := 1) (d := 19) (v := ?_) rfl rfl (by kernel_rfl) (by kernel_rfl) (by kernel_rfl) (fun _ _ _ h => h) (by kernel_rfl) ?_ hHeld ?_
          rotate_left
          · (intro w hSw; (try dsimp only at hSw); go_simp; try (with_reducible rfl))
          try simp only [Act.put, List.setIfInBounds_toArray, List.set_cons_zero, List.set_cons_succ]
          refine take_yes (i := 2) (d := 20) (v := ?_) rfl rfl (by kernel_rfl) (by kernel_rfl) (by kernel_rfl) (fun _ _ _ h => h) (by kernel_rfl) ?_ hHeld ?_
          rotate_left
          · (intro w hSw; (try dsimp only at hSw); go_simp; try (with_reducible rfl))
          try simp only [Act.put, List.setIfInBounds_toArray, List.set_cons_zero, List.set_cons_succ]
          refine take_yes (i := 3) (d := 21) (v := ?_) rfl rfl (by kernel_rfl) (by kernel_rfl) (by kernel_rfl) (fun _ _ _ h => h) (by kernel_rfl) ?_ hHeld ?_
          rotate_left
          · (intro w hSw; (try dsimp only at hSw); go_simp; try (with_reducible rfl))
          try simp only [Act.put, List.setIfInBounds_toArray, List.set_cons_zero, List.set_cons_succ]
          refine take_no (i := 4) (d := 22) rfl rfl (by kernel_rfl) (by kernel_rfl) (by kernel_rfl) (fun _ _ _ h => h) (by kernel_rfl) hHeld ?_
          try simp only [Act.put, List.setIfInBounds_toArray, List.set_cons_zero, List.set_cons_succ]
          refine take_no (i := 5) (d := 23) rfl rfl (by kernel_rfl) (by kernel_rfl) (by kernel_rfl) (fun _ _ _ h => h) (by kernel_rfl) hHeld ?_
          try simp only [Act.put, List.setIfInBounds_toArray, List.set_cons_zero, List.set_cons_succ]
          refine take_no (i := 6) (d := 24) rfl rfl (by kernel_rfl) (by kernel_rfl) (by kernel_rfl) (fun _ _ _ h => h) (by kernel_rfl) hHeld ?_
          try simp only [Act.put, List.setIfInBounds_toArray, List.set_cons_zero, List.set_cons_succ]
          refine take_no (i := 7) (d := 25) rfl rfl (by kernel_rfl) (by kernel_rfl) (by kernel_rfl) (fun _ _ _ h => h) (by kernel_rfl) hHeld ?_
          try simp only [Act.put, List.setIfInBounds_toArray, List.set_cons_zero, List.set_cons_succ]
          refine take_no (i := 8) (d := 26) rfl rfl (by kernel_rfl) (by kernel_rfl) (by kernel_rfl) (fun _ _ _ h => h) (by kernel_rfl) hHeld ?_
          try simp only [Act.put, List.setIfInBounds_toArray, List.set_cons_zero, List.set_cons_succ]
          refine take_no (i := 9) (d := 27) rfl rfl (by kernel_rfl) (by kernel_rfl) (by kernel_rfl) (fun _ _ _ h => h) (by kernel_rfl) hHeld ?_
          try simp only [Act.put, List.setIfInBounds_toArray, List.set_cons_zero, List.set_cons_succ]
          refine take_no (i := 10) (d := 28) rfl rfl (by kernel_rfl) (by kernel_rfl) (by kernel_rfl) (fun _ _ _ h => h) (by kernel_rfl) hHeld ?_
          try simp only [Act.put, List.setIfInBounds_toArray, List.set_cons_zero, List.set_cons_succ]
          refine take_no (i := 11) (d := 29) rfl rfl (by kernel_rfl) (by kernel_rfl) (by kernel_rfl) (fun _ _ _ h => h) (by kernel_rfl) hHeld ?_
          try simp only [Act.put, List.setIfInBounds_toArray, List.set_cons_zero, List.set_cons_succ]
          refine take_no (i := 12) (d := 30) rfl rfl (by kernel_rfl) (by kernel_rfl) (by kernel_rfl) (fun _ _ _ h => h) (by kernel_rfl) hHeld ?_
          try simp only [Act.put, List.setIfInBounds_toArray, List.set_cons_zero, List.set_cons_succ]
          refine take_no (i := 13) (d := 31) rfl rfl (by kernel_rfl) (by kernel_rfl) (by kernel_rfl) (fun _ _ _ h => h) (by kernel_rfl) hHeld ?_
          try simp only [Act.put, List.setIfInBounds_toArray, List.set_cons_zero, List.set_cons_succ]
          refine take_no (i := 14) (d := 32) rfl rfl (by kernel_rfl) (by kernel_rfl) (by kernel_rfl) (fun _ _ _ h => h) (by kernel_rfl) hHeld ?_
          try simp only [Act.put, List.setIfInBounds_toArray, List.set_cons_zero, List.set_cons_succ]
          refine take_no (i := 15) (d := 33) rfl rfl (by kernel_rfl) (by kernel_rfl) (by kernel_rfl) (fun _ _ _ h => h) (by kernel_rfl) hHeld ?_
          try simp only [Act.put, List.setIfInBounds_toArray, List.set_cons_zero, List.set_cons_succ]
          refine take_yes (i := 16) (d := 34) (v := (.bool false)) rfl rfl (by kernel_rfl) (by kernel_rfl) (by kernel_rfl) (fun _ _ _ h => h) (by kernel_rfl) ?_ hHeld ?_
          · (intro w hSw; (try dsimp only at hSw); go_simp; try (with_reducible rfl))
          try simp only [Act.put, List.setIfInBounds_toArray, List.set_cons_zero, List.set_cons_succ]
          refine wpAnyH_done (by kernel_rfl) ?_ _
          refine NoPanic.normal ?_
          have HB2 := Lib.hid (HB.out.trans (hHeld.mono HB.out.size))
          have HO2 := Lib.hid (own_keep HO.out hHeld)
          clear hHeld HB HO
          go_wp2
          go_roundw
          case rel => exact ⟨i + 1, by omega, .inl (by omega), by go_num, Lib.hid (by rw [← HEND.out]; exact HO2.out), HB2⟩
          case measure => simp [intOf]; try omega
    · have i1 : ¬ (i : Int) < (xs.length : Int) := by omega
      go_wp2
      go_end0
      exact ⟨rfl, by have h9 := HO.out; rw [rowS_end _ _ (by omega)] at h9; exact h9, HB.out⟩
end Go.Proofs.Ytbpikbcnpmplfaa
