/- Numerals of numbers, and the texts of tallies, in the program and in the reference. Conditions: the ranges named. -/
import Derived.Test.YtajfbiihlfccnaaDoorSetc
import Derived.Test.YtajfbiihlfccnaaDoorSetc2
import Derived.Test.YtajfbiihlfccnaaDoorNum
import Derived.Test.YtajfbiihlfccnaaDoorShelf
import Derived.Lib.AppendIntMem
import Derived.BigQuiet
import Derived.Deep.DrawnRows
import Derived.Deep.QuietTactic
namespace Go.Proofs.YtajfbiihlfccnaaDoor
open Go.RowKit
set_option linter.unusedVariables false
set_option linter.unusedSimpArgs false
attribute [local go_sem ↓] Go.wp_at_zero Go.wp_at_succ
/-- The numeral of a number. -/
def dec (i : Nat) : ByteArray := ⟨(Go.Lib.decDigits i).toArray⟩
def dgtB (r : Nat) : ByteArray := ⟨#[UInt8.ofNat (48 + r)]⟩
theorem dec_low {i : Nat} (h : i < 10) : dec i = dgtB i := by unfold dec dgtB; rw [Go.Lib.decDigits, dif_pos h]
theorem dec_high {i : Nat} (h : 10 ≤ i) : dec i = dec (i / 10) ++ dgtB (i % 10) := by
  unfold dec dgtB
  conv => lhs; rw [Go.Lib.decDigits, dif_neg (by omega)]
  rw [ByteArray.mk_append_mk]
theorem dec_size : ∀ {i : Nat}, (dec i).size ≤ i + 1 := by
  intro i
  induction i using Nat.strongRecOn with
  | _ i ih =>
    rcases Nat.lt_or_ge i 10 with h | h
    · rw [dec_low h]; show 1 ≤ i + 1; omega
    · rw [dec_high h, ByteArray.size_append]
      have h1 := ih (i / 10) (by omega)
      have h2 : (dgtB (i % 10)).size = 1 := rfl
      omega
theorem dig_at {r : Nat} (h : r < 10) : (⟨#[48, 49, 50, 51, 52, 53, 54, 55, 56, 57]⟩ : ByteArray).extract r (r + 1) = dgtB r := by
  have h1 : r = 0 ∨ r = 1 ∨ r = 2 ∨ r = 3 ∨ r = 4 ∨ r = 5 ∨ r = 6 ∨ r = 7 ∨ r = 8 ∨ r = 9 := by omega
  rcases h1 with rfl | rfl | rfl | rfl | rfl | rfl | rfl | rfl | rfl | rfl <;> rfl
theorem drew_moreT {w wr : World} {n : Nat} (h : wr = w.drewN n) (m : Nat) : ∃ k, wr.drewN m = w.drewN k := by subst h; exact ⟨n + m, World.drewN_drewN _ _ _⟩
set_option maxHeartbeats 1000000 in
theorem l1Num_all : ∀ (i : Nat) (w : World), i ≤ 1000000 → Calls Tryd.prog 73 #[.int .i64 i] w fun e w' => e = .returned (.string (dec i)) ∧ ∃ m, w' = w.drewN m := by
  intro i
  induction i using Nat.strongRecOn with
  | _ i ih =>
  intro w hi
  have IH := Lib.hid ih
  clear ih
  have i0 : ¬ (i : Int) < 0 := by omega
  rcases Nat.lt_or_ge i 10 with h | h
  · have HD := Lib.hid ((dec_low h).trans (dig_at h).symm)
    have i1 : (i : Int) < 10 := by omega
    have q1 : IntKind.i64.wrap ((i : Int) + 1) = (i : Int) + 1 := by rw [IntKind.wrap_i64]; omega
    have i2 : (i : Int) + 1 ≤ 10 := by omega
    have i3 : (0 : Int) ≤ (i : Int) + 1 := by omega
    have i4 : ((i : Int) + 1).toNat = i + 1 := by omega
    go_enter Tryd.func73, Tryd.ntmps73
    go_wp2
    go_ret
    exact ⟨by rw [HD.out]; first | rfl | (simp; done), 0, rfl⟩
  · have HD := Lib.hid ((dec_high h).trans (congrArg (dec (i / 10) ++ ·) (dig_at (show i % 10 < 10 by omega)).symm))
    have i1 : ¬ (i : Int) < 10 := by omega
    have HN := Lib.hid (fun w => IH.out (i / 10) (by omega) w (by omega))
    have e1 : (i : Int) / 10 = ((i / 10 : Nat) : Int) := by omega
    have e2 : (i : Int) % 10 = ((i % 10 : Nat) : Int) := by omega
    have hsz := dec_size (i := i / 10)
    obtain ⟨j, hj⟩ : ∃ j, Hid (i / 10 = j) := ⟨_, Lib.hid rfl⟩
    obtain ⟨r, hr⟩ : ∃ r, Hid (i % 10 = r) := ⟨_, Lib.hid rfl⟩
    have hr10 : r < 10 := by have := hr.out; omega
    rw [hj.out] at HD HN e1 hsz
    rw [hr.out] at HD e2
    have hj2 : j ≤ 100000 := by have := hj.out; omega
    have q1 : IntKind.i64.wrap ((r : Int) + 1) = (r : Int) + 1 := by rw [IntKind.wrap_i64]; omega
    have i2 : (r : Int) + 1 ≤ 10 := by omega
    have i3 : (0 : Int) ≤ (r : Int) + 1 := by omega
    have i4 : ((r : Int) + 1).toNat = r + 1 := by omega
    have i5 : (r : Int) ≤ 10 := by omega
    have y1 : ¬ 9223372036854775807 < (dec j).size + ((⟨#[48, 49, 50, 51, 52, 53, 54, 55, 56, 57]⟩ : ByteArray).extract r (r + 1)).size := by rw [dig_at hr10]; show ¬ 9223372036854775807 < (dec j).size + 1; omega
    have q6 : IntKind.i64.wrap (j : Int) = (j : Int) := by rw [IntKind.wrap_i64]; omega
    clear hsz
    go_enter Tryd.func73, Tryd.ntmps73
    go_wp2
    go_quiet ((go_at_call 73; exact Go.Calls.quiet_of (HN.out _)))
    go_wp2
    go_ret
    exact ⟨by rw [HD.out]; first | rfl | (simp; done), _, rfl⟩
theorem take_yes {P : Program} {md : Region.Mode} {ops : Array Oper} {Q : Exit → Act → World → Prop} {S : World → Prop} {i d : Nat} {oi : Oper} {v : Value} {fuel : Nat} {listed : Array Bool} {a : Act} {w : World} (hi : ops[i]? = some oi) (hd : oi.dst = some d)
    (hs : Region.noSelect ops = true) (hf : Region.free md ops listed i = true) (hr : (Region.ready md ops listed).contains i = true) (hQ : ∀ c a w, Q (.panic c) (a.put (some d) v) w → Q (.panic c) a w) (hw : Region.wanted oi (yielded ops a.tmps) = true)
    (hy : ∀ w, S w → (execOp a.eval oi).run P w = .ok (.value v) w) (hS : S w) (h : wpAnyH P md ops Q S fuel (listed.setIfInBounds i true) (a.put (some d) v) w) : wpAnyH P md ops Q S (fuel + 1) listed a w :=
  wpAnyH_take hi hs hf hr (by rw [hd]; exact hQ) (Or.inl ⟨hw, hy⟩) hS (by rw [hd]; exact h)
theorem take_no {P : Program} {md : Region.Mode} {ops : Array Oper} {Q : Exit → Act → World → Prop} {S : World → Prop} {i d : Nat} {oi : Oper} {fuel : Nat} {listed : Array Bool} {a : Act} {w : World} (hi : ops[i]? = some oi) (hd : oi.dst = some d)
    (hs : Region.noSelect ops = true) (hf : Region.free md ops listed i = true) (hr : (Region.ready md ops listed).contains i = true) (hQ : ∀ c a w, Q (.panic c) (a.put (some d) undef) w → Q (.panic c) a w) (hw : Region.wanted oi (yielded ops a.tmps) = false)
    (hS : S w) (h : wpAnyH P md ops Q S fuel (listed.setIfInBounds i true) (a.put (some d) undef) w) : wpAnyH P md ops Q S (fuel + 1) listed a w :=
  wpAnyH_take hi hs hf hr (by rw [hd]; exact hQ) (Or.inr ⟨hw, rfl⟩) hS (by rw [hd]; exact h)
/-- The table of powers of ten is where the library reads it. -/
def Tab (w : World) : Prop := Go.Lib.TabBelow Tryd.prog w.heap.size w "internal/strconv.uint64pow10" .u64 Go.Lib.pow10Tab
theorem Tab.below {w w' : World} (h : Tab w) (hb : Below w.heap.size w w') : Tab w' := fun w2 h2 => h w2 (hb.trans (h2.mono hb.size))
theorem Tab.here {w : World} (h : Tab w) : Go.Lib.TabIs Tryd.prog w "internal/strconv.uint64pow10" .u64 Go.Lib.pow10Tab := h w (Below.refl _ _)
theorem grow_below (w : World) (os : Array Obj) : Below w.heap.size w (Go.Sort.grow w os) := ⟨rfl, rfl, rfl, by simp [Go.Sort.grow], fun k hk => by simp only [Go.Sort.grow]; rw [Array.getElem?_append_left hk]⟩
theorem itoa_any (i : Nat) (hi : i ≤ 100000) (w : World) (h : Tab w) : Calls Tryd.prog 77 #[.int .i64 i] w fun e w' => e = .returned (.string (dec i)) ∧ Below w.heap.size w w' := by
  refine (Tryd.strconv_Itoa (i : Int) (by omega) (by omega) w h.here).mono ?_
  rintro e w' ⟨rfl, k, os, rfl⟩
  refine ⟨by rw [Go.Lib.itoa_nonneg]; rfl, ?_⟩
  exact (below_drewN (Below.refl _ _) k).trans (grow_below (w.drewN k) os)
def vldT (y n a : Int) : Bool := inB y 0 1000 && inB n 0 1000 && inB a 0 1000
theorem vldT_iff {y n a : Int} : vldT y n a = true ↔ 0 ≤ y ∧ y ≤ 1000 ∧ 0 ≤ n ∧ n ≤ 1000 ∧ 0 ≤ a ∧ a ≤ 1000 := by
  unfold vldT; simp [inB_iff, and_assoc]
theorem areVotes_any (x : Int) (w : World) : Calls Tryd.prog 78 #[.int .i64 x] w fun e w' => e = .returned (.bool (inB x 0 1000)) ∧ w = w' := by
  go_enter Tryd.func78, Tryd.ntmps78
  go_wp2_with (go_at_call 70; refine (inside_any _ _ _ _).mono ?_; rintro e w' ⟨rfl, rfl⟩)
  go_ret
  exact ⟨rfl, rfl⟩
theorem l11Votes_any (x : Int) (w : World) : Calls Tryd.prog 74 #[.int .i64 x] w fun e w' => e = .returned (.bool (inB x 0 1000)) ∧ w = w' := by
  go_enter Tryd.func74, Tryd.ntmps74
  go_wp2_with (go_at_call 72; refine (l1In_any _ _ _ _).mono ?_; rintro e w' ⟨rfl, rfl⟩)
  go_ret
  exact ⟨rfl, rfl⟩
theorem isValidTally_any (y n a : Int) (w : World) : Calls Tryd.prog 46 #[.agg #[.int .i64 y, .int .i64 n, .int .i64 a]] w fun e w' => e = .returned (.bool (vldT y n a)) ∧ Below w.heap.size w w' := by
  go_enter Tryd.func46, Tryd.ntmps46
  go_wp2_with (go_at_call 78; refine (areVotes_any _ _).mono ?_; rintro e w' ⟨rfl, rfl⟩)
  all_goals (go_ret; exact ⟨ret_bool (by unfold vldT; simp [*]), below1 _ _⟩)
theorem l11Good_any (y n a : Int) (w : World) : Calls Tryd.prog 42 #[.agg #[.int .i64 y, .int .i64 n, .int .i64 a]] w fun e w' => e = .returned (.bool (vldT y n a)) ∧ Below w.heap.size w w' := by
  go_enter Tryd.func42, Tryd.ntmps42
  go_wp2_with (go_at_call 74; refine (l11Votes_any _ _).mono ?_; rintro e w' ⟨rfl, rfl⟩)
  all_goals (go_ret; exact ⟨ret_bool (by unfold vldT; simp [*]), below1 _ _⟩)
def yesB : ByteArray := ⟨#[32, 121, 101, 115, 44, 32]⟩
def noB : ByteArray := ⟨#[32, 110, 111]⟩
def cmB : ByteArray := ⟨#[44, 32]⟩
def absB : ByteArray := ⟨#[32, 97, 98, 115, 116, 97, 105, 110]⟩
def ttH (y n : Nat) : ByteArray := dec y ++ yesB ++ dec n ++ noB
/-- The text of a tally. -/
def ttS (y n a : Nat) : ByteArray := if 0 < a then ttH y n ++ (cmB ++ dec a ++ absB) else ttH y n
theorem tt_yes {y n a : Nat} (h : 0 < a) : ttS y n a = ttH y n ++ (cmB ++ dec a ++ absB) := if_pos h
theorem tt_no {y n a : Nat} (h : ¬ 0 < a) : ttS y n a = ttH y n := if_neg h
theorem ttH_size (y n : Nat) : (ttH y n).size = (dec y).size + 6 + (dec n).size + 3 := by
  unfold ttH
  rw [ByteArray.size_append, ByteArray.size_append, ByteArray.size_append]
  rfl
set_option maxHeartbeats 2000000 in
theorem tallyText_any (y n a : Nat) (hy : y ≤ 1000) (hn : n ≤ 1000) (ha : a ≤ 1000) (w : World) (ht : Tab w) :
    Calls Tryd.prog 47 #[.agg #[.int .i64 y, .int .i64 n, .int .i64 a]] w fun e w' => e = .returned (.string (ttS y n a)) ∧ Below w.heap.size w w' := by
  have HT := Lib.hid (ht.below (below1 w (.cells #[.int .i64 y, .int .i64 n, .int .i64 a] 23)))
  have HB := Lib.hid (below1 w (.cells #[.int .i64 y, .int .i64 n, .int .i64 a] 23))
  have NX := Lib.hid (show BoxF (w.alloc (.cells #[.int .i64 y, .int .i64 n, .int .i64 a] 23)) w.heap.size [.int .i64 y, .int .i64 n, .int .i64 a] from BoxF.new' w _ _ _ rfl)
  have hz : w.heap.size < (w.alloc (.cells #[.int .i64 y, .int .i64 n, .int .i64 a] 23)).heap.size := by simp
  have hs1 := dec_size (i := y)
  have hs2 := dec_size (i := n)
  have hs3 := dec_size (i := a)
  have hs4 := ttH_size y n
  have y1 : ¬ 9223372036854775807 < (dec y).size + 6 := by omega
  have y2 : ¬ 9223372036854775807 < (dec y).size + 6 + (dec n).size := by omega
  have y3 : ¬ 9223372036854775807 < (dec y).size + 6 + (dec n).size + 3 := by omega
  have y4 : ¬ 9223372036854775807 < 2 + (dec a).size := by omega
  have y5 : ¬ 9223372036854775807 < 2 + (dec a).size + 8 := by omega
  have y6 : ¬ 9223372036854775807 < (ttH y n).size + (2 + (dec a).size + 8) := by omega
  have HTT := Lib.hid (show dec y ++ (⟨#[32, 121, 101, 115, 44, 32]⟩ : ByteArray) ++ dec n ++ (⟨#[32, 110, 111]⟩ : ByteArray) = ttH y n from rfl)
  clear ht hs1 hs2 hs3 hs4
  go_enter Tryd.func47, Tryd.ntmps47
  go_wp2_with fail
  generalize (w.alloc (.cells #[.int .i64 y, .int .i64 n, .int .i64 a] 23)) = W at *
  have c0 : ∀ w', Below W.heap.size W w' → w'.cell? ⟨w.heap.size, 0, none⟩ = some (.int .i64 y) := fun w' h => (NX.out.below h hz).1 0 _ rfl
  have c1 : ∀ w', Below W.heap.size W w' → w'.cell? ⟨w.heap.size, 1, none⟩ = some (.int .i64 n) := fun w' h => (NX.out.below h hz).1 1 _ rfl
  refine wp_region_noPanic ?_
  refine wp_region_held_drew (S := (fun w' => Below W.heap.size W w')) (by kernel_rfl) ?_ (fun hHeld => ?_)
  · ((try dsimp only); exact (Below.refl _ _).drew)
  refine take_yes (i := 0) (d := 4) (v := ?_) rfl rfl (by kernel_rfl) (by kernel_rfl) (by kernel_rfl) (fun _ _ _ h => h) (by kernel_rfl) ?_ hHeld ?_
  rotate_left
  · (intro w hSw; (try dsimp only at hSw); go_simp; try (with_reducible rfl))
  try simp only [Act.put, List.setIfInBounds_toArray, List.set_cons_zero, List.set_cons_succ]
  refine take_yes (i := 1) (d := 5) (v := (.int .i64 y)) rfl rfl (by kernel_rfl) (by kernel_rfl) (by kernel_rfl) (fun _ _ _ h => h) (by kernel_rfl) ?_ hHeld ?_
  · (intro w hSw; (try dsimp only at hSw); have k1 := c0 w hSw; go_simp; try (with_reducible rfl))
  try simp only [Act.put, List.setIfInBounds_toArray, List.set_cons_zero, List.set_cons_succ]
  refine take_yes (i := 4) (d := 8) (v := ?_) rfl rfl (by kernel_rfl) (by kernel_rfl) (by kernel_rfl) (fun _ _ _ h => h) (by kernel_rfl) ?_ hHeld ?_
  rotate_left
  · (intro w hSw; (try dsimp only at hSw); go_simp; try (with_reducible rfl))
  try simp only [Act.put, List.setIfInBounds_toArray, List.set_cons_zero, List.set_cons_succ]
  refine take_yes (i := 5) (d := 9) (v := (.int .i64 n)) rfl rfl (by kernel_rfl) (by kernel_rfl) (by kernel_rfl) (fun _ _ _ h => h) (by kernel_rfl) ?_ hHeld ?_
  · (intro w hSw; (try dsimp only at hSw); have k1 := c1 w hSw; go_simp; try (with_reducible rfl))
  try simp only [Act.put, List.setIfInBounds_toArray, List.set_cons_zero, List.set_cons_succ]
  refine wpAnyH_ready (rs := [2]) (by kernel_rfl) (by simp) ?_
  refine AllReadyH.cons rfl (fun K hK => ?_) AllReadyH.nil
  go_simp
  refine (itoa_any y (by omega) _ (HT.out.below hHeld)).mono ?_
  rintro e w1 ⟨rfl, hb⟩
  have HBk := Lib.hid (after hHeld hb)
  clear hb
  (first | refine hK.out _ _ ?_ (fun hHeld1 => ?_) | (go_wp2_with fail; refine hK.out _ _ ?_ (fun hHeld1 => ?_)))
  · ((try dsimp only); exact HBk.out)
  clear hK K hHeld
  have hHeld := hHeld1
  clear hHeld1
  try simp only [Act.put, List.setIfInBounds_toArray, List.set_cons_zero, List.set_cons_succ]
  clear HBk
  refine take_yes (i := 3) (d := 7) (v := ?_) rfl rfl (by kernel_rfl) (by kernel_rfl) (by kernel_rfl) (fun _ _ _ h => h) (by kernel_rfl) ?_ hHeld ?_
  rotate_left
  · (intro w hSw; (try dsimp only at hSw); go_simp; try (with_reducible rfl))
  try simp only [Act.put, List.setIfInBounds_toArray, List.set_cons_zero, List.set_cons_succ]
  refine wpAnyH_ready (rs := [6]) (by kernel_rfl) (by simp) ?_
  refine AllReadyH.cons rfl (fun K hK => ?_) AllReadyH.nil
  go_simp
  refine (itoa_any n (by omega) _ (HT.out.below hHeld)).mono ?_
  rintro e w1 ⟨rfl, hb⟩
  have HBk := Lib.hid (after hHeld hb)
  clear hb
  (first | refine hK.out _ _ ?_ (fun hHeld1 => ?_) | (go_wp2_with fail; refine hK.out _ _ ?_ (fun hHeld1 => ?_)))
  · ((try dsimp only); exact HBk.out)
  clear hK K hHeld
  have hHeld := hHeld1
  clear hHeld1
  try simp only [Act.put, List.setIfInBounds_toArray, List.set_cons_zero, List.set_cons_succ]
  clear HBk
  refine take_yes (i := 7) (d := 11) (v := ?_) rfl rfl (by kernel_rfl) (by kernel_rfl) (by kernel_rfl) (fun _ _ _ h => h) (by kernel_rfl) ?_ hHeld ?_
  rotate_left
  · (intro w hSw; (try dsimp only at hSw); go_simp; try (with_reducible rfl))
  try simp only [Act.put, List.setIfInBounds_toArray, List.set_cons_zero, List.set_cons_succ]
  refine take_yes (i := 8) (d := 12) (v := ?_) rfl rfl (by kernel_rfl) (by kernel_rfl) (by kernel_rfl) (fun _ _ _ h => h) (by kernel_rfl) ?_ hHeld ?_
  rotate_left
  · (intro w hSw; (try dsimp only at hSw); go_simp; try (with_reducible rfl))
  try simp only [Act.put, List.setIfInBounds_toArray, List.set_cons_zero, List.set_cons_succ]
  refine take_yes (i := 9) (d := 3) (v := ?_) rfl rfl (by kernel_rfl) (by kernel_rfl) (by kernel_rfl) (fun _ _ _ h => h) (by kernel_rfl) ?_ hHeld ?_
  rotate_left
  · (intro w hSw; (try dsimp only at hSw); go_simp; try (with_reducible rfl))
  try simp only [Act.put, List.setIfInBounds_toArray, List.set_cons_zero, List.set_cons_succ]
  refine wpAnyH_done (by kernel_rfl) ?_ _
  refine NoPanic.normal ?_
  rw [HTT.out]
  have HB := Lib.hid (after HB.out hHeld)
  have NX := Lib.hid (NX.out.below hHeld hz)
  have HT := Lib.hid (HT.out.below hHeld)
  clear hHeld c0 c1
  have e2 := NX.out.1 2 _ rfl
  by_cases hap : 0 < a
  · have i1 : (0 : Int) < (a : Int) := by omega
    have HR := Lib.hid (tt_yes (y := y) (n := n) hap)
    go_wp2_with (go_at_call 77; refine (itoa_any a (by omega) _ HT.out).mono ?_; rintro e w5 ⟨rfl, hb⟩; have HB5 := Lib.hid (after HB.out hb); clear hb)
    go_ret
    exact ⟨by rw [HR.out]; rfl, HB5.out⟩
  · have i1 : ¬ (0 : Int) < (a : Int) := by omega
    have HR := Lib.hid (tt_no (y := y) (n := n) hap)
    go_wp2
    go_ret
    exact ⟨by rw [HR.out]; rfl, by first | exact HB.out | exact below_drewN HB.out _⟩
set_option maxHeartbeats 2000000 in
theorem l11Text_any (y n a : Nat) (hy : y ≤ 1000) (hn : n ≤ 1000) (ha : a ≤ 1000) (w : World) (ht : Tab w) :
    Calls Tryd.prog 43 #[.agg #[.int .i64 y, .int .i64 n, .int .i64 a]] w fun e w' => e = .returned (.string (ttS y n a)) ∧ Below w.heap.size w w' := by
  have HT := Lib.hid (ht.below (below1 w (.cells #[.int .i64 y, .int .i64 n, .int .i64 a] 23)))
  have HB := Lib.hid (below1 w (.cells #[.int .i64 y, .int .i64 n, .int .i64 a] 23))
  have NX := Lib.hid (show BoxF (w.alloc (.cells #[.int .i64 y, .int .i64 n, .int .i64 a] 23)) w.heap.size [.int .i64 y, .int .i64 n, .int .i64 a] from BoxF.new' w _ _ _ rfl)
  have hz : w.heap.size < (w.alloc (.cells #[.int .i64 y, .int .i64 n, .int .i64 a] 23)).heap.size := by simp
  have hs1 := dec_size (i := y)
  have hs2 := dec_size (i := n)
  have hs3 := dec_size (i := a)
  have hs4 := ttH_size y n
  have y1 : ¬ 9223372036854775807 < (dec y).size + 6 := by omega
  have y2 : ¬ 9223372036854775807 < (dec y).size + 6 + (dec n).size := by omega
  have y3 : ¬ 9223372036854775807 < (dec y).size + 6 + (dec n).size + 3 := by omega
  have y4 : ¬ 9223372036854775807 < (ttH y n).size + 2 := by omega
  have y5 : ¬ 9223372036854775807 < (ttH y n).size + 2 + (dec a).size := by omega
  have y6 : ¬ 9223372036854775807 < (ttH y n).size + 2 + (dec a).size + 8 := by omega
  have HTT := Lib.hid (show dec y ++ (⟨#[32, 121, 101, 115, 44, 32]⟩ : ByteArray) ++ dec n ++ (⟨#[32, 110, 111]⟩ : ByteArray) = ttH y n from rfl)
  clear ht hs1 hs2 hs3 hs4
  go_enter Tryd.func43, Tryd.ntmps43
  go_wp2_with fail
  generalize (w.alloc (.cells #[.int .i64 y, .int .i64 n, .int .i64 a] 23)) = W at *
  have e0 := NX.out.1 0 _ rfl
  have e1 := NX.out.1 1 _ rfl
  go_quiet ((go_at_call 73; exact Go.Calls.quiet_of (l1Num_all _ _ (by omega))))
  rw [HTT.out]
  clear e0 e1
  have e2 := NX.out.1 2 _ rfl
  by_cases hap : 0 < a
  · have i1 : (0 : Int) < (a : Int) := by omega
    have HR := Lib.hid (tt_yes (y := y) (n := n) hap)
    go_wp2_with (go_at_call 73; refine (l1Num_all a _ (by omega)).mono ?_; rintro e w5 ⟨rfl, m5, hm5⟩; have HB5 := Lib.hid (show Below w.heap.size w w5 by rw [hm5]; exact below_drewN (by first | exact HB.out | exact below_drewN HB.out _) _); clear hm5)
    go_ret
    exact ⟨by rw [HR.out, ← ByteArray.append_assoc, ← ByteArray.append_assoc]; rfl, HB5.out⟩
  · have i1 : ¬ (0 : Int) < (a : Int) := by omega
    have HR := Lib.hid (tt_no (y := y) (n := n) hap)
    go_wp2
    go_ret
    exact ⟨by rw [HR.out]; rfl, by first | exact HB.out | exact below_drewN HB.out _⟩
end Go.Proofs.YtajfbiihlfccnaaDoor
