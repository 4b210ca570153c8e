/- Slices of strings: the copies and the marks of the laws. Conditions: the ranges named. -/
import Derived.Test.YtnnphhhjkhoglaaDoorStr
namespace Go.Proofs.YtnnphhhjkhoglaaDoor
open Go.RowKit
set_option linter.unusedVariables false

theorem infoStr : (Tryd.prog.info? 9).map (fun i => (i.zero, i.size, i.bytes)) = some (some (.string ByteArray.empty), 1, 16) := by kernel_rfl
/-- The first k places hold the texts of ss, the others none. -/
def part (ss : List ByteArray) (k : Nat) : List Value := (strs ss).take k ++ List.replicate (ss.length - k) (.string ByteArray.empty)
theorem part_zero (ss : List ByteArray) : part ss 0 = List.replicate ss.length (.string ByteArray.empty) := by simp [part]
theorem part_all (ss : List ByteArray) : part ss ss.length = strs ss := by simp [part, ← strs_len]
theorem part_set {ss : List ByteArray} {k : Nat} (h : k < ss.length) : (part ss k).set k (.string ss[k]) = part ss (k + 1) := by
  unfold part
  have hl : ((strs ss).take k).length = k := by rw [List.length_take, strs_len]; omega
  rw [List.set_append_right _ _ (by omega), hl, Nat.sub_self, List.take_succ_eq_append_getElem (by rw [strs_len]; exact h)]
  have h2 : ss.length - k = (ss.length - (k + 1)) + 1 := by omega
  rw [h2, List.replicate_succ, List.set_cons_zero]
  have h3 : (strs ss)[k]'(by rw [strs_len]; exact h) = .string ss[k] := by simp [strs]
  rw [h3, List.append_assoc]; rfl
theorem made_strs (n : Nat) : (madeCells (#[Value.string ByteArray.empty]) (n * 1)).toList = List.replicate n (.string ByteArray.empty) := by
  rw [Nat.mul_one]
  apply List.ext_getElem
  · simp [madeCells]
  · intro i h1 h2
    simp [madeCells, Nat.mod_one]
/-! ### Marks -/
def digB (k : Nat) : ByteArray := ⟨#[(48 + k % 10).toUInt8]⟩
def mkLoop : Nat → Nat → ByteArray → ByteArray
  | 0, _, out => out
  | f + 1, k, out => if k = 0 then out else mkLoop f (k / 10) (digB k ++ out)
theorem mkLoop_step {f k : Nat} {out : ByteArray} (h : 0 < k) : mkLoop (f + 1) k out = mkLoop f (k / 10) (digB k ++ out) := by
  simp [mkLoop]; omega
theorem mkLoop_zero (f : Nat) (out : ByteArray) : mkLoop f 0 out = out := by cases f <;> simp [mkLoop]
theorem conv_dig (w : World) (j : Nat) : (convert 58 9 (.slice (some ⟨w.heap.size, 0, none⟩) 1 1)).run Tryd.prog (w.alloc (.cells #[.int .u8 (48 + (j : Int) % 10)] 5)) = .ok (.string (digB j)) (w.alloc (.cells #[.int .u8 (48 + (j : Int) % 10)] 5)) := by
  rw [run_convert_bytes_string _ _ _ 5 _ _ _ Tryd.underlying58 Tryd.underlying5 Tryd.underlying9]
  rw [run_bytesToString _ _ 1 1 [48 + (j : Int) % 10] (by simp [go_sem])]
  have h : (48 + (j : Int) % 10).toNat = 48 + j % 10 := by omega
  simp only [List.foldl_cons, List.foldl_nil, h]
  rfl
def markB (k : Nat) : ByteArray := ⟨#[109]⟩ ++ mkLoop k k ByteArray.empty
theorem digB_size (j : Nat) : (digB j).size = 1 := rfl
set_option maxHeartbeats 400000 in
set_option maxRecDepth 100000 in
theorem markText_any (k : Nat) (w : World) (h0 : 0 < k) (h1 : k ≤ 100000000) :
    Calls Tryd.prog 31 #[.int .i64 k] w fun e w' => e = .returned (.string (markB k)) ∧ Below w.heap.size w w' := by
  have hk0 : ¬ k = 0 := by omega
  go_enter Tryd.func31, Tryd.ntmps31
  go_wp2
  go_loopw [0, 3] (fun x t wr => ∃ (j f : Nat) (out : ByteArray), j ≤ f ∧ j ≤ 100000000 ∧ out.size + j ≤ 200000000 ∧ x = .int .i64 j ∧ t = .string out ∧ Hid (mkLoop k k ByteArray.empty = mkLoop f j out) ∧ Below w.heap.size w wr) (fun x _ _ => (intOf x).toNat)
  case atStart => exact ⟨k, k, ByteArray.empty, Nat.le_refl _, h1, by simp; omega, rfl, rfl, rfl, Below.refl _ _⟩
  case round =>
    obtain ⟨j, f, out, hjf, hj, hs, rfl, rfl, hq, hB⟩ := hrel
    by_cases hlt : 0 < j
    · have hcv := conv_dig wr j
      have hz := hB.size
      have hd : (digB j).size ≤ 1 := by rw [digB_size]; omega
      go_wp2
      go_roundw
      case rel =>
        obtain ⟨f, rfl⟩ : ∃ g, f = g + 1 := ⟨f - 1, by omega⟩
        exact ⟨j / 10, f, digB j ++ out, by omega, by omega, by rw [ByteArray.size_append, digB_size]; omega, by go_num, rfl, by rw [hq.out, mkLoop_step hlt]; exact rfl, by go_grown⟩
      case measure => simp [intOf]; omega
    · obtain rfl : j = 0 := by omega
      have HM := Lib.hid (show markB k = ⟨#[109]⟩ ++ out by unfold markB; rw [hq.out, mkLoop_zero])
      have hd : (⟨#[109]⟩ : ByteArray).size ≤ 1 := by decide
      go_wp2
      go_ret
      exact ⟨ret_val (congrArg Value.string HM.out.symm), hB⟩
/-- The marks of n strings, from k on. -/
def marks (k : Nat) : Nat → List ByteArray
  | 0 => []
  | n + 1 => markB k :: marks (k + 1) n
theorem marks_len (k n : Nat) : (marks k n).length = n := by
  induction n generalizing k with
  | zero => rfl
  | succ n ih => simp [marks, ih]
theorem marks_get (k n i : Nat) (h : i < n) : (marks k n)[i]'(by rw [marks_len]; exact h) = markB (k + i) := by
  induction n generalizing k i with
  | zero => omega
  | succ n ih =>
    cases i with
    | zero => simp [marks]
    | succ i => simp only [marks, List.getElem_cons_succ]; rw [ih (k + 1) i (by omega)]; congr 1; omega

/-- The first j places bear marks, from k on. -/
def mixM (k j : Nat) (xs : List Value) : List Value := strs (marks k j) ++ xs.drop j
theorem mixM_zero (k : Nat) (xs : List Value) : mixM k 0 xs = xs := by simp [mixM, marks, strs]
theorem marks_snoc (k j : Nat) : marks k (j + 1) = marks k j ++ [markB (k + j)] := by
  induction j generalizing k with
  | zero => simp [marks]
  | succ j ih =>
    rw [marks, ih (k + 1), marks, List.cons_append, show k + 1 + j = k + (j + 1) from by omega]
theorem mixM_set {k j : Nat} {xs : List Value} (h : j < xs.length) : (mixM k j xs).set j (.string (markB (k + j))) = mixM k (j + 1) xs := by
  unfold mixM
  have hl : (strs (marks k j)).length = j := by rw [strs_len, marks_len]
  rw [List.set_append_right _ _ (by omega), hl, Nat.sub_self, marks_snoc, List.drop_eq_getElem_cons h, List.set_cons_zero]
  simp [strs]
theorem mixM_all {k n : Nat} {xs : List Value} (h : xs.length = n) : mixM k n xs = strs (marks k n) := by
  unfold mixM; rw [List.drop_of_length_le (by omega), List.append_nil]
set_option maxHeartbeats 400000 in
theorem markStringS_any (base : Nat) (A : Option Addr) (n c k : Nat) (xs : List Value) (w : World) (hown : w.ownsRow base 9 1 (.slice A n c) n xs) (hn : n ≤ 20000000) (hk0 : 0 < k) (hk : k ≤ 20000000) :
    Calls Tryd.prog 17 #[.slice A n c, .int .i64 k] w fun e w' => e = .returned (.int .i64 ((k : Int) + n)) ∧ w'.ownsRow base 9 1 (.slice A n c) n (strs (marks k n)) ∧ w.grownBy w' (Value.slice A n c).ownBlock := by
  have hxl : xs.length = n := by have := hown.1; omega
  go_enter Tryd.func17, Tryd.ntmps17
  go_wp2
  go_loopw [1, 5] (fun u i wr => ∃ j : Nat, j ≤ n ∧ i = .int .i64 j ∧ u = .int .i64 ((k : Int) + j) ∧ wr.ownsRow base 9 1 (.slice A n c) n (mixM k j xs) ∧ w.grownBy wr (Value.slice A n c).ownBlock) (fun _ i _ => n - (intOf i).toNat)
  case atStart => exact ⟨0, Nat.zero_le _, rfl, by go_num, by rw [mixM_zero]; exact hown, World.grownBy.refl _ _⟩
  case round =>
    clear hown
    obtain ⟨j, hj, rfl, rfl, hown, hg⟩ := hrel
    by_cases hlt : j < n
    · obtain ⟨g, cap, hv, hbg, hgl⟩ := hown.form (by omega)
      obtain ⟨rfl, _, rfl⟩ : A = some ⟨g, 0, none⟩ ∧ n = n ∧ c = cap := by simpa using hv
      clear hv
      have i1 : (j : Int) < (n : Int) := by omega
      have hC := fun W => markText_any (k + j) W (by omega) (by omega)
      rw [Int.natCast_add] at hC
      have HC := Lib.hid hC
      have HO := Lib.hid hown
      have HG := Lib.hid hg
      clear hC hown hg
      go_wp2_with (go_at_call 31; refine (HC.out _).mono ?_; rintro e w1 ⟨rfl, hb⟩; have hown1 := HO.out.kept (grownBy_of_below hb none) (.inr (by simp [Value.ownBlock])); have hg1 := grownBy_trans HG.out (grownBy_of_below hb _); clear hb; obtain ⟨u, hcu⟩ := own_cell hown1 (j := j) (by omega); have hfz := hown1.frozenAt j; have hst := hown1.stored j (.string (markB (k + j))); rw [mixM_set (by omega)] at hst; have HS := Lib.hid hst.1; have HG1 := Lib.hid (grownBy_trans hg1 hst.2); clear hst hown1 hg1)
      go_roundw
      case rel => exact ⟨j + 1, hlt, by go_num, by go_num, HS.out, HG1.out⟩
      case measure => simp [intOf]; omega
    · obtain rfl : j = n := by omega
      rw [mixM_all hxl] at hown
      have HO := Lib.hid hown
      have HG := Lib.hid hg
      clear hown hg
      go_wp2
      go_ret
      exact ⟨rfl, HO.out, HG.out⟩

theorem mkS2 {wr w1 : World} {p : Addr} {v : Value} (hc : wr.cell? p = some v) (hp : p.block < wr.heap.size) (hb : Below wr.heap.size wr w1) : Below wr.heap.size wr w1 ∧ (∀ b o, b < wr.heap.size → w1.cell? ⟨b, o, none⟩ = wr.cell? ⟨b, o, none⟩) ∧ w1.cell? p = some v :=
  ⟨hb, (bcellB hb).1, (hb.cell hp).trans hc⟩
theorem callS2 {wr W w1 : World} {X : Prop} (hS : Below wr.heap.size wr W ∧ X) (hb : Below W.heap.size W w1) : Below wr.heap.size wr w1 := after1 hS.1 (Nat.le_refl _) hb
set_option maxHeartbeats 400000 in
theorem heldStringS_yes (A : Option Addr) (n c k : Nat) (w : World) (ha : Cells w A (strs (marks k n))) (hn : n ≤ 20000000) (hk0 : 0 < k) (hk : k ≤ 20000000) :
    Calls Tryd.prog 18 #[.slice A n c, .int .i64 k] w fun e w' => e = .returned (.int .i64 ((k : Int) + n)) ∧ Below w.heap.size w w' := by
  go_enter Tryd.func18, Tryd.ntmps18
  go_wp2
  go_loopw [1, 5] (fun u i wr => ∃ j : Nat, j ≤ n ∧ i = .int .i64 j ∧ u = .int .i64 ((k : Int) + j) ∧ Below w.heap.size w wr) (fun _ i _ => n - (intOf i).toNat)
  case atStart => exact ⟨0, Nat.zero_le _, rfl, by go_num, Below.refl _ _⟩
  case round =>
    obtain ⟨j, hj, rfl, rfl, hB⟩ := hrel
    by_cases hlt : j < n
    · obtain ⟨a, rfl, hca⟩ := (ha.below hB) j (.string (markB (k + j))) (by rw [strs_get (by rw [marks_len]; exact hlt), marks_get k n j hlt])
      have i1 : (j : Int) < (n : Int) := by omega
      have hC := fun W => markText_any (k + j) W (by omega) (by omega)
      rw [Int.natCast_add] at hC
      have HC := Lib.hid hC
      have hz := hB.size
      have hbl := World.block_lt_of_cell? _ _ hca
      clear hC
      go_wp2
      go_region_held3 (fun w' => Below wr.heap.size wr w' ∧ (∀ b o, b < wr.heap.size → w'.cell? ⟨b, o, none⟩ = wr.cell? ⟨b, o, none⟩) ∧ w'.cell? (a.add j) = some (.string (markB (k + j))))
        ((first | (refine mkS2 hca hbl ?_; assumption) | (refine mkS2 hca hbl ?_; go_grown)))
        (first
          | (go_at_call 31; refine (HC.out _).mono ?_; rintro e w' ⟨rfl, hb⟩; have hBB := callS2 (by assumption) hb; clear hb))
      go_wp2
      go_roundw
      case rel => exact ⟨j + 1, hlt, by go_num, by go_num, hB.trans (hBB.mono hz)⟩
      case measure => simp [intOf]; omega
    · obtain rfl : j = n := by omega
      go_wp2
      go_ret
      exact ⟨rfl, hB⟩
end Go.Proofs.YtnnphhhjkhoglaaDoor
