/- Slices of strings: the copies and the marks of the laws. Conditions: the ranges named. -/
import Derived.Test.YtnnphhhjkhoglaaGreatDoorStr
namespace Go.Proofs.YtnnphhhjkhoglaaGreatDoor
open Go.RowKit
set_option linter.unusedVariables false

theorem infoStr : (Tryz.prog.info? 9).map (fun i => (i.zero, i.size, i.bytes)) = some (some (.string ByteArray.empty), 1, 16) := by kernel_rfl
/-- The first k places hold the texts of ss, the others none. -/
def part (ss : List ByteArray) (k : Nat) : List Value := (strs ss).take k ++ List.replicate (ss.length - k) (.string ByteArray.empty)
theorem part_zero (ss : List ByteArray) : part ss 0 = List.replicate ss.length (.string ByteArray.empty) := by simp [part]
theorem part_all (ss : List ByteArray) : part ss ss.length = strs ss := by simp [part, ← strs_len]
theorem part_set {ss : List ByteArray} {k : Nat} (h : k < ss.length) : (part ss k).set k (.string ss[k]) = part ss (k + 1) := by
  unfold part
  have hl : ((strs ss).take k).length = k := by rw [List.length_take, strs_len]; omega
  rw [List.set_append_right _ _ (by omega), hl, Nat.sub_self, List.take_succ_eq_append_getElem (by rw [strs_len]; exact h)]
  have h2 : ss.length - k = (ss.length - (k + 1)) + 1 := by omega
  rw [h2, List.replicate_succ, List.set_cons_zero]
  have h3 : (strs ss)[k]'(by rw [strs_len]; exact h) = .string ss[k] := by simp [strs]
  rw [h3, List.append_assoc]; rfl
theorem made_strs (n : Nat) : (madeCells (#[Value.string ByteArray.empty]) (n * 1)).toList = List.replicate n (.string ByteArray.empty) := by
  rw [Nat.mul_one]
  apply List.ext_getElem
  · simp [madeCells]
  · intro i h1 h2
    simp [madeCells, Nat.mod_one]
/-! ### Marks -/
def digB (k : Nat) : ByteArray := ⟨#[(48 + k % 10).toUInt8]⟩
def mkLoop : Nat → Nat → ByteArray → ByteArray
  | 0, _, out => out
  | f + 1, k, out => if k = 0 then out else mkLoop f (k / 10) (digB k ++ out)
theorem mkLoop_step {f k : Nat} {out : ByteArray} (h : 0 < k) : mkLoop (f + 1) k out = mkLoop f (k / 10) (digB k ++ out) := by
  simp [mkLoop]; omega
theorem mkLoop_zero (f : Nat) (out : ByteArray) : mkLoop f 0 out = out := by cases f <;> simp [mkLoop]
theorem conv_dig (w : World) (j : Nat) : (convert 22 9 (.slice (some ⟨w.heap.size, 0, none⟩) 1 1)).run Tryz.prog (w.alloc (.cells #[.int .u8 (48 + (j : Int) % 10)] 5)) = .ok (.string (digB j)) (w.alloc (.cells #[.int .u8 (48 + (j : Int) % 10)] 5)) := by
  rw [run_convert_bytes_string _ _ _ 5 _ _ _ Tryz.underlying22 Tryz.underlying5 Tryz.underlying9]
  rw [run_bytesToString _ _ 1 1 [48 + (j : Int) % 10] (by simp [go_sem])]
  have h : (48 + (j : Int) % 10).toNat = 48 + j % 10 := by omega
  simp only [List.foldl_cons, List.foldl_nil, h]
  rfl
def markB (k : Nat) : ByteArray := ⟨#[109]⟩ ++ mkLoop k k ByteArray.empty
theorem digB_size (j : Nat) : (digB j).size = 1 := rfl
/-- The marks of n strings, from k on. -/
def marks (k : Nat) : Nat → List ByteArray
  | 0 => []
  | n + 1 => markB k :: marks (k + 1) n
theorem marks_len (k n : Nat) : (marks k n).length = n := by
  induction n generalizing k with
  | zero => rfl
  | succ n ih => simp [marks, ih]
theorem marks_get (k n i : Nat) (h : i < n) : (marks k n)[i]'(by rw [marks_len]; exact h) = markB (k + i) := by
  induction n generalizing k i with
  | zero => omega
  | succ n ih =>
    cases i with
    | zero => simp [marks]
    | succ i => simp only [marks, List.getElem_cons_succ]; rw [ih (k + 1) i (by omega)]; congr 1; omega

/-- The first j places bear marks, from k on. -/
def mixM (k j : Nat) (xs : List Value) : List Value := strs (marks k j) ++ xs.drop j
theorem mixM_zero (k : Nat) (xs : List Value) : mixM k 0 xs = xs := by simp [mixM, marks, strs]
theorem marks_snoc (k j : Nat) : marks k (j + 1) = marks k j ++ [markB (k + j)] := by
  induction j generalizing k with
  | zero => simp [marks]
  | succ j ih =>
    rw [marks, ih (k + 1), marks, List.cons_append, show k + 1 + j = k + (j + 1) from by omega]
theorem mixM_set {k j : Nat} {xs : List Value} (h : j < xs.length) : (mixM k j xs).set j (.string (markB (k + j))) = mixM k (j + 1) xs := by
  unfold mixM
  have hl : (strs (marks k j)).length = j := by rw [strs_len, marks_len]
  rw [List.set_append_right _ _ (by omega), hl, Nat.sub_self, marks_snoc, List.drop_eq_getElem_cons h, List.set_cons_zero]
  simp [strs]
theorem mixM_all {k n : Nat} {xs : List Value} (h : xs.length = n) : mixM k n xs = strs (marks k n) := by
  unfold mixM; rw [List.drop_of_length_le (by omega), List.append_nil]
theorem mkS2 {wr w1 : World} {p : Addr} {v : Value} (hc : wr.cell? p = some v) (hp : p.block < wr.heap.size) (hb : Below wr.heap.size wr w1) : Below wr.heap.size wr w1 ∧ (∀ b o, b < wr.heap.size → w1.cell? ⟨b, o, none⟩ = wr.cell? ⟨b, o, none⟩) ∧ w1.cell? p = some v :=
  ⟨hb, (bcellB hb).1, (hb.cell hp).trans hc⟩
theorem callS2 {wr W w1 : World} {X : Prop} (hS : Below wr.heap.size wr W ∧ X) (hb : Below W.heap.size W w1) : Below wr.heap.size wr w1 := after1 hS.1 (Nat.le_refl _) hb
end Go.Proofs.YtnnphhhjkhoglaaGreatDoor
