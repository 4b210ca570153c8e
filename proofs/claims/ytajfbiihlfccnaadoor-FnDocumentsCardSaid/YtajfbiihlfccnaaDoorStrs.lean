/- Slices of strings: the copies, comparisons, sizes and marks of the laws. Conditions: the ranges named. -/
import Derived.Test.YtajfbiihlfccnaaDoorInts
namespace Go.Proofs.YtajfbiihlfccnaaDoor
open Go.RowKit
set_option linter.unusedVariables false

/-- Strings as elements. -/
def StrK : Kd ByteArray := ⟨1, fun s => [.string s], fun _ => rfl, fun s => s.size ≤ maxLen⟩
theorem strK_row (xs : List ByteArray) : StrK.row xs = xs.map Value.string := by
  induction xs with
  | nil => rfl
  | cons x xs ih => show [Value.string x] ++ StrK.row xs = _; rw [ih]; rfl
theorem str_at {w : World} {A : Option Addr} {xs : List ByteArray} (h : Cells w A (StrK.row xs)) {i : Nat} (hi : i < xs.length) : ∃ ad, A = some ad ∧ w.cell? (ad.add i) = some (.string xs[i]) :=
  h i _ (by rw [strK_row, List.getElem?_map, List.getElem?_eq_getElem hi]; rfl)
theorem infoStr : (Tryd.prog.info? 9).map (fun i => (i.zero, i.size, i.bytes)) = some (some (.string ByteArray.empty), 1, 16) := by kernel_rfl
def szAll : List ByteArray → Nat
  | [] => 0
  | s :: r => s.size + szAll r
theorem szAll_snoc (l : List ByteArray) (s : ByteArray) : szAll (l ++ [s]) = szAll l + s.size := by
  induction l with
  | nil => simp [szAll]
  | cons x l ih => simp [szAll, ih]; omega
theorem szAll_take_le (l : List ByteArray) (k : Nat) : szAll (l.take k) ≤ szAll l := by
  induction l generalizing k with
  | nil => simp [szAll]
  | cons x l ih =>
    cases k with
    | zero => simp [szAll]
    | succ k => simp [szAll]; exact ih k
/-- What szStringS returns. -/
def szF (ss : List ByteArray) (left : Int) : Int := if left - (ss.length : Int) - (szAll ss : Int) < 0 then -1 else left - (ss.length : Int) - (szAll ss : Int)
theorem szF_ok {ss : List ByteArray} {left : Int} (h : 0 ≤ szF ss left) : (ss.length : Int) + szAll ss ≤ left ∧ szF ss left = left - ss.length - szAll ss := by
  unfold szF at h ⊢
  split at h
  · omega
  · rename_i h1; rw [if_neg h1]; omega
theorem szF_neg {ss : List ByteArray} {left : Int} (h : szF ss left < 0) : szF ss left = -1 := by
  unfold szF at h ⊢
  split at h
  · rename_i h1; rw [if_pos h1]
  · omega
theorem mkS2 {wr w1 : World} {p : Addr} {v : Value} (hc : wr.cell? p = some v) (hp : p.block < wr.heap.size) (hb : Below wr.heap.size wr w1) : Below wr.heap.size wr w1 ∧ (∀ b o, b < wr.heap.size → w1.cell? ⟨b, o, none⟩ = wr.cell? ⟨b, o, none⟩) ∧ w1.cell? p = some v :=
  ⟨hb, (bcellB hb).1, (hb.cell hp).trans hc⟩
theorem callS2 {wr W w1 : World} {X : Prop} (hS : Below wr.heap.size wr W ∧ X) (hb : Below W.heap.size W w1) : Below wr.heap.size wr w1 := after1 hS.1 (Nat.le_refl _) hb
def digB (k : Nat) : ByteArray := ⟨#[(48 + k % 10).toUInt8]⟩
def mkLoop : Nat → Nat → ByteArray → ByteArray
  | 0, _, out => out
  | f + 1, k, out => if k = 0 then out else mkLoop f (k / 10) (digB k ++ out)
theorem mkLoop_step {f k : Nat} {out : ByteArray} (h : 0 < k) : mkLoop (f + 1) k out = mkLoop f (k / 10) (digB k ++ out) := by
  simp [mkLoop]; omega
theorem mkLoop_zero (f : Nat) (out : ByteArray) : mkLoop f 0 out = out := by cases f <;> simp [mkLoop]
theorem conv_dig (w : World) (j : Nat) : (convert 28 9 (.slice (some ⟨w.heap.size, 0, none⟩) 1 1)).run Tryd.prog (w.alloc (.cells #[.int .u8 (48 + (j : Int) % 10)] 5)) = .ok (.string (digB j)) (w.alloc (.cells #[.int .u8 (48 + (j : Int) % 10)] 5)) := by
  rw [run_convert_bytes_string _ _ _ 5 _ _ _ Tryd.underlying28 Tryd.underlying5 Tryd.underlying9]
  rw [run_bytesToString _ _ 1 1 [48 + (j : Int) % 10] (by simp [go_sem])]
  have h : (48 + (j : Int) % 10).toNat = 48 + j % 10 := by omega
  simp only [List.foldl_cons, List.foldl_nil, h]
  rfl
def markB (k : Nat) : ByteArray := ⟨#[109]⟩ ++ mkLoop k k ByteArray.empty
theorem digB_size (j : Nat) : (digB j).size = 1 := rfl
set_option maxHeartbeats 400000 in
set_option maxRecDepth 100000 in
theorem markText_any (k : Nat) (w : World) (h0 : 0 < k) (h1 : k ≤ 100000000) :
    Calls Tryd.prog 60 #[.int .i64 k] w fun e w' => e = .returned (.string (markB k)) ∧ Below w.heap.size w w' := by
  have hk0 : ¬ k = 0 := by omega
  go_enter Tryd.func60, Tryd.ntmps60
  go_wp2
  go_loopw [0, 3] (fun x t wr => ∃ (j f : Nat) (out : ByteArray), j ≤ f ∧ j ≤ 100000000 ∧ out.size + j ≤ 200000000 ∧ x = .int .i64 j ∧ t = .string out ∧ Hid (mkLoop k k ByteArray.empty = mkLoop f j out) ∧ Below w.heap.size w wr) (fun x _ _ => (intOf x).toNat)
  case atStart => exact ⟨k, k, ByteArray.empty, Nat.le_refl _, h1, by simp; omega, rfl, rfl, rfl, Below.refl _ _⟩
  case round =>
    obtain ⟨j, f, out, hjf, hj, hs, rfl, rfl, hq, hB⟩ := hrel
    by_cases hlt : 0 < j
    · have hcv := conv_dig wr j
      have hz := hB.size
      have hd : (digB j).size ≤ 1 := by rw [digB_size]; omega
      go_wp2
      go_roundw
      case rel =>
        obtain ⟨f, rfl⟩ : ∃ g, f = g + 1 := ⟨f - 1, by omega⟩
        exact ⟨j / 10, f, digB j ++ out, by omega, by omega, by rw [ByteArray.size_append, digB_size]; omega, by go_num, rfl, by rw [hq.out, mkLoop_step hlt]; exact rfl, by go_grown⟩
      case measure => simp [intOf]; omega
    · obtain rfl : j = 0 := by omega
      have HM := Lib.hid (show markB k = ⟨#[109]⟩ ++ out by unfold markB; rw [hq.out, mkLoop_zero])
      have hd : (⟨#[109]⟩ : ByteArray).size ≤ 1 := by decide
      go_wp2
      go_ret
      exact ⟨ret_val (congrArg Value.string HM.out.symm), hB⟩
theorem mkLoop_size (f : Nat) : ∀ (k : Nat) (out : ByteArray), (mkLoop f k out).size ≤ out.size + f := by
  induction f with
  | zero => intro k out; simp [mkLoop]
  | succ f ih =>
    intro k out
    rw [mkLoop]
    split
    · omega
    · have := ih (k / 10) (digB k ++ out)
      rw [ByteArray.size_append, digB_size] at this
      omega
theorem markB_size (k : Nat) (hk : k ≤ 100000000) : (markB k).size ≤ maxLen := by
  unfold markB maxLen
  rw [ByteArray.size_append]
  have := mkLoop_size k k ByteArray.empty
  have h1 : (⟨#[109]⟩ : ByteArray).size = 1 := rfl
  have h2 : ByteArray.empty.size = 0 := rfl
  omega
end Go.Proofs.YtajfbiihlfccnaaDoor
