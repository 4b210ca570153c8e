/- Slices of strings: the copies, comparisons, sizes and marks of the laws. Conditions: the ranges named. -/
import Derived.Test.YtajbbinphnekiaaInts
namespace Go.Proofs.Ytajbbinphnekiaa
open Go.RowKit
set_option linter.unusedVariables false

/-- Strings as elements. -/
def StrK : Kd ByteArray := ⟨1, fun s => [.string s], fun _ => rfl, fun s => s.size ≤ maxLen⟩
theorem strK_row (xs : List ByteArray) : StrK.row xs = xs.map Value.string := by
  induction xs with
  | nil => rfl
  | cons x xs ih => show [Value.string x] ++ StrK.row xs = _; rw [ih]; rfl
theorem str_at {w : World} {A : Option Addr} {xs : List ByteArray} (h : Cells w A (StrK.row xs)) {i : Nat} (hi : i < xs.length) : ∃ ad, A = some ad ∧ w.cell? (ad.add i) = some (.string xs[i]) :=
  h i _ (by rw [strK_row, List.getElem?_map, List.getElem?_eq_getElem hi]; rfl)
theorem infoStr : (Try.prog.info? 9).map (fun i => (i.zero, i.size, i.bytes)) = some (some (.string ByteArray.empty), 1, 16) := by kernel_rfl
def szAll : List ByteArray → Nat
  | [] => 0
  | s :: r => s.size + szAll r
theorem szAll_snoc (l : List ByteArray) (s : ByteArray) : szAll (l ++ [s]) = szAll l + s.size := by
  induction l with
  | nil => simp [szAll]
  | cons x l ih => simp [szAll, ih]; omega
theorem szAll_take_le (l : List ByteArray) (k : Nat) : szAll (l.take k) ≤ szAll l := by
  induction l generalizing k with
  | nil => simp [szAll]
  | cons x l ih =>
    cases k with
    | zero => simp [szAll]
    | succ k => simp [szAll]; exact ih k
/-- What szStringS returns. -/
def szF (ss : List ByteArray) (left : Int) : Int := if left - (ss.length : Int) - (szAll ss : Int) < 0 then -1 else left - (ss.length : Int) - (szAll ss : Int)
theorem szF_ok {ss : List ByteArray} {left : Int} (h : 0 ≤ szF ss left) : (ss.length : Int) + szAll ss ≤ left ∧ szF ss left = left - ss.length - szAll ss := by
  unfold szF at h ⊢
  split at h
  · omega
  · rename_i h1; rw [if_neg h1]; omega
theorem szF_neg {ss : List ByteArray} {left : Int} (h : szF ss left < 0) : szF ss left = -1 := by
  unfold szF at h ⊢
  split at h
  · rename_i h1; rw [if_pos h1]
  · omega
def digB (k : Nat) : ByteArray := ⟨#[(48 + k % 10).toUInt8]⟩
def mkLoop : Nat → Nat → ByteArray → ByteArray
  | 0, _, out => out
  | f + 1, k, out => if k = 0 then out else mkLoop f (k / 10) (digB k ++ out)
theorem mkLoop_step {f k : Nat} {out : ByteArray} (h : 0 < k) : mkLoop (f + 1) k out = mkLoop f (k / 10) (digB k ++ out) := by
  simp [mkLoop]; omega
theorem mkLoop_zero (f : Nat) (out : ByteArray) : mkLoop f 0 out = out := by cases f <;> simp [mkLoop]
theorem conv_dig (w : World) (j : Nat) : (convert 57 9 (.slice (some ⟨w.heap.size, 0, none⟩) 1 1)).run Try.prog (w.alloc (.cells #[.int .u8 (48 + (j : Int) % 10)] 5)) = .ok (.string (digB j)) (w.alloc (.cells #[.int .u8 (48 + (j : Int) % 10)] 5)) := by
  rw [run_convert_bytes_string _ _ _ 5 _ _ _ Try.underlying57 Try.underlying5 Try.underlying9]
  rw [run_bytesToString _ _ 1 1 [48 + (j : Int) % 10] (by simp [go_sem])]
  have h : (48 + (j : Int) % 10).toNat = 48 + j % 10 := by omega
  simp only [List.foldl_cons, List.foldl_nil, h]
  rfl
def markB (k : Nat) : ByteArray := ⟨#[109]⟩ ++ mkLoop k k ByteArray.empty
theorem digB_size (j : Nat) : (digB j).size = 1 := rfl
set_option maxHeartbeats 400000 in
set_option maxRecDepth 100000 in
theorem markText_any (k : Nat) (w : World) (h0 : 0 < k) (h1 : k ≤ 100000000) :
    Calls Try.prog 86 #[.int .i64 k] w fun e w' => e = .returned (.string (markB k)) ∧ Below w.heap.size w w' := by
  have hk0 : ¬ k = 0 := by omega
  go_enter Try.func86, Try.ntmps86
  go_wp2
  go_loopw [0, 3] (fun x t wr => ∃ (j f : Nat) (out : ByteArray), j ≤ f ∧ j ≤ 100000000 ∧ out.size + j ≤ 200000000 ∧ x = .int .i64 j ∧ t = .string out ∧ Hid (mkLoop k k ByteArray.empty = mkLoop f j out) ∧ Below w.heap.size w wr) (fun x _ _ => (intOf x).toNat)
  case atStart => exact ⟨k, k, ByteArray.empty, Nat.le_refl _, h1, by simp; omega, rfl, rfl, rfl, Below.refl _ _⟩
  case round =>
    obtain ⟨j, f, out, hjf, hj, hs, rfl, rfl, hq, hB⟩ := hrel
    by_cases hlt : 0 < j
    · have hcv := conv_dig wr j
      have hz := hB.size
      have hd : (digB j).size ≤ 1 := by rw [digB_size]; omega
      go_wp2
      go_roundw
      case rel =>
        obtain ⟨f, rfl⟩ : ∃ g, f = g + 1 := ⟨f - 1, by omega⟩
        exact ⟨j / 10, f, digB j ++ out, by omega, by omega, by rw [ByteArray.size_append, digB_size]; omega, by go_num, rfl, by rw [hq.out, mkLoop_step hlt]; exact rfl, by go_grown⟩
      case measure => simp [intOf]; omega
    · obtain rfl : j = 0 := by omega
      have HM := Lib.hid (show markB k = ⟨#[109]⟩ ++ out by unfold markB; rw [hq.out, mkLoop_zero])
      have hd : (⟨#[109]⟩ : ByteArray).size ≤ 1 := by decide
      go_wp2
      go_ret
      exact ⟨ret_val (congrArg Value.string HM.out.symm), hB⟩
theorem mkLoop_size (f : Nat) : ∀ (k : Nat) (out : ByteArray), (mkLoop f k out).size ≤ out.size + f := by
  induction f with
  | zero => intro k out; simp [mkLoop]
  | succ f ih =>
    intro k out
    rw [mkLoop]
    split
    · omega
    · have := ih (k / 10) (digB k ++ out)
      rw [ByteArray.size_append, digB_size] at this
      omega
theorem markB_size (k : Nat) (hk : k ≤ 100000000) : (markB k).size ≤ maxLen := by
  unfold markB maxLen
  rw [ByteArray.size_append]
  have := mkLoop_size k k ByteArray.empty
  have h1 : (⟨#[109]⟩ : ByteArray).size = 1 := rfl
  have h2 : ByteArray.empty.size = 0 := rfl
  omega
/-- The marks of strings, from k on. -/
def markT (k : Nat) (j : Nat) : ByteArray := markB (k + j)
set_option maxHeartbeats 1000000 in
theorem eqStringS_same (B1 B2 : Nat) (A B : Option Addr) (c d : Nat) (xs : List ByteArray) (w : World) (h : Rd StrK B1 w A c xs) (h' : Rd StrK B2 w B d xs) :
    Calls Try.prog 37 #[.slice A xs.length c, .slice B xs.length d] w fun e w' => e = .returned (.bool true) ∧ Below w.heap.size w w' := by
  have ha := h.cells
  have hb := h'.cells
  have hn := h.2.2.1
  have hne : ((xs.length : Int) != (xs.length : Int)) = false := by simp
  clear h h'
  go_enter Try.func37, Try.ntmps37
  go_wp2
  go_loopw [5] (fun i wr => ∃ k : Nat, k ≤ xs.length ∧ i = .int .i64 k ∧ Below w.heap.size w wr) (fun i _ => xs.length - (intOf i).toNat)
  case atStart => exact ⟨0, Nat.zero_le _, rfl, Below.refl _ _⟩
  case round =>
    obtain ⟨k, hk, rfl, hB⟩ := hrel
    by_cases hlt : k < xs.length
    · obtain ⟨a, rfl, hc0⟩ := str_at (ha.below hB) hlt
      obtain ⟨b, rfl, hd0⟩ := str_at (hb.below hB) hlt
      have i1 : (k : Int) < (xs.length : Int) := by omega
      have ht := same_yes (rfl : xs[k] = xs[k])
      clear ha hb
      go_wp2
      go_quiet (fail)
      go_wp2
      go_roundw
      case rel => exact ⟨k + 1, hlt, by go_num, below_drewN hB _⟩
      case measure => simp [intOf]; omega
    · obtain rfl : k = xs.length := by omega
      go_wp2
      go_ret
      exact ⟨rfl, hB⟩
set_option maxHeartbeats 1000000 in
theorem markStringS_any (lo hi : Nat) (A : Option Addr) (c k : Nat) (kk : Int) (hkk : kk = (k : Int)) (xs : List ByteArray) (w : World) (h : Ow StrK 9 lo hi w A c xs) (hk0 : 0 < k) (hk : k ≤ 20000000) :
    Calls Try.prog 38 #[.slice A xs.length c, .int .i64 kk] w fun e w' => e = .returned (.int .i64 (kk + xs.length)) ∧ Ow StrK 9 lo hi w' A c (mkL (markT k) xs.length) ∧ Only lo hi w w' ∧ w.grownBy w' (Value.slice A xs.length c).ownBlock := by
  subst hkk
  obtain ⟨hown, hu, hn, hf⟩ := h
  obtain ⟨n, HN⟩ : ∃ n, Hid (xs.length = n) := ⟨_, rfl⟩
  have hown0 := hown
  rw [HN.out] at hown hn ⊢
  go_enter Try.func38, Try.ntmps38
  go_wp2
  go_loopw [1, 5] (fun u i wr => ∃ j : Nat, j ≤ n ∧ i = .int .i64 j ∧ u = .int .i64 ((k : Int) + j) ∧ wr.ownsRow lo 9 1 (.slice A n c) n (StrK.row (mixL (markT k) j xs)) ∧ w.grownBy wr (Value.slice A n c).ownBlock) (fun _ i _ => n - (intOf i).toNat)
  case atStart => exact ⟨0, Nat.zero_le _, rfl, by go_num, by rw [mixL_zero]; exact hown, World.grownBy.refl _ _⟩
  case round =>
    clear hown
    obtain ⟨j, hj, rfl, rfl, hown, hg⟩ := hrel
    by_cases hlt : j < n
    · obtain ⟨g, cap, hv, hbg, hgl⟩ := hown.form (by omega)
      obtain ⟨rfl, _, rfl⟩ : A = some ⟨g, 0, none⟩ ∧ n = n ∧ c = cap := by simpa using hv
      clear hv
      have i1 : (j : Int) < (n : Int) := by omega
      have hC := fun W => markText_any (k + j) W (by omega) (by omega)
      rw [Int.natCast_add] at hC
      have HC := Lib.hid hC
      have HO := Lib.hid hown
      have HG := Lib.hid hg
      have hM : j < xs.length := by have := HN.out; omega
      have HM := Lib.hid hM
      clear hC hown hg hown0 hM
      go_wp2_with (go_at_call 86; refine (HC.out _).mono ?_; rintro e w1 ⟨rfl, hb⟩; have hown1 := HO.out.kept (grownBy_of_below hb none) (.inr (by simp [Value.ownBlock])); have hg1 := grownBy_trans HG.out (grownBy_of_below hb _); clear hb; obtain ⟨u, hcu⟩ := own_cell hown1 (j := j) (by omega); have hfz := hown1.frozenAt j; have hst := hown1.stored j (.string (markB (k + j))); have hs2 : World.ownsRow _ _ _ _ _ _ (setL (StrK.row (mixL (markT k) j xs)) (j * StrK.sz) (StrK.enc (markT k j))) := (by simpa [StrK, setL, markT] using hst.1); rw [mixL_set StrK HM.out] at hs2; have HS := Lib.hid hs2; have HG1 := Lib.hid (grownBy_trans hg1 hst.2); clear hst hown1 hg1 hs2)
      go_roundw
      case rel => exact ⟨j + 1, hlt, by go_num, by go_num, HS.out, HG1.out⟩
      case measure => simp [intOf]; omega
    · obtain rfl : j = n := by omega
      rw [mixL_all HN.out] at hown
      have HO := Lib.hid hown
      have HG := Lib.hid hg
      clear hown hg
      go_wp2
      go_ret
      refine ⟨rfl, ⟨by rw [mkL_len]; exact HO.out, hu, by rw [mkL_len]; exact hn, fun x hx => ?_⟩, Only.of_grown HG.out fun g hgg => ?_, HG.out⟩
      · obtain ⟨i, hi, rfl⟩ := mkL_mem hx
        exact markB_size _ (by omega)
      rw [← HN.out] at hgg
      have hl := hown0.lt g (by exact hgg)
      refine ⟨hl.1, ?_⟩
      cases A with
      | none => simp [Value.ownBlock] at hgg
      | some a =>
        have := hu a rfl
        simp [Value.ownBlock] at hgg
        omega
theorem mkS2 {wr w1 : World} {p : Addr} {v : Value} (hc : wr.cell? p = some v) (hp : p.block < wr.heap.size) (hb : Below wr.heap.size wr w1) : Below wr.heap.size wr w1 ∧ (∀ b o, b < wr.heap.size → w1.cell? ⟨b, o, none⟩ = wr.cell? ⟨b, o, none⟩) ∧ w1.cell? p = some v :=
  ⟨hb, (bcellB hb).1, (hb.cell hp).trans hc⟩
theorem callS2 {wr W w1 : World} {X : Prop} (hS : Below wr.heap.size wr W ∧ X) (hb : Below W.heap.size W w1) : Below wr.heap.size wr w1 := after1 hS.1 (Nat.le_refl _) hb
set_option maxHeartbeats 1000000 in
theorem heldStringS_yes (A : Option Addr) (n c k B : Nat) (kk : Int) (hkk : kk = (k : Int)) (w : World) (h : Rd StrK B w A c (mkL (markT k) n)) (hk0 : 0 < k) (hk : k ≤ 20000000) :
    Calls Try.prog 39 #[.slice A n c, .int .i64 kk] w fun e w' => e = .returned (.int .i64 (kk + n)) ∧ Below w.heap.size w w' := by
  subst hkk
  have ha := h.cells
  have hn := h.2.2.1
  rw [mkL_len] at hn
  clear h
  go_enter Try.func39, Try.ntmps39
  go_wp2
  go_loopw [1, 5] (fun u i wr => ∃ j : Nat, j ≤ n ∧ i = .int .i64 j ∧ u = .int .i64 ((k : Int) + j) ∧ Below w.heap.size w wr) (fun _ i _ => n - (intOf i).toNat)
  case atStart => exact ⟨0, Nat.zero_le _, rfl, by go_num, Below.refl _ _⟩
  case round =>
    obtain ⟨j, hj, rfl, rfl, hB⟩ := hrel
    by_cases hlt : j < n
    · obtain ⟨a, rfl, hca⟩ := str_at (ha.below hB) (i := j) (by rw [mkL_len]; exact hlt)
      rw [mkL_get _ _ _ hlt, show markT k j = markB (k + j) from rfl] at hca
      have i1 : (j : Int) < (n : Int) := by omega
      have hC := fun W => markText_any (k + j) W (by omega) (by omega)
      rw [Int.natCast_add] at hC
      have HC := Lib.hid hC
      have hz := hB.size
      have hbl := World.block_lt_of_cell? _ _ hca
      have hsame := same_yes (rfl : markB (k + j) = markB (k + j))
      clear hC
      go_wp2
      go_region_held3 (fun w' => Below wr.heap.size wr w' ∧ (∀ b o, b < wr.heap.size → w'.cell? ⟨b, o, none⟩ = wr.cell? ⟨b, o, none⟩) ∧ w'.cell? (a.add j) = some (.string (markB (k + j))))
        ((first | (refine mkS2 hca hbl ?_; assumption) | (refine mkS2 hca hbl ?_; go_grown)))
        (first
          | (go_at_call 86; refine (HC.out _).mono ?_; rintro e w' ⟨rfl, hb⟩; have hBB := callS2 (by assumption) hb; clear hb))
      go_wp2
      go_roundw
      case rel => exact ⟨j + 1, hlt, by go_num, by go_num, hB.trans (hBB.mono hz)⟩
      case measure => simp [intOf]; omega
    · obtain rfl : j = n := by omega
      go_wp2
      go_ret
      exact ⟨rfl, hB⟩
end Go.Proofs.Ytajbbinphnekiaa
