/- Rows of cells, read and written, and objects in memory in the words in which the laws' walks carry them. No program is named here. Conditions: none. -/
import Derived.Test.YtnnphhhjkhoglaaGreatDoorKit
import Derived.WalkSpells
import Derived.Deep.AppendLies
namespace Go.Proofs.YtnnphhhjkhoglaaGreatDoor
open Go.RowKit
set_option linter.unusedVariables false

/-- The slice at A reads, from its head on, as the cells xs. -/
def Cells (w : World) (A : Option Addr) (xs : List Value) : Prop := ∀ (i : Nat) (u : Value), xs[i]? = some u → ∃ ad, A = some ad ∧ w.cell? (ad.add i) = some u
theorem Cells.nil_ {w : World} {A : Option Addr} : Cells w A [] := fun i u h => by simp at h
theorem block_add (a : Addr) (n : Nat) : (a.add n).block = a.block := by unfold Addr.add; split <;> rfl
theorem add_add' (a : Addr) (i j : Nat) : (a.add i).add j = a.add (i + j) := by
  unfold Addr.add
  by_cases hi : i = 0 <;> by_cases hj : j = 0 <;> simp [hi, hj, Nat.add_assoc]
theorem add_split {a : Addr} {i j : Nat} (h : 0 < j) : a.add (i + j) = ⟨(a.add i).block, (a.add i).off + j, none⟩ := by
  unfold Addr.add
  by_cases hi : i = 0 <;> simp [hi, show ¬ j = 0 by omega, Nat.add_assoc] <;> try omega
theorem add_head (g j : Nat) : (⟨g, 0, none⟩ : Addr).add j = ⟨g, j, none⟩ := by unfold Addr.add; split <;> simp_all
theorem Cells.below {w w' : World} {A : Option Addr} {xs : List Value} (h : Cells w A xs) (hb : Below w.heap.size w w') : Cells w' A xs := fun i u hi => by
  obtain ⟨ad, hA, hc⟩ := h i u hi
  exact ⟨ad, hA, (hb.cell (World.block_lt_of_cell? _ _ hc)).trans hc⟩
theorem Cells.of_own {w : World} {base : Nat} {e : TypeId} {size : Nat} {A : Option Addr} {n c : Nat} {xs : List Value} (h : w.ownsRow base e size (.slice A n c) n xs) : Cells w A xs := fun i u hi => by
  have hl : i < xs.length := by
    rcases Nat.lt_or_ge i xs.length with h1 | h1
    · exact h1
    · rw [List.getElem?_eq_none h1] at hi; cases hi
  have hn : 0 < n := by
    rcases Nat.eq_zero_or_pos n with h0 | h0
    · rw [h.1, h0] at hl; omega
    · exact h0
  obtain ⟨g, cap, hv, _, _⟩ := h.form hn
  obtain ⟨rfl, _, _⟩ : A = some ⟨g, 0, none⟩ ∧ n = n ∧ c = cap := by simpa using hv
  exact ⟨_, rfl, h.cells (g := g) rfl i u hi⟩
theorem own_cell {w : World} {base : Nat} {e : TypeId} {size g n cap : Nat} {xs : List Value} (h : w.ownsRow base e size (.slice (some ⟨g, 0, none⟩) n cap) n xs) {j : Nat} (hj : j < n * size) : ∃ u, w.cell? ⟨g, j, none⟩ = some u := by
  have := h.cellAt j hj
  exact ⟨_, this.trans (List.getElem?_eq_getElem (by rw [h.1]; omega))⟩
theorem own_mono {w : World} {base base' : Nat} {e : TypeId} {size n : Nat} {v : Value} {xs : List Value} (h : w.ownsRow base e size v n xs) (hb : base' ≤ base) : w.ownsRow base' e size v n xs := by
  obtain ⟨h1, h2⟩ := h
  rcases h2 with h2 | ⟨g, cap, cur, hv, hg, r⟩
  · exact ⟨h1, .inl h2⟩
  · exact ⟨h1, .inr ⟨g, cap, cur, hv, Nat.le_trans hb hg, r⟩⟩
theorem own_keep {w w' : World} {base : Nat} {e : TypeId} {size n : Nat} {v : Value} {xs : List Value} (h : w.ownsRow base e size v n xs) (hb : Below w.heap.size w w') : w'.ownsRow base e size v n xs := by
  refine h.kept (grownBy_of_below hb none) ?_
  cases h1 : v.ownBlock with
  | none => exact .inl rfl
  | some g => exact .inr (by simp)
theorem bytes_toList (a b : ByteArray) : (a.toList = b.toList) ↔ a = b := by
  constructor
  · intro h
    have h1 := ByteArray.toList_eq a
    have h2 := ByteArray.toList_eq b
    rw [h1, h2] at h
    exact ByteArray.ext (Array.ext' h)
  · rintro rfl; rfl
theorem same_yes {a b : ByteArray} (h : a = b) : (!a.toList == b.toList) = false := by simp [h]
theorem same_no {a b : ByteArray} (h : a ≠ b) : (!a.toList == b.toList) = true := by simp [bytes_toList, h]

/-- Only blocks lo .. hi - 1, and what is new, have turned. -/
structure Only (lo hi : Nat) (w w' : World) : Prop where
  os : w'.os = w.os
  tape : w'.tape = w.tape
  output : w'.output = w.output
  size : w.heap.size ≤ w'.heap.size
  block : ∀ k, k < w.heap.size → k < lo ∨ hi ≤ k → w'.heap[k]? = w.heap[k]?
theorem Only.of_below {lo hi : Nat} {w w' : World} (h : Below w.heap.size w w') : Only lo hi w w' := ⟨h.os, h.tape, h.output, h.size, fun k hk _ => h.block k hk⟩
theorem Only.trans {lo hi : Nat} {w w1 w2 : World} (h : Only lo hi w w1) (k : Only lo hi w1 w2) : Only lo hi w w2 :=
  ⟨k.os.trans h.os, k.tape.trans h.tape, k.output.trans h.output, Nat.le_trans h.size k.size, fun i hi ho => (k.block i (Nat.lt_of_lt_of_le hi h.size) ho).trans (h.block i hi ho)⟩
theorem Only.below {lo hi : Nat} {w w' : World} (h : Only lo hi w w') (hl : lo ≤ w.heap.size) : Below lo w w' := ⟨h.os, h.tape, h.output, h.size, fun k hk => h.block k (Nat.lt_of_lt_of_le hk hl) (.inl hk)⟩
theorem Only.of_grown {lo hi : Nat} {w w' : World} {row : Option Nat} (h : w.grownBy w' row) (hr : ∀ g, row = some g → lo ≤ g ∧ g < hi) : Only lo hi w w' :=
  ⟨h.os, h.tape, h.output, h.size, fun k hk ho => h.block k hk (fun e => by have := hr k e.symm; omega)⟩
theorem Only.mono {lo hi lo' hi' : Nat} {w w' : World} (h : Only lo hi w w') (h1 : lo' ≤ lo) (h2 : hi ≤ hi') : Only lo' hi' w w' := ⟨h.os, h.tape, h.output, h.size, fun k hk ho => h.block k hk (by omega)⟩

/-- Cells that are read, all in blocks below B. -/
def CellsB (B : Nat) (w : World) (A : Option Addr) (xs : List Value) : Prop := ∀ (i : Nat) (u : Value), xs[i]? = some u → ∃ ad, A = some ad ∧ ad.block < B ∧ w.cell? (ad.add i) = some u
theorem CellsB.cells {B : Nat} {w : World} {A : Option Addr} {xs : List Value} (h : CellsB B w A xs) : Cells w A xs := fun i u hi => by
  obtain ⟨ad, h1, _, h2⟩ := h i u hi
  exact ⟨ad, h1, h2⟩
theorem CellsB.of_cells {w : World} {A : Option Addr} {xs : List Value} (h : Cells w A xs) : CellsB w.heap.size w A xs := fun i u hi => by
  obtain ⟨ad, h1, h2⟩ := h i u hi
  exact ⟨ad, h1, by have := World.block_lt_of_cell? _ _ h2; rwa [block_add] at this, h2⟩
theorem CellsB.below {B B' : Nat} {w w' : World} {A : Option Addr} {xs : List Value} (h : CellsB B w A xs) (hb : Below B' w w') (hB : B ≤ B') : CellsB B w' A xs := fun i u hi => by
  obtain ⟨ad, h1, h2, h3⟩ := h i u hi
  exact ⟨ad, h1, h2, (hb.cell (by rw [block_add]; omega)).trans h3⟩
theorem CellsB.up {B B' : Nat} {w : World} {A : Option Addr} {xs : List Value} (h : CellsB B w A xs) (hB : B ≤ B') : CellsB B' w A xs := fun i u hi => by
  obtain ⟨ad, h1, h2, h3⟩ := h i u hi
  exact ⟨ad, h1, Nat.lt_of_lt_of_le h2 hB, h3⟩
/-- The blocks of what a call made lie below hi. -/
def Under (hi : Nat) (A : Option Addr) : Prop := ∀ a, A = some a → a.block < hi
theorem Under.mono {hi hi' : Nat} {A : Option Addr} (h : Under hi A) (hh : hi ≤ hi') : Under hi' A := fun a e => Nat.lt_of_lt_of_le (h a e) hh
theorem own_only {w w' : World} {lo hi lo' hi' : Nat} {e : TypeId} {size n c : Nat} {A : Option Addr} {xs : List Value} (h : w.ownsRow lo e size (.slice A n c) n xs) (hu : Under hi A) (ho : Only lo' hi' w w') (hd : hi ≤ lo' ∨ hi' ≤ lo) : w'.ownsRow lo e size (.slice A n c) n xs := by
  have hl := h.lt
  obtain ⟨h1, h2⟩ := h
  refine ⟨h1, ?_⟩
  rcases h2 with h2 | ⟨g, cap, cur, hv, hg, hh, r⟩
  · exact .inl h2
  · obtain ⟨rfl, _, rfl⟩ : A = some ⟨g, 0, none⟩ ∧ n = n ∧ c = cap := by simpa using hv
    have h3 := hl g rfl
    have h4 := hu _ rfl
    exact .inr ⟨g, c, cur, rfl, hg, (ho.block g h3.2 (by simp at h4; omega)).trans hh, r⟩
theorem own_under {w w' : World} {lo hi B : Nat} {e : TypeId} {size n c : Nat} {A : Option Addr} {xs : List Value} (h : w.ownsRow lo e size (.slice A n c) n xs) (hu : Under hi A) (hb : Below B w w') (hB : hi ≤ B) : w'.ownsRow lo e size (.slice A n c) n xs := by
  refine own_only h hu (lo' := B) (hi' := w.heap.size) ⟨hb.os, hb.tape, hb.output, hb.size, fun k hk ho => ?_⟩ (.inl hB)
  rcases ho with ho | ho
  · exact hb.block k ho
  · omega
theorem Under.own {w : World} {lo : Nat} {e : TypeId} {size n c : Nat} {A : Option Addr} {xs : List Value} (h : w.ownsRow lo e size (.slice A n c) n xs) : Under w.heap.size A := fun a ha => by
  subst ha
  exact (h.lt a.block rfl).2
theorem own_cap {w : World} {lo : Nat} {e : TypeId} {size n c : Nat} {A : Option Addr} {xs : List Value} (h : w.ownsRow lo e size (.slice A n c) n xs) : n ≤ c := by
  rcases h.2 with ⟨h1, h2⟩ | ⟨g, cap, cur, hv, _, _, hnc, _⟩
  · omega
  · obtain ⟨_, _, rfl⟩ : A = some ⟨g, 0, none⟩ ∧ n = n ∧ c = cap := by simpa using hv
    exact hnc
theorem CellsB.own {w : World} {lo hi : Nat} {e : TypeId} {size n c : Nat} {A : Option Addr} {xs : List Value} (h : w.ownsRow lo e size (.slice A n c) n xs) (hu : Under hi A) : CellsB hi w A xs := fun i u hi => by
  obtain ⟨ad, h1, h2⟩ := Cells.of_own h i u hi
  exact ⟨ad, h1, hu _ h1, h2⟩
/-! ### A boxed struct -/
def BoxL (B : Nat) (w : World) (b : Nat) (vs : List Value) : Prop := b < B ∧ ∀ (i : Nat) (v : Value), vs[i]? = some v → w.cell? ⟨b, i, none⟩ = some v
theorem BoxL.below {B B' : Nat} {w w' : World} {b : Nat} {vs : List Value} (h : BoxL B w b vs) (hb : Below B' w w') (hB : B ≤ B') : BoxL B w' b vs :=
  ⟨h.1, fun i v hi => (hb.cell (p := ⟨b, i, none⟩) (Nat.lt_of_lt_of_le h.1 hB)).trans (h.2 i v hi)⟩
theorem BoxL.new (w : World) (vs : Array Value) (t : TypeId) : BoxL (w.heap.size + 1) (w.alloc (.cells vs t)) w.heap.size vs.toList :=
  ⟨Nat.lt_succ_self _, fun i v hi => by rw [cell_of_row _ _ i vs t (0, 0) (heap_alloc_new w _)]; simpa using hi⟩
theorem BoxL.only {B lo hi : Nat} {w w' : World} {b : Nat} {vs : List Value} (h : BoxL B w b vs) (ho : Only lo hi w w') (hb : hi ≤ b) (hw : b < w.heap.size) : BoxL B w' b vs :=
  ⟨h.1, fun i v hi => (World.cell?_of_block (ho.block b hw (.inr hb))).trans (h.2 i v hi)⟩
theorem BoxL.mono {B B' : Nat} {w : World} {b : Nat} {vs : List Value} (h : BoxL B w b vs) (hB : B ≤ B') : BoxL B' w b vs := ⟨Nat.lt_of_lt_of_le h.1 hB, h.2⟩

/-! ### Kinds of elements -/
/-- How an element lies in cells, and what is known of it. -/
structure Kd (α : Type) where
  sz : Nat
  enc : α → List Value
  len : ∀ x, (enc x).length = sz
  fit : α → Prop
section
variable {α : Type} (K : Kd α)
/-- The cells of a list. -/
def Kd.row (xs : List α) : List Value := xs.flatMap K.enc
theorem Kd.row_len (xs : List α) : (K.row xs).length = xs.length * K.sz := by
  induction xs with
  | nil => simp [Kd.row]
  | cons x xs ih =>
    have h : K.row (x :: xs) = K.enc x ++ K.row xs := rfl
    rw [h, List.length_append, ih, K.len, List.length_cons, Nat.succ_mul]; omega
theorem Kd.row_get {xs : List α} {i j : Nat} {v : Value} (h : i < xs.length) (hj : (K.enc xs[i])[j]? = some v) : (K.row xs)[i * K.sz + j]? = some v := by
  induction xs generalizing i with
  | nil => simp at h
  | cons x xs ih =>
    have hr : K.row (x :: xs) = K.enc x ++ K.row xs := rfl
    cases i with
    | zero =>
      simp only [List.getElem_cons_zero] at hj
      rw [hr, Nat.zero_mul, Nat.zero_add, List.getElem?_append_left]
      · exact hj
      · exact (List.getElem?_eq_some_iff.1 hj).1
    | succ i =>
      simp only [List.getElem_cons_succ] at hj
      rw [hr, List.getElem?_append_right (by rw [K.len, Nat.succ_mul]; omega), K.len]
      rw [show (i + 1) * K.sz + j - K.sz = i * K.sz + j by rw [Nat.succ_mul]; omega]
      exact ih (by simpa using h) hj
theorem Kd.row_append (xs ys : List α) : K.row (xs ++ ys) = K.row xs ++ K.row ys := by simp [Kd.row]
theorem Kd.row_nil : K.row [] = [] := rfl
theorem Kd.row_one (x : α) : K.row [x] = K.enc x := by simp [Kd.row]
theorem Kd.row_snoc (xs : List α) (x : α) : K.row (xs ++ [x]) = K.row xs ++ K.enc x := by rw [Kd.row_append, Kd.row_one]
theorem Kd.row_take (xs : List α) (n : Nat) : K.row (xs.take n) = (K.row xs).take (n * K.sz) := by
  rcases Nat.le_total n xs.length with h | h
  · have h1 : K.row xs = K.row (xs.take n) ++ K.row (xs.drop n) := by rw [← Kd.row_append, List.take_append_drop]
    rw [h1, List.take_left' (by rw [K.row_len, List.length_take, Nat.min_eq_left h])]
  · rw [List.take_of_length_le h, List.take_of_length_le (by rw [K.row_len]; exact Nat.mul_le_mul_right _ h)]
theorem Kd.row_drop (xs : List α) (n : Nat) : K.row (xs.drop n) = (K.row xs).drop (n * K.sz) := by
  rcases Nat.le_total n xs.length with h | h
  · have h1 : K.row xs = K.row (xs.take n) ++ K.row (xs.drop n) := by rw [← Kd.row_append, List.take_append_drop]
    rw [h1, List.drop_left' (by rw [K.row_len, List.length_take, Nat.min_eq_left h])]
  · rw [List.drop_of_length_le h, List.drop_of_length_le (by rw [K.row_len]; exact Nat.mul_le_mul_right _ h)]; rfl
end
/-- A list that is read: its memory lies below B. -/
def Rd {α : Type} (K : Kd α) (B : Nat) (w : World) (A : Option Addr) (c : Nat) (xs : List α) : Prop := xs.length ≤ c ∧ CellsB B w A (K.row xs) ∧ xs.length ≤ 1048576 ∧ ∀ x ∈ xs, K.fit x
/-- The same of an argument of which the sizes are not known yet. -/
def Rd0 {α : Type} (K : Kd α) (B : Nat) (w : World) (A : Option Addr) (c : Nat) (xs : List α) : Prop := xs.length ≤ c ∧ CellsB B w A (K.row xs) ∧ xs.length ≤ maxLen ∧ ∀ x ∈ xs, K.fit x
/-- A list that a call made: its memory lies in blocks lo .. hi - 1. -/
def Ow {α : Type} (K : Kd α) (e : TypeId) (lo hi : Nat) (w : World) (A : Option Addr) (c : Nat) (xs : List α) : Prop := w.ownsRow lo e K.sz (.slice A xs.length c) xs.length (K.row xs) ∧ Under hi A ∧ xs.length ≤ 1048576 ∧ ∀ x ∈ xs, K.fit x
section
variable {α : Type} {K : Kd α} {e : TypeId} {B B' lo hi lo' hi' : Nat} {w w' : World} {A : Option Addr} {c : Nat} {xs : List α}
theorem Rd.below (h : Rd K B w A c xs) (hb : Below B' w w') (hB : B ≤ B') : Rd K B w' A c xs := ⟨h.1, h.2.1.below hb hB, h.2.2⟩
theorem Rd.up (h : Rd K B w A c xs) (hB : B ≤ B') : Rd K B' w A c xs := ⟨h.1, h.2.1.up hB, h.2.2⟩
theorem Rd.cells (h : Rd K B w A c xs) : Cells w A (K.row xs) := h.2.1.cells
theorem Rd.weak (h : Rd K B w A c xs) : Rd0 K B w A c xs := ⟨h.1, h.2.1, Nat.le_trans h.2.2.1 (by unfold maxLen; omega), h.2.2.2⟩
theorem Rd0.below (h : Rd0 K B w A c xs) (hb : Below B' w w') (hB : B ≤ B') : Rd0 K B w' A c xs := ⟨h.1, h.2.1.below hb hB, h.2.2⟩
theorem Rd0.rd (h : Rd0 K B w A c xs) (hf : xs.length ≤ 1048576) : Rd K B w A c xs := ⟨h.1, h.2.1, hf, h.2.2.2⟩
theorem Ow.rd (h : Ow K e lo hi w A c xs) : Rd K hi w A c xs := ⟨own_cap h.1, CellsB.own h.1 h.2.1, h.2.2⟩
theorem Ow.below (h : Ow K e lo hi w A c xs) (hb : Below B w w') (hB : hi ≤ B) : Ow K e lo hi w' A c xs := ⟨own_under h.1 h.2.1 hb hB, h.2⟩
theorem Ow.only (h : Ow K e lo hi w A c xs) (ho : Only lo' hi' w w') (hd : hi ≤ lo' ∨ hi' ≤ lo) : Ow K e lo hi w' A c xs := ⟨own_only h.1 h.2.1 ho hd, h.2⟩
theorem Ow.mk (h : w.ownsRow lo e K.sz (.slice A xs.length c) xs.length (K.row xs)) (hn : xs.length ≤ 1048576) (hf : ∀ x ∈ xs, K.fit x) : Ow K e lo w.heap.size w A c xs := ⟨h, Under.own h, hn, hf⟩
theorem Ow.low (h : Ow K e lo hi w A c xs) (hl : lo' ≤ lo) : Ow K e lo' hi w A c xs := ⟨own_mono h.1 hl, h.2⟩
theorem Ow.high (h : Ow K e lo hi w A c xs) (hl : hi ≤ hi') : Ow K e lo hi' w A c xs := ⟨h.1, h.2.1.mono hl, h.2.2⟩
/-- The cells of element i. -/
theorem Rd.at_ (h : Cells w A (K.row xs)) {i : Nat} (hi : i < xs.length) (h0 : 0 < K.sz) : ∃ ad, A = some ad ∧ ∀ j v, (K.enc xs[i])[j]? = some v → w.cell? (ad.add (i * K.sz + j)) = some v := by
  have hz : ∃ v, (K.enc xs[i])[0]? = some v := ⟨_, List.getElem?_eq_getElem (by rw [K.len]; exact h0)⟩
  obtain ⟨v, hv⟩ := hz
  obtain ⟨ad, hA, _⟩ := h _ _ (K.row_get hi hv)
  refine ⟨ad, hA, fun j u hu => ?_⟩
  obtain ⟨ad', hA', hc⟩ := h _ _ (K.row_get hi hu)
  rw [hA] at hA'
  cases hA'
  exact hc
end
/-- A call that returns a list of its own. -/
def ToL {α : Type} (K : Kd α) (e : TypeId) (w : World) (xs : List α) (d : Ending) (w' : World) : Prop := ∃ (A : Option Addr) (c : Nat), d = .returned (.slice A xs.length c) ∧ Ow K e w.heap.size w'.heap.size w' A c xs ∧ Below w.heap.size w w'
/-- A call that returns a list of its own and a Bool. -/
def ToLB {α : Type} (K : Kd α) (e : TypeId) (w : World) (xs : List α) (ok : Bool) (d : Ending) (w' : World) : Prop := ∃ (A : Option Addr) (c : Nat), d = .returned (.tuple #[.slice A xs.length c, .bool ok]) ∧ Ow K e w.heap.size w'.heap.size w' A c xs ∧ Below w.heap.size w w'
/-- What the laws' sizes return of a list whose elements weigh nothing. -/
def szN (n : Nat) (left : Int) : Int := if left - (n : Int) < 0 then -1 else left - (n : Int)
theorem szN_ok {n : Nat} {left : Int} (h : ¬ szN n left < 0) : (n : Int) ≤ left ∧ szN n left = left - n := by
  unfold szN at h ⊢
  split at h
  · omega
  · rename_i h1; rw [if_neg h1]; omega
theorem szN_neg {n : Nat} {left : Int} (h : szN n left < 0) : szN n left = -1 := by
  unfold szN at h ⊢
  split at h
  · rename_i h1; rw [if_pos h1]
  · omega
/-! ### A copy that fills a row of its own, element by element -/
/-- The first k elements are written, the others are none. -/
def Kd.part {α : Type} (K : Kd α) (z : List Value) (xs : List α) (k : Nat) : List Value := K.row (xs.take k) ++ (List.replicate (xs.length - k) z).flatten
theorem Kd.part_zero {α : Type} (K : Kd α) (z : List Value) (xs : List α) : K.part z xs 0 = (List.replicate xs.length z).flatten := by simp [Kd.part, Kd.row]
theorem Kd.part_all {α : Type} (K : Kd α) (z : List Value) (xs : List α) : K.part z xs xs.length = K.row xs := by simp [Kd.part]
/-- Cells written one behind the other. -/
def setL (ys : List Value) (i : Nat) : List Value → List Value
  | [] => ys
  | v :: vs => setL (ys.set i v) (i + 1) vs
theorem setL_append (a b c : List Value) (h : b.length = c.length) (d : List Value) : setL (a ++ (b ++ d)) a.length c = a ++ (c ++ d) := by
  induction c generalizing a b with
  | nil => cases b with
    | nil => rfl
    | cons x b => simp at h
  | cons v c ih =>
    cases b with
    | nil => simp at h
    | cons x b =>
      rw [setL]
      have h1 : (a ++ (x :: b ++ d)).set a.length v = (a ++ [v]) ++ (b ++ d) := by
        rw [List.set_append_right _ _ (Nat.le_refl _), Nat.sub_self]; simp
      rw [h1]
      have h2 := ih (a ++ [v]) b (by simpa using h)
      rw [List.length_append] at h2
      simp only [List.length_cons, List.length_nil, Nat.zero_add] at h2
      rw [h2]; simp
theorem Kd.part_set {α : Type} (K : Kd α) {z : List Value} {xs : List α} {k : Nat} (hz : z.length = K.sz) (h : k < xs.length) : setL (K.part z xs k) (k * K.sz) (K.enc xs[k]) = K.part z xs (k + 1) := by
  have hl : (K.row (xs.take k)).length = k * K.sz := by rw [K.row_len, List.length_take, Nat.min_eq_left (Nat.le_of_lt h)]
  unfold Kd.part
  have h2 : xs.length - k = (xs.length - (k + 1)) + 1 := by omega
  rw [h2, List.replicate_succ, List.flatten_cons, ← hl, setL_append _ _ _ (by rw [hz, K.len]), List.take_succ_eq_append_getElem h, K.row_snoc]
  simp
theorem made_row (z : Array Value) (n : Nat) (h : 0 < z.size) : (madeCells z (n * z.size)).toList = (List.replicate n z.toList).flatten := by
  apply List.ext_getElem
  · simp [madeCells]
  · intro i h1 h2
    have hlt : i % z.size < z.size := Nat.mod_lt _ h
    have hq : i / z.size < n := by
      rw [Nat.div_lt_iff_lt_mul h]
      simpa [madeCells] using h1
    have e1 : (madeCells z (n * z.size)).toList[i] = z[i % z.size]'hlt := by simp [madeCells, hlt]
    rw [e1]
    have key : ∀ (m i : Nat), i < m * z.size → (List.replicate m z.toList).flatten[i]? = some (z[i % z.size]'(Nat.mod_lt _ h)) := by
      intro m
      induction m with
      | zero => intro i hi; omega
      | succ m ih =>
        intro i hi
        rw [List.replicate_succ, List.flatten_cons]
        rcases Nat.lt_or_ge i z.size with hc | hc
        · rw [List.getElem?_append_left (by simpa using hc)]
          have : i % z.size = i := Nat.mod_eq_of_lt hc
          simp [this, hc]
        · rw [List.getElem?_append_right (by simpa using hc)]
          have hi' : i - z.toList.length < m * z.size := by simp; rw [Nat.succ_mul] at hi; omega
          rw [ih _ hi']
          have : (i - z.toList.length) % z.size = i % z.size := by
            simp only [Array.length_toList]
            exact (Nat.mod_eq_sub_mod hc).symm
          have e2 : ∀ (p q : Nat) (hp : p < z.size) (hq : q < z.size), p = q → z[p] = z[q] := by intro p q hp hq e; subst e; rfl
          exact congrArg some (e2 _ _ _ _ this)
    have h3 := key n i (by simpa [madeCells] using h1)
    rw [List.getElem?_eq_getElem h2] at h3
    exact (Option.some.inj h3).symm
/-! ### Marks: the first j elements are new -/
def mkL {α : Type} (f : Nat → α) : Nat → List α
  | 0 => []
  | n + 1 => mkL f n ++ [f n]
theorem mkL_len {α : Type} (f : Nat → α) (n : Nat) : (mkL f n).length = n := by
  induction n with
  | zero => rfl
  | succ n ih => simp [mkL, ih]
theorem mkL_get {α : Type} (f : Nat → α) (n i : Nat) (h : i < n) : (mkL f n)[i]'(by rw [mkL_len]; exact h) = f i := by
  induction n with
  | zero => omega
  | succ n ih =>
    simp only [mkL]
    rcases Nat.lt_or_ge i n with h1 | h1
    · rw [List.getElem_append_left (by rw [mkL_len]; exact h1)]; exact ih h1
    · obtain rfl : i = n := by omega
      rw [List.getElem_append_right (by rw [mkL_len]; omega)]
      simp
theorem mkL_mem {α : Type} {f : Nat → α} {n : Nat} {x : α} (h : x ∈ mkL f n) : ∃ i, i < n ∧ x = f i := by
  obtain ⟨i, hi, rfl⟩ := List.getElem_of_mem h
  rw [mkL_len] at hi
  exact ⟨i, hi, mkL_get f n i hi⟩
def mixL {α : Type} (f : Nat → α) (j : Nat) (xs : List α) : List α := mkL f j ++ xs.drop j
theorem mixL_zero {α : Type} (f : Nat → α) (xs : List α) : mixL f 0 xs = xs := by simp [mixL, mkL]
theorem mixL_all {α : Type} {f : Nat → α} {n : Nat} {xs : List α} (h : xs.length = n) : mixL f n xs = mkL f n := by
  unfold mixL; rw [List.drop_of_length_le (by omega), List.append_nil]
theorem mixL_set {α : Type} (K : Kd α) {f : Nat → α} {j : Nat} {xs : List α} (h : j < xs.length) : setL (K.row (mixL f j xs)) (j * K.sz) (K.enc (f j)) = K.row (mixL f (j + 1) xs) := by
  have hl : (K.row (mkL f j)).length = j * K.sz := by rw [K.row_len, mkL_len]
  unfold mixL
  rw [List.drop_eq_getElem_cons h, K.row_append, K.row_append]
  have e1 : K.row (xs[j] :: xs.drop (j + 1)) = K.enc xs[j] ++ K.row (xs.drop (j + 1)) := rfl
  rw [e1, ← hl, setL_append _ _ _ (by rw [K.len, K.len]), mkL, K.row_snoc, List.append_assoc]
/-! ### The blocks lo .. hi - 1 are as they were -/
def Keep (lo hi : Nat) (w w' : World) : Prop := ∀ k, lo ≤ k → k < hi → w'.heap[k]? = w.heap[k]?
section
variable {lo hi lo' hi' : Nat} {w w1 w2 : World}
theorem Keep.rfl_ : Keep lo hi w w := fun _ _ _ => rfl
theorem Keep.trans (h : Keep lo hi w w1) (k : Keep lo hi w1 w2) : Keep lo hi w w2 := fun i h1 h2 => (k i h1 h2).trans (h i h1 h2)
theorem Keep.below {B : Nat} (h : Keep lo hi w w1) (hb : Below B w1 w2) (hB : hi ≤ B) : Keep lo hi w w2 := fun i h1 h2 => (hb.block i (Nat.lt_of_lt_of_le h2 hB)).trans (h i h1 h2)
theorem Keep.set (h : Keep lo hi w w1) {p : Addr} (hp : p.block < lo ∨ hi ≤ p.block) (u : Value) : Keep lo hi w (w1.setCell p u) := fun i h1 h2 => (Below.heap_setCell w1 p u i (by omega)).trans (h i h1 h2)
theorem Keep.alloc (h : Keep lo hi w w1) (hh : hi ≤ w1.heap.size) (o : Obj) : Keep lo hi w (w1.alloc o) := fun i h1 h2 => (Below.heap_alloc w1 o i (Nat.lt_of_lt_of_le h2 hh)).trans (h i h1 h2)
theorem Keep.drew (h : Keep lo hi w w1) : Keep lo hi w w1.drew := h
theorem Keep.only (h : Keep lo hi w w1) (ho : Only lo' hi' w1 w2) (hh : hi ≤ w1.heap.size) (hd : hi ≤ lo' ∨ hi' ≤ lo) : Keep lo hi w w2 := fun i h1 h2 => (ho.block i (Nat.lt_of_lt_of_le h2 hh) (by omega)).trans (h i h1 h2)
theorem own_stay {e : TypeId} {size n c : Nat} {A : Option Addr} {xs : List Value} (h : w.ownsRow lo e size (.slice A n c) n xs) (hu : Under hi A) (hk : Keep lo hi w w1) : w1.ownsRow lo e size (.slice A n c) n xs := by
  obtain ⟨h1, h2⟩ := h
  refine ⟨h1, ?_⟩
  rcases h2 with h2 | ⟨g, cap, cur, hv, hg, hh, r⟩
  · exact .inl h2
  · obtain ⟨rfl, _, rfl⟩ : A = some ⟨g, 0, none⟩ ∧ n = n ∧ c = cap := by simpa using hv
    exact .inr ⟨g, c, cur, rfl, hg, (hk g hg (by have := hu _ rfl; simpa using this)).trans hh, r⟩
theorem Ow.stay {α : Type} {K : Kd α} {e : TypeId} {A : Option Addr} {c : Nat} {xs : List α} (h : Ow K e lo hi w A c xs) (hk : Keep lo hi w w1) : Ow K e lo hi w1 A c xs := ⟨own_stay h.1 h.2.1 hk, h.2⟩
end
theorem Cells.alloc_ {w : World} {A : Option Addr} {xs : List Value} (h : Cells w A xs) (o : Obj) : Cells (w.alloc o) A xs := h.below ((Below.refl _ _).alloc (Nat.le_refl _) _)
/-- Rows of elements of two types lie in blocks that differ. -/
theorem own_ne {w : World} {lo lo' : Nat} {e e' : TypeId} {size size' n n' c c' : Nat} {A A' : Option Addr} {xs xs' : List Value} (h : w.ownsRow lo e size (.slice A n c) n xs) (h' : w.ownsRow lo' e' size' (.slice A' n' c') n' xs') (hne : e ≠ e') {g : Nat} (hg : (Value.slice A n c).ownBlock = some g) : (Value.slice A' n' c').ownBlock ≠ some g := by
  rcases h.2 with ⟨hv, _⟩ | ⟨g1, cap, cur, hv, _, hh, _⟩
  · rw [hv] at hg; simp [Value.ownBlock] at hg
  · rw [hv] at hg
    obtain rfl : g1 = g := by simpa [Value.ownBlock] using hg
    rcases h'.2 with ⟨hv', _⟩ | ⟨g2, cap', cur', hv', _, hh', _⟩
    · rw [hv']; simp [Value.ownBlock]
    · rw [hv']
      intro he
      obtain rfl : g2 = g1 := by simpa [Value.ownBlock] using he
      rw [hh] at hh'
      injection hh' with hh'
      injection hh' with _ ht
      exact hne ht
theorem own_two {w : World} {lo lo' : Nat} {e e' : TypeId} {size size' n n' c c' : Nat} {A A' : Option Addr} {xs xs' : List Value} (h : w.ownsRow lo e size (.slice A n c) n xs) (h' : w.ownsRow lo' e' size' (.slice A' n' c') n' xs') (hne : e ≠ e') : (Value.slice A' n' c').ownBlock = none ∨ (Value.slice A' n' c').ownBlock ≠ (Value.slice A n c).ownBlock := by
  cases h1 : (Value.slice A n c).ownBlock with
  | none =>
    cases h2 : (Value.slice A' n' c').ownBlock with
    | none => exact .inl rfl
    | some g => exact .inr (by simp)
  | some g => exact .inr (own_ne h h' hne h1)
theorem Ow.kept {α β : Type} {K : Kd α} {K' : Kd β} {e e' : TypeId} {lo hi lo' hi' : Nat} {w w' : World} {A A' : Option Addr} {c c' : Nat} {xs : List α} {ys : List β} (h : Ow K e lo hi w A c xs) (h' : Ow K' e' lo' hi' w A' c' ys) (hne : e' ≠ e) (hg : w.grownBy w' (Value.slice A' ys.length c').ownBlock) : Ow K e lo hi w' A c xs :=
  ⟨h.1.kept hg (own_two h'.1 h.1 hne), h.2⟩
/-! ### Callees that leave the world as it is, in a region that draws -/
theorem quiet_left {P : Program} {f : FuncId} {args : Array Value} {w : World} {n : Nat} {v : Value}
    (h : Calls P f args (w.drewN n) fun e w' => e = .returned v ∧ w.drewN n = w') : Calls P f args (w.drewN n) fun e w'' => e = .returned v ∧ ∃ m, w'' = w.drewN m :=
  h.mono fun _ _ ⟨he, hm⟩ => ⟨he, n, hm.symm⟩
theorem quiet_add_left {P : Program} {f : FuncId} {args : Array Value} {w : World} {a n : Nat} {v : Value}
    (h : Calls P f args (w.drewN (a + n)) fun e w' => e = .returned v ∧ w.drewN (a + n) = w') :
    Calls P f args (w.drewN (a + n)) fun e w'' => e = .returned v ∧ ∃ m, w'' = w.drewN (a + m) :=
  h.mono fun _ _ ⟨he, hm⟩ => ⟨he, n, hm.symm⟩
/-! ### For all numbers below n -/
def allN (p : Nat → Bool) : Nat → Bool
  | 0 => true
  | n + 1 => allN p n && p n
theorem allN_no {p : Nat → Bool} {k n : Nat} (h : k < n) (hp : p k = false) : allN p n = false := by
  induction n with
  | zero => omega
  | succ n ih =>
    rw [allN]
    rcases Nat.lt_or_ge k n with h1 | h1
    · rw [ih h1]; rfl
    · obtain rfl : k = n := by omega
      rw [hp, Bool.and_false]
theorem allN_yes {p : Nat → Bool} {n : Nat} : allN p n = true ↔ ∀ k, k < n → p k = true := by
  induction n with
  | zero => simp [allN]
  | succ n ih =>
    rw [allN, Bool.and_eq_true, ih]
    constructor
    · rintro ⟨h1, h2⟩ k hk
      rcases Nat.lt_or_ge k n with h3 | h3
      · exact h1 k h3
      · obtain rfl : k = n := by omega
        exact h2
    · intro h
      exact ⟨fun k hk => h k (by omega), h n (by omega)⟩
theorem allN_step {p : Nat → Bool} {k : Nat} (h : allN p k = true) (hp : p k = true) : allN p (k + 1) = true := by rw [allN, h, hp]; rfl
end Go.Proofs.YtnnphhhjkhoglaaGreatDoor
