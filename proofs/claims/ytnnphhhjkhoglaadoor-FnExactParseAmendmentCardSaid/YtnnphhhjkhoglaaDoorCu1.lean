/- The cursor by which the reference reads choices from bytes: next, pick, among. Conditions: the ranges named. -/
import Derived.Test.YtnnphhhjkhoglaaDoorProg
import Derived.Test.YtnnphhhjkhoglaaDoorSetc
import Derived.Test.YtnnphhhjkhoglaaDoorInts
import Derived.Test.YtnnphhhjkhoglaaDoorSetc2
import Derived.WalkSpells
import Derived.BigQuiet
import Derived.Laws.BitsAllLaws
import Derived.Deep.DrawnRows
namespace Go.Proofs.YtnnphhhjkhoglaaDoor
open Go.RowKit
set_option linter.unusedVariables false
set_option linter.unusedSimpArgs false
/-- A slice of bytes that is read. -/
def BytesC (w : World) (A : Option Addr) (n : Nat) : Prop := ∀ i, i < n → ∃ (a : Addr) (x : Int), A = some a ∧ 0 ≤ x ∧ x ≤ 255 ∧ w.cell? (a.add i) = some (.int .u8 x)
theorem BytesC.block {w w' : World} {A : Option Addr} {n : Nat} (h : BytesC w A n) (hb : ∀ a, A = some a → a.block < w.heap.size → w'.heap[a.block]? = w.heap[a.block]?) : BytesC w' A n := fun i hi => by
  obtain ⟨a, x, hA, h0, h1, hc⟩ := h i hi
  have hl := World.block_lt_of_cell? _ _ hc
  rw [block_add] at hl
  exact ⟨a, x, hA, h0, h1, (World.cell?_of_block (a := a.add i) (by rw [block_add]; exact hb a hA hl)).trans hc⟩
theorem Cells.block2 {w w' : World} {A : Option Addr} {xs : List Value} (h : Cells w A xs) (hb : ∀ a, A = some a → a.block < w.heap.size → w'.heap[a.block]? = w.heap[a.block]?) : Cells w' A xs := fun i u hi => by
  obtain ⟨ad, hA, hc⟩ := h i u hi
  have hl := World.block_lt_of_cell? _ _ hc
  rw [block_add] at hl
  exact ⟨ad, hA, (World.cell?_of_block (a := ad.add i) (by rw [block_add]; exact hb ad hA hl)).trans hc⟩
/-- The cursor lies in block b; m bytes at most have been read. -/
structure Cur (w : World) (b : Nat) (A : Option Addr) (n c m : Nat) : Prop where
  box : ∃ (k : Nat) (s : Int), k ≤ m ∧ 0 ≤ s ∧ s < 18446744073709551616 ∧ BoxF w b [.slice A n c, .int .i64 k, .int .u64 s]
  lt : b < w.heap.size
  off : ∀ a, A = some a → 0 < n → a.block ≠ b
  bytes : BytesC w A n
  few : n ≤ 65536
theorem Cur.mono {w : World} {b : Nat} {A : Option Addr} {n c m m' : Nat} (h : Cur w b A n c m) (hm : m ≤ m') : Cur w b A n c m' := by
  obtain ⟨⟨k, s, h1, h2⟩, h3, h4, h5, h6⟩ := h
  exact ⟨⟨k, s, Nat.le_trans h1 hm, h2⟩, h3, h4, h5, h6⟩
theorem BoxF.blk {w w' : World} {b : Nat} {vs : List Value} (h : BoxF w b vs) (hb : w'.heap[b]? = w.heap[b]?) : BoxF w' b vs :=
  ⟨fun i v hi => (World.cell?_of_block (a := ⟨b, i, none⟩) hb).trans (h.1 i v hi), fun i => (World.frozen?_of_block (a := ⟨b, i, none⟩) hb).trans (h.2 i)⟩
theorem Cur.below {w w' : World} {b : Nat} {A : Option Addr} {n c m : Nat} (h : Cur w b A n c m) (hb : Below w.heap.size w w') : Cur w' b A n c m := by
  obtain ⟨⟨k, s, h1, h2, h2', hx⟩, h3, h4, h5, h6⟩ := h
  exact ⟨⟨k, s, h1, h2, h2', hx.blk (hb.block b h3)⟩, Nat.lt_of_lt_of_le h3 hb.size, h4, h5.block fun a _ hl => hb.block _ hl, h6⟩
/-- The cursor after a read. -/
theorem Cur.read {w w' : World} {b : Nat} {A : Option Addr} {n c m k : Nat} {s : Int} (h : Cur w b A n c m) (hk : k ≤ m + 1) (h0 : 0 ≤ s) (h1 : s < 18446744073709551616) (hx : BoxF w' b [.slice A n c, .int .i64 k, .int .u64 s]) (ho : Only b (b + 1) w w') : Cur w' b A n c (m + 1) := by
  refine ⟨⟨k, s, hk, h0, h1, hx⟩, Nat.lt_of_lt_of_le h.lt ho.size, h.off, ?_, h.few⟩
  rcases Nat.eq_zero_or_pos n with e | e
  · subst e; exact fun i hi => absurd hi (by omega)
  · exact h.bytes.block fun a ha hl => ho.block _ hl (by have := h.off a ha e; omega)
theorem u64_range (x : Int) : 0 ≤ IntKind.u64.wrap x ∧ IntKind.u64.wrap x < 18446744073709551616 := by
  rw [IntKind.wrap_u64]; omega
theorem low_byte {S : Int} (h0 : 0 ≤ S) (h1 : S < 18446744073709551616) : 0 ≤ wrap64 (bits .and .u64 (S / 1099511627776) 255) ∧ wrap64 (bits .and .u64 (S / 1099511627776) 255) ≤ 255 := by
  rw [u64_and _ _ (by omega) (by omega) (by omega) (by omega)]
  have h2 : (S / 1099511627776).toNat &&& (255 : Int).toNat ≤ 255 := Nat.and_le_right
  unfold wrap64
  omega
end Go.Proofs.YtnnphhhjkhoglaaDoor
