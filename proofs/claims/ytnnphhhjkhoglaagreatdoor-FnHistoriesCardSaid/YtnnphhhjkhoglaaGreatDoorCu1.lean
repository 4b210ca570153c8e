/- The cursor by which the reference reads choices from bytes: next, pick, among. Conditions: the ranges named. -/
import Derived.Test.YtnnphhhjkhoglaaGreatDoorProg
import Derived.Test.YtnnphhhjkhoglaaGreatDoorSetc
import Derived.Test.YtnnphhhjkhoglaaGreatDoorInts
import Derived.Test.YtnnphhhjkhoglaaGreatDoorSetc2
import Derived.WalkSpells
import Derived.BigQuiet
import Derived.Laws.BitsAllLaws
import Derived.Deep.DrawnRows
namespace Go.Proofs.YtnnphhhjkhoglaaGreatDoor
open Go.RowKit
set_option linter.unusedVariables false
set_option linter.unusedSimpArgs false
/-- A slice of bytes that is read. -/
def BytesC (w : World) (A : Option Addr) (n : Nat) : Prop := ∀ i, i < n → ∃ (a : Addr) (x : Int), A = some a ∧ 0 ≤ x ∧ x ≤ 255 ∧ w.cell? (a.add i) = some (.int .u8 x)
theorem BytesC.block {w w' : World} {A : Option Addr} {n : Nat} (h : BytesC w A n) (hb : ∀ a, A = some a → a.block < w.heap.size → w'.heap[a.block]? = w.heap[a.block]?) : BytesC w' A n := fun i hi => by
  obtain ⟨a, x, hA, h0, h1, hc⟩ := h i hi
  have hl := World.block_lt_of_cell? _ _ hc
  rw [block_add] at hl
  exact ⟨a, x, hA, h0, h1, (World.cell?_of_block (a := a.add i) (by rw [block_add]; exact hb a hA hl)).trans hc⟩
theorem Cells.block2 {w w' : World} {A : Option Addr} {xs : List Value} (h : Cells w A xs) (hb : ∀ a, A = some a → a.block < w.heap.size → w'.heap[a.block]? = w.heap[a.block]?) : Cells w' A xs := fun i u hi => by
  obtain ⟨ad, hA, hc⟩ := h i u hi
  have hl := World.block_lt_of_cell? _ _ hc
  rw [block_add] at hl
  exact ⟨ad, hA, (World.cell?_of_block (a := ad.add i) (by rw [block_add]; exact hb ad hA hl)).trans hc⟩
/-- The cursor lies in block b; m bytes at most have been read. -/
structure Cur (w : World) (b : Nat) (A : Option Addr) (n c m : Nat) : Prop where
  box : ∃ (k : Nat) (s : Int), k ≤ m ∧ 0 ≤ s ∧ s < 18446744073709551616 ∧ BoxF w b [.slice A n c, .int .i64 k, .int .u64 s]
  lt : b < w.heap.size
  off : ∀ a, A = some a → 0 < n → a.block ≠ b
  bytes : BytesC w A n
  few : n ≤ 65536
theorem Cur.mono {w : World} {b : Nat} {A : Option Addr} {n c m m' : Nat} (h : Cur w b A n c m) (hm : m ≤ m') : Cur w b A n c m' := by
  obtain ⟨⟨k, s, h1, h2⟩, h3, h4, h5, h6⟩ := h
  exact ⟨⟨k, s, Nat.le_trans h1 hm, h2⟩, h3, h4, h5, h6⟩
theorem BoxF.blk {w w' : World} {b : Nat} {vs : List Value} (h : BoxF w b vs) (hb : w'.heap[b]? = w.heap[b]?) : BoxF w' b vs :=
  ⟨fun i v hi => (World.cell?_of_block (a := ⟨b, i, none⟩) hb).trans (h.1 i v hi), fun i => (World.frozen?_of_block (a := ⟨b, i, none⟩) hb).trans (h.2 i)⟩
theorem Cur.below {w w' : World} {b : Nat} {A : Option Addr} {n c m : Nat} (h : Cur w b A n c m) (hb : Below w.heap.size w w') : Cur w' b A n c m := by
  obtain ⟨⟨k, s, h1, h2, h2', hx⟩, h3, h4, h5, h6⟩ := h
  exact ⟨⟨k, s, h1, h2, h2', hx.blk (hb.block b h3)⟩, Nat.lt_of_lt_of_le h3 hb.size, h4, h5.block fun a _ hl => hb.block _ hl, h6⟩
/-- The cursor after a read. -/
theorem Cur.read {w w' : World} {b : Nat} {A : Option Addr} {n c m k : Nat} {s : Int} (h : Cur w b A n c m) (hk : k ≤ m + 1) (h0 : 0 ≤ s) (h1 : s < 18446744073709551616) (hx : BoxF w' b [.slice A n c, .int .i64 k, .int .u64 s]) (ho : Only b (b + 1) w w') : Cur w' b A n c (m + 1) := by
  refine ⟨⟨k, s, hk, h0, h1, hx⟩, Nat.lt_of_lt_of_le h.lt ho.size, h.off, ?_, h.few⟩
  rcases Nat.eq_zero_or_pos n with e | e
  · subst e; exact fun i hi => absurd hi (by omega)
  · exact h.bytes.block fun a ha hl => ho.block _ hl (by have := h.off a ha e; omega)
theorem u64_range (x : Int) : 0 ≤ IntKind.u64.wrap x ∧ IntKind.u64.wrap x < 18446744073709551616 := by
  rw [IntKind.wrap_u64]; omega
theorem low_byte {S : Int} (h0 : 0 ≤ S) (h1 : S < 18446744073709551616) : 0 ≤ wrap64 (bits .and .u64 (S / 1099511627776) 255) ∧ wrap64 (bits .and .u64 (S / 1099511627776) 255) ≤ 255 := by
  rw [u64_and _ _ (by omega) (by omega) (by omega) (by omega)]
  have h2 : (S / 1099511627776).toNat &&& (255 : Int).toNat ≤ 255 := Nat.and_le_right
  unfold wrap64
  omega
set_option maxHeartbeats 2000000 in
theorem next_any (b : Nat) (A : Option Addr) (n c m : Nat) (w : World) (h : Cur w b A n c m) (hm : m ≤ 1000000) :
    Calls Tryz.prog 62 #[.pointer (some ⟨b, 0, none⟩)] w fun e w' => (∃ x : Int, e = .returned (.int .i64 x) ∧ 0 ≤ x ∧ x ≤ 255) ∧ Cur w' b A n c (m + 1) ∧ Only b (b + 1) w w' := by
  have HC := Lib.hid h
  obtain ⟨⟨k, s, hk, hs0, hs1, hx⟩, hlt, _, hby, hfew⟩ := h
  have HX := Lib.hid hx
  have e0 := hx.1 0 _ rfl
  have e1 := hx.1 1 _ rfl
  have e2 := hx.1 2 _ rfl
  have f1 := hx.2 1
  have f2 := hx.2 2
  have q1 : IntKind.i64.wrap ((k : Int) + 1) = ((k + 1 : Nat) : Int) := by rw [IntKind.wrap_i64]; omega
  clear hx
  by_cases hkn : k < n
  · obtain ⟨a, x, hA, hx0, hx1, hcx⟩ := hby k hkn
    have i1 : (k : Int) < (n : Int) := by omega
    have i2 : (k : Int) + 1 ≤ (n : Int) := by omega
    have q2 : IntKind.i64.wrap x = x := by rw [IntKind.wrap_i64]; omega
    have S0 := u64_range (IntKind.u64.wrap (IntKind.u64.wrap (s * 6364136223846793005) + x) + 909909)
    clear hby
    subst hA
    go_enter Tryz.func62, Tryz.ntmps62
    go_wp2
    go_quiet (fail)
    go_wp2
    go_quiet (fail)
    go_wp2
    obtain ⟨S, hS⟩ : ∃ S, IntKind.u64.wrap (IntKind.u64.wrap (IntKind.u64.wrap (s * 6364136223846793005) + x) + 909909) = S := ⟨_, rfl⟩
    rw [hS] at S0 ⊢
    clear hS
    go_quiet (fail)
    go_wp2
    go_ret
    have ho : Only b (b + 1) w ((w.setCell ⟨b, 1, none⟩ (.int .i64 ((k : Int) + 1))).setCell ⟨b, 2, none⟩ (.int .u64 S)) := (Only.refl'.set_ (p := ⟨b, 1, none⟩) (Nat.le_refl _) (Nat.lt_succ_self _) _).set_ (p := ⟨b, 2, none⟩) (Nat.le_refl _) (Nat.lt_succ_self _) _
    have hx2 : BoxF ((w.setCell ⟨b, 1, none⟩ (.int .i64 ((k : Int) + 1))).setCell ⟨b, 2, none⟩ (.int .u64 S)) b [.slice (some a) n c, .int .i64 ((k + 1 : Nat) : Int), .int .u64 S] := (HX.out.set (k := 1) (by simp) _).set (k := 2) (by simp) _
    exact ⟨⟨x, rfl, hx0, hx1⟩, HC.out.read (show k + 1 ≤ m + 1 by omega) S0.1 S0.2 (hx2.blk rfl) ⟨ho.os, ho.tape, ho.output, ho.size, ho.block⟩, ⟨ho.os, ho.tape, ho.output, ho.size, ho.block⟩⟩
  · have i1 : ¬ (k : Int) < (n : Int) := by omega
    have i2 : ¬ (k : Int) + 1 ≤ (n : Int) := by omega
    clear hby
    go_enter Tryz.func62, Tryz.ntmps62
    go_wp2
    go_quiet (fail)
    go_wp2
    go_quiet (fail)
    go_wp2
    have S0 := u64_range (IntKind.u64.wrap (IntKind.u64.wrap (s * 6364136223846793005)) + 909909)
    obtain ⟨S, hS⟩ : ∃ S, IntKind.u64.wrap (IntKind.u64.wrap (IntKind.u64.wrap (s * 6364136223846793005)) + 909909) = S := ⟨_, rfl⟩
    rw [hS] at S0 ⊢
    clear hS
    go_ret
    have ho : Only b (b + 1) w ((w.setCell ⟨b, 1, none⟩ (.int .i64 ((k : Int) + 1))).setCell ⟨b, 2, none⟩ (.int .u64 S)) := (Only.refl'.set_ (p := ⟨b, 1, none⟩) (Nat.le_refl _) (Nat.lt_succ_self _) _).set_ (p := ⟨b, 2, none⟩) (Nat.le_refl _) (Nat.lt_succ_self _) _
    have hx2 : BoxF ((w.setCell ⟨b, 1, none⟩ (.int .i64 ((k : Int) + 1))).setCell ⟨b, 2, none⟩ (.int .u64 S)) b [.slice A n c, .int .i64 ((k + 1 : Nat) : Int), .int .u64 S] := (HX.out.set (k := 1) (by simp) _).set (k := 2) (by simp) _
    exact ⟨⟨_, rfl, (low_byte S0.1 S0.2).1, (low_byte S0.1 S0.2).2⟩, HC.out.read (show k + 1 ≤ m + 1 by omega) S0.1 S0.2 (hx2.blk rfl) ⟨ho.os, ho.tape, ho.output, ho.size, ho.block⟩, ⟨ho.os, ho.tape, ho.output, ho.size, ho.block⟩⟩
/-- A number from 0 to k - 1. -/
theorem pick_any (k : Nat) (hk1 : 2 ≤ k) (hk : k ≤ 200) (b : Nat) (A : Option Addr) (n c m : Nat) (w : World) (h : Cur w b A n c m) (hm : m ≤ 1000000) :
    Calls Tryz.prog 40 #[.pointer (some ⟨b, 0, none⟩), .int .i64 k] w fun e w' => (∃ x : Nat, e = .returned (.int .i64 x) ∧ x < k) ∧ Cur w' b A n c (m + 1) ∧ Only b (b + 1) w w' := by
  have H := Lib.hid h
  have i1 : ¬ (k : Int) ≤ 1 := by omega
  have i2 : ¬ (200 : Int) < (k : Int) := by omega
  have i3 : ¬ (k : Int) = 0 := by omega
  clear h
  go_enter Tryz.func40, Tryz.ntmps40
  go_wp2_with (go_at_call 62; refine (next_any b A n c m _ H.out hm).mono ?_; rintro e w1 ⟨⟨x, rfl, hx0, hx1⟩, hc, ho⟩; have HC := Lib.hid hc; have HO := Lib.hid ho; clear hc ho)
  go_ret
  have hr : x % (k : Int) = ((x % (k : Int)).toNat : Int) := by have := Int.emod_nonneg x (show (k : Int) ≠ 0 by omega); omega
  have hl : (x % (k : Int)).toNat < k := by have := Int.emod_lt_of_pos x (show (0 : Int) < (k : Int) by omega); omega
  exact ⟨⟨(x % (k : Int)).toNat, by rw [← hr]; first | rfl | (simp; done), hl⟩, HC.out, HO.out⟩
theorem among_any (xs : List Int) (L : Option Addr) (lc : Nat) (h2 : 2 ≤ xs.length) (h200 : xs.length ≤ 200) (b : Nat) (A : Option Addr) (n c m : Nat) (w : World) (h : Cur w b A n c m) (hm : m ≤ 1000000) (hL : Cells w L (IntK.row xs)) (hoff : ∀ a, L = some a → a.block ≠ b) :
    Calls Tryz.prog 61 #[.pointer (some ⟨b, 0, none⟩), .slice L xs.length lc] w fun e w' => (∃ x : Int, e = .returned (.int .i64 x) ∧ x ∈ xs) ∧ Cur w' b A n c (m + 1) ∧ Only b (b + 1) w w' := by
  have H := Lib.hid h
  have HL := Lib.hid hL
  have HF := Lib.hid hoff
  clear h hL hoff
  go_enter Tryz.func61, Tryz.ntmps61
  go_wp2_with fail
  refine (pick_any xs.length h2 h200 b A n c m _ H.out hm).mono ?_
  rintro e w1 ⟨⟨j, rfl, hj⟩, hc, ho⟩
  have HC := Lib.hid hc
  have HO := Lib.hid ho
  obtain ⟨a, hLa, hcj⟩ := int_at (HL.out.block2 (w' := w1) (fun a ha hl => ho.block _ hl (by have := HF.out a ha; omega))) hj
  have HM := Lib.hid (List.getElem_mem hj)
  obtain ⟨x, hx⟩ : ∃ x, xs[j] = x := ⟨_, rfl⟩
  rw [hx] at hcj HM
  have i1 : (j : Int) < (xs.length : Int) := by omega
  subst hLa
  clear hc ho hx
  go_wp2
  go_ret
  exact ⟨⟨x, rfl, HM.out⟩, HC.out, HO.out⟩
end Go.Proofs.YtnnphhhjkhoglaaGreatDoor
