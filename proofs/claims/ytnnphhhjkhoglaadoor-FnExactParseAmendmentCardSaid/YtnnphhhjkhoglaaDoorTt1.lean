/- Numerals of numbers, and the texts of tallies, in the program and in the reference. Conditions: the ranges named. -/
import Derived.Test.YtnnphhhjkhoglaaDoorSetc
import Derived.Test.YtnnphhhjkhoglaaDoorSetc2
import Derived.Test.YtnnphhhjkhoglaaDoorNum
import Derived.Test.YtnnphhhjkhoglaaDoorShelf
import Derived.Lib.AppendIntMem
import Derived.BigQuiet
import Derived.Deep.DrawnRows
import Derived.Deep.QuietTactic
namespace Go.Proofs.YtnnphhhjkhoglaaDoor
open Go.RowKit
set_option linter.unusedVariables false
set_option linter.unusedSimpArgs false
attribute [local go_sem ↓] Go.wp_at_zero Go.wp_at_succ
/-- The numeral of a number. -/
def dec (i : Nat) : ByteArray := ⟨(Go.Lib.decDigits i).toArray⟩
def dgtB (r : Nat) : ByteArray := ⟨#[UInt8.ofNat (48 + r)]⟩
theorem dec_low {i : Nat} (h : i < 10) : dec i = dgtB i := by unfold dec dgtB; rw [Go.Lib.decDigits, dif_pos h]
theorem dec_high {i : Nat} (h : 10 ≤ i) : dec i = dec (i / 10) ++ dgtB (i % 10) := by
  unfold dec dgtB
  conv => lhs; rw [Go.Lib.decDigits, dif_neg (by omega)]
  rw [ByteArray.mk_append_mk]
theorem dec_size : ∀ {i : Nat}, (dec i).size ≤ i + 1 := by
  intro i
  induction i using Nat.strongRecOn with
  | _ i ih =>
    rcases Nat.lt_or_ge i 10 with h | h
    · rw [dec_low h]; show 1 ≤ i + 1; omega
    · rw [dec_high h, ByteArray.size_append]
      have h1 := ih (i / 10) (by omega)
      have h2 : (dgtB (i % 10)).size = 1 := rfl
      omega
theorem dig_at {r : Nat} (h : r < 10) : (⟨#[48, 49, 50, 51, 52, 53, 54, 55, 56, 57]⟩ : ByteArray).extract r (r + 1) = dgtB r := by
  have h1 : r = 0 ∨ r = 1 ∨ r = 2 ∨ r = 3 ∨ r = 4 ∨ r = 5 ∨ r = 6 ∨ r = 7 ∨ r = 8 ∨ r = 9 := by omega
  rcases h1 with rfl | rfl | rfl | rfl | rfl | rfl | rfl | rfl | rfl | rfl <;> rfl
theorem drew_moreT {w wr : World} {n : Nat} (h : wr = w.drewN n) (m : Nat) : ∃ k, wr.drewN m = w.drewN k := by subst h; exact ⟨n + m, World.drewN_drewN _ _ _⟩
set_option maxHeartbeats 1000000 in
theorem l1Num_all : ∀ (i : Nat) (w : World), i ≤ 1000000 → Calls Tryd.prog 33 #[.int .i64 i] w fun e w' => e = .returned (.string (dec i)) ∧ ∃ m, w' = w.drewN m := by
  intro i
  induction i using Nat.strongRecOn with
  | _ i ih =>
  intro w hi
  have IH := Lib.hid ih
  clear ih
  have i0 : ¬ (i : Int) < 0 := by omega
  rcases Nat.lt_or_ge i 10 with h | h
  · have HD := Lib.hid ((dec_low h).trans (dig_at h).symm)
    have i1 : (i : Int) < 10 := by omega
    have q1 : IntKind.i64.wrap ((i : Int) + 1) = (i : Int) + 1 := by rw [IntKind.wrap_i64]; omega
    have i2 : (i : Int) + 1 ≤ 10 := by omega
    have i3 : (0 : Int) ≤ (i : Int) + 1 := by omega
    have i4 : ((i : Int) + 1).toNat = i + 1 := by omega
    go_enter Tryd.func33, Tryd.ntmps33
    go_wp2
    go_ret
    exact ⟨by rw [HD.out]; first | rfl | (simp; done), 0, rfl⟩
  · have HD := Lib.hid ((dec_high h).trans (congrArg (dec (i / 10) ++ ·) (dig_at (show i % 10 < 10 by omega)).symm))
    have i1 : ¬ (i : Int) < 10 := by omega
    have HN := Lib.hid (fun w => IH.out (i / 10) (by omega) w (by omega))
    have e1 : (i : Int) / 10 = ((i / 10 : Nat) : Int) := by omega
    have e2 : (i : Int) % 10 = ((i % 10 : Nat) : Int) := by omega
    have hsz := dec_size (i := i / 10)
    obtain ⟨j, hj⟩ : ∃ j, Hid (i / 10 = j) := ⟨_, Lib.hid rfl⟩
    obtain ⟨r, hr⟩ : ∃ r, Hid (i % 10 = r) := ⟨_, Lib.hid rfl⟩
    have hr10 : r < 10 := by have := hr.out; omega
    rw [hj.out] at HD HN e1 hsz
    rw [hr.out] at HD e2
    have hj2 : j ≤ 100000 := by have := hj.out; omega
    have q1 : IntKind.i64.wrap ((r : Int) + 1) = (r : Int) + 1 := by rw [IntKind.wrap_i64]; omega
    have i2 : (r : Int) + 1 ≤ 10 := by omega
    have i3 : (0 : Int) ≤ (r : Int) + 1 := by omega
    have i4 : ((r : Int) + 1).toNat = r + 1 := by omega
    have i5 : (r : Int) ≤ 10 := by omega
    have y1 : ¬ 9223372036854775807 < (dec j).size + ((⟨#[48, 49, 50, 51, 52, 53, 54, 55, 56, 57]⟩ : ByteArray).extract r (r + 1)).size := by rw [dig_at hr10]; show ¬ 9223372036854775807 < (dec j).size + 1; omega
    have q6 : IntKind.i64.wrap (j : Int) = (j : Int) := by rw [IntKind.wrap_i64]; omega
    clear hsz
    go_enter Tryd.func33, Tryd.ntmps33
    go_wp2
    go_quiet ((go_at_call 33; exact Go.Calls.quiet_of (HN.out _)))
    go_wp2
    go_ret
    exact ⟨by rw [HD.out]; first | rfl | (simp; done), _, rfl⟩
theorem take_yes {P : Program} {md : Region.Mode} {ops : Array Oper} {Q : Exit → Act → World → Prop} {S : World → Prop} {i d : Nat} {oi : Oper} {v : Value} {fuel : Nat} {listed : Array Bool} {a : Act} {w : World} (hi : ops[i]? = some oi) (hd : oi.dst = some d)
    (hs : Region.noSelect ops = true) (hf : Region.free md ops listed i = true) (hr : (Region.ready md ops listed).contains i = true) (hQ : ∀ c a w, Q (.panic c) (a.put (some d) v) w → Q (.panic c) a w) (hw : Region.wanted oi (yielded ops a.tmps) = true)
    (hy : ∀ w, S w → (execOp a.eval oi).run P w = .ok (.value v) w) (hS : S w) (h : wpAnyH P md ops Q S fuel (listed.setIfInBounds i true) (a.put (some d) v) w) : wpAnyH P md ops Q S (fuel + 1) listed a w :=
  wpAnyH_take hi hs hf hr (by rw [hd]; exact hQ) (Or.inl ⟨hw, hy⟩) hS (by rw [hd]; exact h)
theorem take_no {P : Program} {md : Region.Mode} {ops : Array Oper} {Q : Exit → Act → World → Prop} {S : World → Prop} {i d : Nat} {oi : Oper} {fuel : Nat} {listed : Array Bool} {a : Act} {w : World} (hi : ops[i]? = some oi) (hd : oi.dst = some d)
    (hs : Region.noSelect ops = true) (hf : Region.free md ops listed i = true) (hr : (Region.ready md ops listed).contains i = true) (hQ : ∀ c a w, Q (.panic c) (a.put (some d) undef) w → Q (.panic c) a w) (hw : Region.wanted oi (yielded ops a.tmps) = false)
    (hS : S w) (h : wpAnyH P md ops Q S fuel (listed.setIfInBounds i true) (a.put (some d) undef) w) : wpAnyH P md ops Q S (fuel + 1) listed a w :=
  wpAnyH_take hi hs hf hr (by rw [hd]; exact hQ) (Or.inr ⟨hw, rfl⟩) hS (by rw [hd]; exact h)
/-- The table of powers of ten is where the library reads it. -/
def Tab (w : World) : Prop := Go.Lib.TabBelow Tryd.prog w.heap.size w "internal/strconv.uint64pow10" .u64 Go.Lib.pow10Tab
theorem Tab.below {w w' : World} (h : Tab w) (hb : Below w.heap.size w w') : Tab w' := fun w2 h2 => h w2 (hb.trans (h2.mono hb.size))
theorem Tab.here {w : World} (h : Tab w) : Go.Lib.TabIs Tryd.prog w "internal/strconv.uint64pow10" .u64 Go.Lib.pow10Tab := h w (Below.refl _ _)
theorem grow_below (w : World) (os : Array Obj) : Below w.heap.size w (Go.Sort.grow w os) := ⟨rfl, rfl, rfl, by simp [Go.Sort.grow], fun k hk => by simp only [Go.Sort.grow]; rw [Array.getElem?_append_left hk]⟩
theorem itoa_any (i : Nat) (hi : i ≤ 100000) (w : World) (h : Tab w) : Calls Tryd.prog 28 #[.int .i64 i] w fun e w' => e = .returned (.string (dec i)) ∧ Below w.heap.size w w' := by
  refine (Tryd.strconv_Itoa (i : Int) (by omega) (by omega) w h.here).mono ?_
  rintro e w' ⟨rfl, k, os, rfl⟩
  refine ⟨by rw [Go.Lib.itoa_nonneg]; rfl, ?_⟩
  exact (below_drewN (Below.refl _ _) k).trans (grow_below (w.drewN k) os)
end Go.Proofs.YtnnphhhjkhoglaaDoor
