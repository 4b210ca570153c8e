/- InverseAmendment, in the program and in the reference: the same amendment. Conditions: the ranges named. -/
import Derived.Test.YtnnphhhjkhoglaaGreatDoorInv2
import Derived.Test.YtnnphhhjkhoglaaGreatDoorOb3
namespace Go.Proofs.YtnnphhhjkhoglaaGreatDoor
open Go.RowKit
set_option linter.unusedVariables false
/-- A call that returns an amendment of its own and whether it could. -/
def MadeAB (w : World) (a : Amd) (ok : Bool) (e : Ending) (w' : World) : Prop := ∃ (A : Option Addr) (c : Nat), e = .returned (.tuple #[.agg #[.int .i64 a.k, .int .i64 a.p, .int .i64 a.n, .slice A a.ws.length c], .bool ok]) ∧ w'.ownsRow w.heap.size 9 1 (.slice A a.ws.length c) a.ws.length (strs a.ws) ∧ Below w.heap.size w w'
/-- The same, in the words of objects. -/
def ToAB (w : World) (a : Amd) (ok : Bool) (e : Ending) (w' : World) : Prop := ∃ (A : Option Addr) (c : Nat), e = .returned (.tuple #[.agg #[.int .i64 a.k, .int .i64 a.p, .int .i64 a.n, .slice A a.ws.length c], .bool ok]) ∧ OwS w.heap.size w'.heap.size w' A c a.ws ∧ Below w.heap.size w w'
theorem MadeAB.obj {w w' : World} {a : Amd} {ok : Bool} {e : Ending} (h : MadeAB w a ok e w') (hf : Fit a.ws) : ToAB w a ok e w' := by
  obtain ⟨A, c, he, own, hb⟩ := h
  exact ⟨A, c, he, OwS.mk own hf, hb⟩
/-- No amendment. -/
def noA : Amd := ⟨0, 0, 0, []⟩
theorem madeAB_no {w w' : World} {a : Amd} {ok : Bool} (ha : a = noA) (hok : ok = false) (hb : Below w.heap.size w w') : MadeAB w a ok (.returned (.tuple #[.agg #[.int .i64 0, .int .i64 0, .int .i64 0, .slice none 0 0], .bool false])) w' := by
  subst ha hok
  exact ⟨none, 0, rfl, World.ownsRow_nil _ _ _ _, hb⟩
/-- The amendment that InverseAmendment returns. -/
def invR (ss : List ByteArray) (a : Amd) : Amd := if canB ss a then invA ss a else noA
theorem invK_eq {ss : List ByteArray} {a : Amd} (h : canB ss a = true) : (⟨invK a.k, a.p, a.ws.length, cutW ss a.p a.n⟩ : Amd) = invA ss a := by
  unfold canB at h
  rw [Bool.and_eq_true, Bool.and_eq_true] at h
  have hfit := fitsB_le h.2
  obtain ⟨hp0, hp1, hn0, hn1, hw1, hk, _⟩ := vldA_range h.1.2
  obtain ⟨k, p, n, ws⟩ := a
  simp only at *
  obtain ⟨p, rfl⟩ := Int.eq_ofNat_of_zero_le hp0
  obtain ⟨n, rfl⟩ := Int.eq_ofNat_of_zero_le hn0
  have hl : (cutW ss p n).length = n := cutW_len (by omega)
  have hkk : invK k = kindI ws.length (cutW ss p n) := by
    unfold invK kindI
    rw [hl]
    rcases hk with ⟨rfl, h1, h2⟩ | ⟨rfl, h1, h2⟩ | ⟨rfl, h1, h2⟩
    · rw [if_pos rfl, if_neg (by omega), if_pos (by omega)]
    · rw [if_neg (by omega), if_pos rfl, if_pos (by omega)]
    · rw [if_neg (by omega), if_neg (by omega), if_neg (by omega), if_neg (by omega)]
  unfold invA
  rw [hkk]
theorem Fit.cut {ss : List ByteArray} (h : Fit ss) (p n : Int) : Fit (cutW ss p n) := by
  unfold cutW
  refine ⟨by rw [List.length_take]; exact Nat.le_trans (Nat.min_le_right _ _) (Nat.le_trans (by simp) h.1), fun s hs => h.2 s (List.mem_of_mem_drop (List.mem_of_mem_take hs))⟩
theorem Fit.inv {ss : List ByteArray} {a : Amd} (h : Fit ss) : Fit (invR ss a).ws := by
  unfold invR
  split
  · exact h.cut _ _
  · exact ⟨by simp [noA], fun s hs => by simp [noA] at hs⟩
section
variable {B B' : Nat} {w : World} {T A : Option Addr} {t c : Nat} {ss : List ByteArray} {a : Amd}
end
end Go.Proofs.YtnnphhhjkhoglaaGreatDoor
