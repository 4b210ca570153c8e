/- A text cut at a byte, in the reference. Conditions: the ranges named. -/
import Derived.Test.YtnnphhhjkhoglaaDoorTt1
import Derived.Test.YtnnphhhjkhoglaaDoorStrs
import Derived.Test.YtnnphhhjkhoglaaDoorApc
import Derived.Test.YtnnphhhjkhoglaaDoorPt1
namespace Go.Proofs.YtnnphhhjkhoglaaDoor
open Go.RowKit
set_option linter.unusedVariables false
set_option linter.unusedSimpArgs false
theorem elS : ElT Tryd.prog 22 9 1 16 := ElT.mk' Tryd.underlying22 infoStr rfl (by omega) (by omega)
theorem oneS {xs : List ByteArray} : ∀ u ∈ StrK.row xs, u.oneCell' = true := fun u hu => by
  rw [strK_row] at hu
  obtain ⟨s, _, rfl⟩ := List.mem_map.1 hu
  rfl
theorem cellS1 (w : World) (v : Value) (t : TypeId) (g : Nat) (hg : g = w.heap.size) : Cells (w.alloc (.cells #[v] t)) (some ⟨g, 0, none⟩) [v] := fun i u hi => by
  subst hg
  cases i with
  | zero =>
    simp only [List.getElem?_cons_zero, Option.some.injEq] at hi
    subst hi
    exact ⟨_, rfl, World.cell?_alloc_new w #[v] t 0⟩
  | succ i => simp at hi
def bar (l : List UInt8) : ByteArray := ⟨l.toArray⟩
/-- The pieces of a text. -/
def pcs (c : UInt8) (s : ByteArray) : List ByteArray := (spl c s.data.toList).map bar
def sub (l : List UInt8) (f i : Nat) : List UInt8 := (l.drop f).take (i - f)
theorem sub_bar (s : ByteArray) (f i : Nat) : s.extract f i = bar (sub s.data.toList f i) := by
  unfold bar sub
  apply ByteArray.ext
  rw [ByteArray.data_extract]
  apply Array.ext'
  simp
theorem sub_self (l : List UInt8) (i : Nat) : sub l i i = [] := by unfold sub; simp
theorem sub_step {l : List UInt8} {f i : Nat} (h : f ≤ i) (hi : i < l.length) : sub l f (i + 1) = sub l f i ++ [l[i]] := by
  unfold sub
  rw [show i + 1 - f = (i - f) + 1 by omega, List.take_add_one, List.getElem?_drop, show f + (i - f) = i by omega, List.getElem?_eq_getElem hi]
  rfl
theorem cut_hit {c : UInt8} {l : List UInt8} {ws : List (List UInt8)} {f i : Nat} (hi : i < l.length) (he : l[i] = c) (h : spl c l = ws ++ spF c (sub l f i) (l.drop i)) : spl c l = (ws ++ [sub l f i]) ++ spF c (sub l (i + 1) (i + 1)) (l.drop (i + 1)) := by
  rw [h, List.drop_eq_getElem_cons hi, spF, if_pos he, sub_self, List.append_assoc]
  rfl
theorem cut_miss {c : UInt8} {l : List UInt8} {ws : List (List UInt8)} {f i : Nat} (hf : f ≤ i) (hi : i < l.length) (he : l[i] ≠ c) (h : spl c l = ws ++ spF c (sub l f i) (l.drop i)) : spl c l = ws ++ spF c (sub l f (i + 1)) (l.drop (i + 1)) := by
  rw [h, List.drop_eq_getElem_cons hi, spF, if_neg he, sub_step hf hi]
theorem cut_end {c : UInt8} {l : List UInt8} {ws : List (List UInt8)} {f : Nat} (h : spl c l = ws ++ spF c (sub l f l.length) (l.drop l.length)) : spl c l = ws ++ [sub l f l.length] := by
  rw [h, List.drop_length]
  rfl
theorem spl_len (c : UInt8) : ∀ (l cur : List UInt8), (spF c cur l).length ≤ l.length + 1
  | [], cur => by simp [spF]
  | b :: t, cur => by
    rw [spF]
    split
    · have := spl_len c t []; simp; omega
    · have := spl_len c t (cur ++ [b]); simp; omega
/-- The pieces, as a call hands them back. -/
def Pcs (w : World) (ps : List ByteArray) : Ending → World → Prop := fun e w' => ∃ (O : Option Addr) (oc : Nat), e = .returned (.slice O ps.length oc) ∧ w'.ownsRow w.heap.size 9 1 (.slice O ps.length oc) ps.length (StrK.row ps) ∧ Below w.heap.size w w'
set_option maxHeartbeats 2000000 in
theorem l1Split_any (s : ByteArray) (c : UInt8) (w : World) (hs : s.size ≤ 1048576) : Calls Tryd.prog 19 #[.string s, .int .u8 c.toNat] w (Pcs w (pcs c s)) := by
  have hl : s.data.toList.length = s.size := Array.length_toList
  go_enter Tryd.func19, Tryd.ntmps19
  go_wp2
  go_loopw [5, 6, 7] (fun u f i wr => ∃ (k n : Nat) (ws : List (List UInt8)), n ≤ k ∧ k ≤ s.size ∧ ws.length ≤ k ∧ i = .int .i64 k ∧ f = .int .i64 n ∧ Hid (spl c s.data.toList = ws ++ spF c (sub s.data.toList n k) (s.data.toList.drop k)) ∧ ∃ (O : Option Addr) (oc : Nat), u = .slice O ws.length oc ∧ Hid (wr.ownsRow w.heap.size 9 1 (.slice O ws.length oc) ws.length (StrK.row (ws.map bar))) ∧ Below w.heap.size w wr) (fun _ _ i _ => s.size - (intOf i).toNat)
  case atStart => exact ⟨0, 0, [], Nat.le_refl _, Nat.zero_le _, Nat.zero_le _, rfl, rfl, rfl, _, _, rfl, own_nil_lit _ _ _ _ _ (by simp) (Nat.le_refl _), ((Below.refl _ _).alloc (Nat.le_refl _) _)⟩
  case round =>
    obtain ⟨k, n, ws, hnk, hk, hwk, rfl, rfl, hq, O, oc, rfl, HO, hB⟩ := hrel
    have HBr := Lib.hid hB
    clear hB
    have j1 : (n : Int) ≤ (k : Int) := by omega
    by_cases hlt : k < s.size
    · have i1 : (k : Int) < (s.size : Int) := by omega
      have i2 : (k : Int) ≤ (s.size : Int) := by omega
      obtain ⟨b, hb⟩ : ∃ b, Hid (s[k] = b) := ⟨_, Lib.hid rfl⟩
      have hlk : s.data.toList[k]'(by omega) = b := hb.out
      by_cases hc : b = c
      · subst hc
        have HS := Lib.hid (cut_hit (by omega) hlk hq.out)
        have hbb := hb.out
        have HX := Lib.hid (sub_bar s n k)
        clear hlk hq
        go_wp2_with (at_builtin; go_must (refine list_append elS _ rfl _ _ rfl w.heap.size O _ oc ws.length 1 1 (StrK.row (ws.map bar)) (StrK.row [bar (sub s.data.toList n k)]) rfl rfl rfl (own_keep HO.out ((Below.refl _ _).alloc (Nat.le_refl _) _)) ?_ oneS (by have := HBr.out.size; simp; omega) (by omega) ?_); rw [← HX.out]; exact cellS1 _ _ _ _ (by simp); intro O2 oc2 w4 own hb; have HO4 := Lib.hid own; have HB4 := Lib.hid (HBr.out.trans ((((Below.refl _ _).alloc (Nat.le_refl _) _).mono HBr.out.size).trans hb)); clear own hb)
        go_roundw
        case rel => exact ⟨k + 1, k + 1, ws ++ [sub s.data.toList n k], Nat.le_refl _, by omega, by simp; omega, by go_num, by go_num, HS.out, O2, oc2, by simp, Lib.hid (by simpa [StrK.row_append] using HO4.out), HB4.out⟩
        case measure => simp [intOf]; omega
      · have HS := Lib.hid (cut_miss hnk (by omega) (by rw [hlk]; exact hc) hq.out)
        have hbb := hb.out
        have hne : ((b.toNat : Int) == (c.toNat : Int)) = false := by
          rw [beq_eq_false_iff_ne]
          intro h
          exact hc (UInt8.toNat_inj.1 (by omega))
        have hne2 : ¬ ((b.toNat : Int) = (c.toNat : Int)) := by simpa using hne
        clear hlk hq hc
        go_wp2
        go_roundw
        case rel => exact ⟨k + 1, n, ws, by omega, by omega, by omega, by go_num, rfl, HS.out, O, oc, rfl, HO, HBr.out⟩
        case measure => simp [intOf]; omega
    · obtain rfl : k = s.size := by omega
      have HS := Lib.hid (cut_end (by rw [hl]; exact hq.out))
      have HX := Lib.hid (sub_bar s n s.size)
      rw [hl] at HS
      clear hq
      go_wp2_with (at_builtin; go_must (refine list_append elS _ rfl _ _ rfl w.heap.size O _ oc ws.length 1 1 (StrK.row (ws.map bar)) (StrK.row [bar (sub s.data.toList n s.size)]) rfl rfl rfl (own_keep HO.out ((Below.refl _ _).alloc (Nat.le_refl _) _)) ?_ oneS (by have := HBr.out.size; simp; omega) (by omega) ?_); rw [← HX.out]; exact cellS1 _ _ _ _ (by simp); intro O2 oc2 w4 own hb; have HO4 := Lib.hid own; have HB4 := Lib.hid (HBr.out.trans ((((Below.refl _ _).alloc (Nat.le_refl _) _).mono HBr.out.size).trans hb)); clear own hb)
      have HE : Hid (pcs c s = ws.map bar ++ [bar (sub s.data.toList n s.size)]) := Lib.hid (by unfold pcs; rw [HS.out]; simp)
      go_ret
      refine ⟨O2, oc2, ?_, ?_, HB4.out⟩
      · rw [HE.out]; simp
      · rw [HE.out]; simpa [StrK.row_append] using HO4.out
end Go.Proofs.YtnnphhhjkhoglaaDoor
