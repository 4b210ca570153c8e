/- UndoAmendments in the reference. Conditions: the ranges named. -/
import Derived.Test.YtnnphhhjkhoglaaGreatDoorCu1
import Derived.Test.YtnnphhhjkhoglaaGreatDoorInv
import Derived.Test.YtnnphhhjkhoglaaGreatDoorAgr
import Derived.Test.YtnnphhhjkhoglaaGreatDoorDo
import Derived.Deep.Cut
import Derived.Deep.DeepCutAuto
import Derived.Test.YtnnphhhjkhoglaaGreatDoorDk4L
import Derived.Test.YtnnphhhjkhoglaaGreatDoorOb3
import Derived.Test.YtnnphhhjkhoglaaGreatDoorSetc2
import Derived.Deep.MidRow
import Derived.Test.YtnnphhhjkhoglaaGreatDoorRb5
import Derived.Test.YtnnphhhjkhoglaaGreatDoorInv2
namespace Go.Proofs.YtnnphhhjkhoglaaGreatDoor
open Go.RowKit
set_option linter.unusedVariables false
set_option linter.unusedSimpArgs false
theorem Cur.belowB {w0 w w' : World} {b B : Nat} {A : Option Addr} {n c m : Nat} (h0 : BytesC w0 A n) (h : Cur w b A n c m) (hb : Below B w w') (hB : w0.heap.size ≤ B) (hlt : b < B) : Cur w' b A n c m := by
  obtain ⟨⟨k, s, h1, h2, h2', hx⟩, h3, h4, h5, h6⟩ := h
  refine ⟨⟨k, s, h1, h2, h2', hx.blk (hb.block b hlt)⟩, Nat.lt_of_lt_of_le h3 hb.size, h4, ?_, h6⟩
  rcases Nat.eq_zero_or_pos n with e | e
  · subst e; exact fun i hi => absurd hi (by omega)
  · refine h5.block fun a ha hl => hb.block _ ?_
    obtain ⟨a', x, hA, _, _, hc⟩ := h0 0 e
    rw [ha] at hA
    obtain rfl := Option.some.inj hA
    have := World.block_lt_of_cell? _ _ hc
    rw [block_add] at this
    omega
theorem Only.of_belowB {lo hi B : Nat} {w0 w w' : World} (h : Only lo hi w0 w) (hb : Below B w w') (hB : w0.heap.size ≤ B) : Only lo hi w0 w' :=
  ⟨hb.os.trans h.os, hb.tape.trans h.tape, hb.output.trans h.output, Nat.le_trans h.size hb.size, fun k hk ho => (hb.block k (Nat.lt_of_lt_of_le hk hB)).trans (h.block k hk ho)⟩
/-- A number from 0 on, below k or 0. -/
theorem pickZ_any (k : Int) (hk : k ≤ 200) (b : Nat) (A : Option Addr) (n c m : Nat) (w : World) (h : Cur w b A n c m) (hm : m ≤ 1000000) :
    Calls Tryz.prog 40 #[.pointer (some ⟨b, 0, none⟩), .int .i64 k] w fun e w' => (∃ x : Nat, e = .returned (.int .i64 x) ∧ (x = 0 ∨ (x : Int) < k)) ∧ Cur w' b A n c (m + 1) ∧ Only b (b + 1) w w' := by
  by_cases h1 : k ≤ 1
  · have HC := Lib.hid (h.mono (Nat.le_succ m))
    clear h
    go_enter Tryz.func40, Tryz.ntmps40
    go_wp2
    go_ret
    exact ⟨⟨0, by first | rfl | simp, .inl rfl⟩, HC.out, Only.refl'⟩
  · obtain ⟨j, rfl⟩ : ∃ j : Nat, k = (j : Int) := ⟨k.toNat, by omega⟩
    exact (pick_any j (by omega) (by omega) b A n c m w h hm).mono fun e w' ⟨⟨x, he, hx⟩, hr⟩ => ⟨⟨x, he, .inr (by omega)⟩, hr⟩
theorem one_any (k : Nat) (hk1 : 2 ≤ k) (hk : k ≤ 200) (b : Nat) (A : Option Addr) (n c m : Nat) (w : World) (h : Cur w b A n c m) (hm : m ≤ 1000000) :
    Calls Tryz.prog 38 #[.pointer (some ⟨b, 0, none⟩), .int .i64 k] w fun e w' => (∃ x : Bool, e = .returned (.bool x)) ∧ Cur w' b A n c (m + 1) ∧ Only b (b + 1) w w' := by
  have H := Lib.hid h
  clear h
  go_enter Tryz.func38, Tryz.ntmps38
  go_wp2_with fail
  refine (pick_any k hk1 hk b A n c m _ H.out hm).mono ?_
  rintro e w1 ⟨⟨x, rfl, hx⟩, hc, ho⟩
  have HC := Lib.hid hc
  have HO := Lib.hid ho
  clear hc ho
  obtain ⟨z, hz⟩ : ∃ z, ((x : Int) == 0) = z := ⟨_, rfl⟩
  go_wp2
  go_ret
  exact ⟨⟨_, rfl⟩, HC.out, HO.out⟩
theorem of_any (xs : List ByteArray) (L : Option Addr) (lc : Nat) (h2 : 2 ≤ xs.length) (h200 : xs.length ≤ 200) (b : Nat) (A : Option Addr) (n c m : Nat) (w : World) (h : Cur w b A n c m) (hm : m ≤ 1000000) (hL : Cells w L (strs xs)) (hoff : ∀ a, L = some a → a.block ≠ b) :
    Calls Tryz.prog 41 #[.pointer (some ⟨b, 0, none⟩), .slice L xs.length lc] w fun e w' => (∃ x : ByteArray, e = .returned (.string x) ∧ x ∈ xs) ∧ Cur w' b A n c (m + 1) ∧ Only b (b + 1) w w' := by
  have H := Lib.hid h
  have HL := Lib.hid hL
  have HF := Lib.hid hoff
  clear h hL hoff
  go_enter Tryz.func41, Tryz.ntmps41
  go_wp2_with fail
  refine (pick_any xs.length h2 h200 b A n c m _ H.out hm).mono ?_
  rintro e w1 ⟨⟨j, rfl, hj⟩, hc, ho⟩
  have HC := Lib.hid hc
  have HO := Lib.hid ho
  obtain ⟨a, hLa, hcj⟩ := (HL.out.block2 (w' := w1) (fun a ha hl => ho.block _ hl (by have := HF.out a ha; omega))) j (.string xs[j]) (strs_get hj)
  have HM := Lib.hid (List.getElem_mem hj)
  obtain ⟨x, hx⟩ : ∃ x, xs[j] = x := ⟨_, rfl⟩
  rw [hx] at hcj HM
  have i1 : (j : Int) < (xs.length : Int) := by omega
  subst hLa
  clear hc ho hx
  go_wp2
  go_ret
  exact ⟨⟨x, rfl, HM.out⟩, HC.out, HO.out⟩
/-- Words of at most 11 bytes. -/
def Short (ss : List ByteArray) : Prop := ∀ s ∈ ss, s.size ≤ 11
theorem Short.snoc {ss : List ByteArray} {s : ByteArray} (h : Short ss) (hs : s.size ≤ 11) : Short (ss ++ [s]) := fun x hx => by
  rcases List.mem_append.1 hx with h1 | h1
  · exact h x h1
  · simp at h1; subst h1; exact hs
theorem Short.fit {ss : List ByteArray} (h : Short ss) (hn : ss.length ≤ 1000) : Fit ss := ⟨by omega, fun s hs => Nat.le_trans (h s hs) (by unfold maxLen; omega)⟩
def wd8 : List ByteArray := [⟨#[116, 104, 101]⟩, ⟨#[102, 101, 101]⟩, ⟨#[105, 115]⟩, ⟨#[116, 101, 110]⟩, ⟨#[115, 104, 97, 108, 108]⟩, ⟨#[110, 111, 116]⟩, ⟨#[98, 101]⟩, ⟨#[112, 97, 105, 100]⟩]
theorem wd8_short : ∀ s ∈ wd8, s.size ≤ 11 := by
  intro s hs
  simp only [wd8, List.mem_cons, List.not_mem_nil, or_false] at hs
  rcases hs with rfl | rfl | rfl | rfl | rfl | rfl | rfl | rfl <;> decide
set_option maxHeartbeats 2000000 in
theorem words_any (k : Nat) (hk1 : 1 ≤ k) (hk : k ≤ 100) (b : Nat) (A : Option Addr) (n c m : Nat) (w : World) (h : Cur w b A n c m) (hm : m ≤ 900000) :
    Calls Tryz.prog 37 #[.pointer (some ⟨b, 0, none⟩), .int .i64 k] w fun e w' => ∃ (O : Option Addr) (d : Nat) (ss : List ByteArray), e = .returned (.slice O ss.length d) ∧ ss.length ≤ k ∧ Short ss ∧ w'.ownsRow w.heap.size 9 1 (.slice O ss.length d) ss.length (strs ss) ∧ Cur w' b A n c (m + 1 + k) ∧ Only b (b + 1) w w' := by
  have HB0 := Lib.hid h.bytes
  have hlt := h.lt
  have HC := Lib.hid (h.below (below1 w (.cells #[] 9)))
  have HO := Lib.hid (own_nil_lit w w.heap.size w.heap.size 9 1 rfl (Nat.le_refl _))
  have HN := Lib.hid (show Only b (b + 1) w (w.alloc (.cells #[] 9)) from Only.of_below (below1 w _))
  have hz : b < (w.alloc (.cells #[] 9)).heap.size := by simp; omega
  clear h
  go_enter Tryz.func37, Tryz.ntmps37
  go_upto_region 2 with fail
  generalize w.alloc (.cells #[] 9) = W at *
  have q1 : IntKind.i64.wrap ((k : Int) + 1) = ((k + 1 : Nat) : Int) := by rw [IntKind.wrap_i64]; omega
  go_wp2_with (go_at_call 40; refine (pick_any (k + 1) (by omega) (by omega) b A n c m W HC.out (by omega)).mono ?_; rintro e w1 ⟨⟨x, rfl, hx⟩, hc, ho⟩; have HC := Lib.hid hc; have HO := Lib.hid (own_off HO.out ho (by omega)); have HN := Lib.hid (HN.out.trans ho); clear hc ho)
  go_loopw [5, 6] (fun u i wr => ∃ (j : Nat) (ss : List ByteArray) (O : Option Addr) (oc : Nat), i = .int .i64 j ∧ u = .slice O ss.length oc ∧ ss.length + j ≤ k ∧ Hid (Short ss) ∧ Hid (wr.ownsRow w.heap.size 9 1 (.slice O ss.length oc) ss.length (strs ss)) ∧ Hid (Cur wr b A n c (m + 1 + ss.length)) ∧ Hid (Only b (b + 1) w wr)) (fun _ i _ => (intOf i).toNat)
  case atStart => exact ⟨x, [], _, _, rfl, rfl, by simp; omega, Lib.hid (fun s hs => by simp at hs), HO, HC, HN⟩
  case round =>
    clear HO HC HN
    obtain ⟨wq, hwq⟩ : ∃ x : World, x = wr := ⟨_, rfl⟩
    subst hwq
    obtain ⟨j, ss, O, oc, rfl, rfl, hjk, HS, HO, HC, HN⟩ := hrel
    have hwz := HN.out.size
    rcases Nat.eq_zero_or_pos j with h0 | h0
    · subst h0
      go_wp2
      go_ret
      exact ⟨O, oc, ss, rfl, by omega, HS.out, HO.out, HC.out.mono (by omega), HN.out⟩
    · have i0 : (0 : Int) < (j : Int) := by omega
      have q2 : IntKind.i64.wrap ((j : Int) - 1) = ((j - 1 : Nat) : Int) := by rw [IntKind.wrap_i64]; omega
      have hb8 := below1 wq (.cells (strs wd8).toArray 9)
      have HL8 := Lib.hid (cells_arr wq (strs wd8).toArray 9 wq.heap.size rfl)
      have HC8 := Lib.hid (HC.out.below hb8)
      have HO8 := Lib.hid (own_keep HO.out hb8)
      have HN8 := Lib.hid (HN.out.trans (Only.of_below hb8))
      have hne : wq.heap.size ≠ b := by omega
      clear HO HC HN hb8
      go_wp2_with fail
      refine (of_any wd8 (some ⟨wq.heap.size, 0, none⟩) 8 (by decide) (by decide) b A n c (m + 1 + ss.length) (wq.alloc (.cells (strs wd8).toArray 9)) HC8.out (by omega) HL8.out (fun a ha => by obtain rfl := Option.some.inj ha; exact hne)).mono ?_
      rintro e w2 ⟨⟨s, rfl, hs⟩, hc, ho⟩
      have HSS := Lib.hid (wd8_short s hs)
      have HC2 := Lib.hid hc
      have HO2 := Lib.hid (own_off HO8.out ho (by omega))
      have HN2 := Lib.hid (HN8.out.trans ho)
      have hz2 := HN2.out.size
      clear hc ho hs HC8 HO8 HN8
      go_wp2_with (at_builtin; go_must (refine list_append_gr elStr _ rfl _ _ rfl w.heap.size O _ oc ss.length 1 1 (strs ss) (strs [s]) rfl rfl rfl (own_alloc HO2.out _) (cells_arr _ #[.string s] _ _ rfl) strs_one (by simp; omega) (by omega) ?_); intro O3 d3 w3 own hb hg; have HO3 := Lib.hid own; have HB3 := Lib.hid (((below1 w2 (.cells #[.string s] 9)).mono hz2).trans hb); clear own hb hg)
      go_roundw
      case rel => exact ⟨j - 1, ss ++ [s], O3, d3, by go_num, by simp, by simp; omega, Lib.hid (HS.out.snoc HSS.out), by rw [List.length_append, List.length_singleton, strs_append]; exact HO3, Lib.hid ((HC2.out.belowB HB0.out HB3.out (Nat.le_refl _) hlt).mono (by simp; omega)), Lib.hid (HN2.out.of_belowB HB3.out (Nat.le_refl _))⟩
      case measure => (first | (simp [intOf]; done) | (simp [intOf]; omega))
end Go.Proofs.YtnnphhhjkhoglaaGreatDoor
namespace Go.Proofs.YtnnphhhjkhoglaaGreatDoor
open Go.RowKit
set_option linter.unusedVariables false
set_option linter.unusedSimpArgs false
def wdOdd : List ByteArray := [⟨#[]⟩, ⟨#[65]⟩, ⟨#[97, 98, 99, 100, 101, 102, 103, 104, 105, 106]⟩, ⟨#[97, 98, 99, 100, 101, 102, 103, 104, 105, 106, 107]⟩]
theorem wdOdd_short : ∀ s ∈ wdOdd, s.size ≤ 11 := by
  intro s hs
  simp only [wdOdd, List.mem_cons, List.not_mem_nil, or_false] at hs
  rcases hs with rfl | rfl | rfl | rfl <;> decide
def wdW : ByteArray := ⟨#[119]⟩
set_option maxHeartbeats 2000000 in
theorem text_any (b : Nat) (A : Option Addr) (n c m : Nat) (w : World) (h : Cur w b A n c m) (hm : m ≤ 800000) :
    Calls Tryz.prog 17 #[.pointer (some ⟨b, 0, none⟩)] w fun e w' => ∃ (O : Option Addr) (d : Nat) (ss : List ByteArray), e = .returned (.slice O ss.length d) ∧ ss.length ≤ 40 ∧ Short ss ∧ w'.ownsRow w.heap.size 9 1 (.slice O ss.length d) ss.length (strs ss) ∧ Cur w' b A n c (m + 60) ∧ Only b (b + 1) w w' := by
  have HB0 := Lib.hid h.bytes
  have hlt := h.lt
  go_enter Tryz.func17, Tryz.ntmps17
  go_wp2_with fail
  refine (words_any 10 (by omega) (by omega) b A n c m w h (by omega)).mono ?_
  rintro e w1 ⟨O, d, ss, rfl, hl, hs, own, hc, ho⟩
  have HS := Lib.hid hs
  have HO := Lib.hid own
  have HC := Lib.hid hc
  have HN := Lib.hid ho
  clear h hs own hc ho
  go_wp2_with fail
  refine (pick_any 24 (by omega) (by omega) b A n c _ w1 HC.out (by omega)).mono ?_
  rintro e w2 ⟨⟨x, rfl, hx⟩, hc, ho⟩
  have HO := Lib.hid (own_off HO.out ho (by omega))
  have HN := Lib.hid (HN.out.trans ho)
  have HC := Lib.hid hc
  have hz2 := HN.out.size
  clear hc ho
  by_cases h0 : x = 0
  · subst h0
    have e0 : (((0 : Nat) : Int) == 0) = true := by decide
    have hb4 := below1 w2 (.cells (strs wdOdd).toArray 9)
    have HL4 := Lib.hid (cells_arr w2 (strs wdOdd).toArray 9 w2.heap.size rfl)
    have HC4 := Lib.hid (HC.out.below hb4)
    have HO4 := Lib.hid (own_keep HO.out hb4)
    have HN4 := Lib.hid (HN.out.trans (Only.of_below hb4))
    have hne : w2.heap.size ≠ b := by omega
    clear HO HC HN hb4
    go_wp2_with fail
    refine (of_any wdOdd (some ⟨w2.heap.size, 0, none⟩) 4 (by decide) (by decide) b A n c _ (w2.alloc (.cells (strs wdOdd).toArray 9)) HC4.out (by omega) HL4.out (fun a ha => by obtain rfl := Option.some.inj ha; exact hne)).mono ?_
    rintro e w3 ⟨⟨s, rfl, hs⟩, hc, ho⟩
    have HSS := Lib.hid (wdOdd_short s hs)
    have HC3 := Lib.hid hc
    have HO3 := Lib.hid (own_off HO4.out ho (by omega))
    have HN3 := Lib.hid (HN4.out.trans ho)
    have hz3 := HN3.out.size
    clear hc ho hs HC4 HO4 HN4
    go_wp2_with (at_builtin; go_must (refine list_append_gr elStr _ rfl _ _ rfl w.heap.size O _ d ss.length 1 1 (strs ss) (strs [s]) rfl rfl rfl (own_alloc HO3.out _) (cells_arr _ #[.string s] _ _ rfl) strs_one (by simp; omega) (by omega) ?_); intro O5 d5 w5 own hb hg; have HO5 := Lib.hid own; have HB5 := Lib.hid (((below1 w3 (.cells #[.string s] 9)).mono hz3).trans hb); clear own hb hg)
    go_ret
    exact ⟨O5, d5, ss ++ [s], by first | rfl | (simp; done), by simp; omega, HS.out.snoc HSS.out, by rw [List.length_append, List.length_singleton, strs_append]; exact HO5.out, (HC3.out.belowB HB0.out HB5.out (Nat.le_refl _) hlt).mono (by omega), HN3.out.of_belowB HB5.out (Nat.le_refl _)⟩
  · have e0 : ((x : Int) == 0) = false := by simp; omega
    by_cases h1 : x = 1
    · subst h1
      have e1 : (((1 : Nat) : Int) == 1) = true := by decide
      clear h0
      go_wp2_with fail
      go_loopw [3, 4] (fun u i wr => ∃ (j : Nat) (ss : List ByteArray) (O : Option Addr) (oc : Nat), i = .int .i64 j ∧ u = .slice O ss.length oc ∧ ss.length ≤ 10 + j ∧ j ≤ 22 ∧ Hid (Short ss) ∧ Hid (wr.ownsRow w.heap.size 9 1 (.slice O ss.length oc) ss.length (strs ss)) ∧ Hid (Cur wr b A n c (m + 12 + j)) ∧ Hid (Only b (b + 1) w wr)) (fun _ i _ => 22 - (intOf i).toNat)
      case atStart => exact ⟨0, ss, _, _, rfl, rfl, by omega, by omega, HS, HO, Lib.hid (HC.out.mono (by omega)), HN⟩
      case round =>
        clear HO HC HN HS hl
        obtain ⟨wq, hwq⟩ : ∃ x : World, x = wr := ⟨_, rfl⟩
        subst hwq
        obtain ⟨j, ss, O, oc, rfl, rfl, hjk, hj22, HS, HO, HC, HN⟩ := hrel
        have hwz := HN.out.size
        go_wp2_with fail
        refine (pick_any 2 (by omega) (by omega) b A n c _ wq HC.out (by omega)).mono ?_
        rintro e w3 ⟨⟨y, rfl, hy⟩, hc, ho⟩
        have HO3 := Lib.hid (own_off HO.out ho (by omega))
        have HN3 := Lib.hid (HN.out.trans ho)
        have HC3 := Lib.hid hc
        have hz3 := HN3.out.size
        clear hc ho HO HN HC
        by_cases hlt2 : (ss.length : Int) < 20 + (y : Int)
        · by_cases hj : j < 22
          · have i1 : (j : Int) < 22 := by omega
            go_wp2_with (at_builtin; go_must (refine list_append_gr elStr _ rfl _ _ rfl w.heap.size O _ oc ss.length 1 1 (strs ss) (strs [wdW]) rfl rfl rfl (own_alloc HO3.out _) (cells_arr _ #[.string wdW] _ _ rfl) strs_one (by simp; omega) (by omega) ?_); intro O5 d5 w5 own hb hg; have HO5 := Lib.hid own; have HB5 := Lib.hid (((below1 w3 (.cells #[.string wdW] 9)).mono hz3).trans hb); clear own hb hg)
            go_roundw
            case rel => exact ⟨j + 1, ss ++ [wdW], O5, d5, by go_num, by simp, by simp; omega, by omega, Lib.hid (HS.out.snoc (by decide)), by rw [List.length_append, List.length_singleton, strs_append]; exact HO5, Lib.hid ((HC3.out.belowB HB0.out HB5.out (Nat.le_refl _) hlt).mono (by omega)), Lib.hid (HN3.out.of_belowB HB5.out (Nat.le_refl _))⟩
            case measure => (first | (simp [intOf]; done) | (simp [intOf]; omega))
          · have i1 : ¬ (j : Int) < 22 := by omega
            go_wp2
            go_ret
            exact ⟨O, oc, ss, rfl, by omega, HS.out, HO3.out, HC3.out.mono (by omega), HN3.out⟩
        · go_wp2
          go_ret
          exact ⟨O, oc, ss, rfl, by omega, HS.out, HO3.out, HC3.out.mono (by omega), HN3.out⟩
    · have e1 : ((x : Int) == 1) = false := by simp; omega
      clear h0 h1
      go_wp2
      go_ret
      exact ⟨O, d, ss, rfl, by omega, HS.out, HO.out, HC.out.mono (by omega), HN.out⟩
end Go.Proofs.YtnnphhhjkhoglaaGreatDoor
namespace Go.Proofs.YtnnphhhjkhoglaaGreatDoor
open Go.RowKit
set_option linter.unusedVariables false
set_option linter.unusedSimpArgs false
theorem lit_cellsI (w : World) (xs : List Int) (T : TypeId) (g : Nat) (hg : g = w.heap.size) : Cells (w.alloc (.cells (xs.map (Value.int .i64)).toArray T)) (some ⟨g, 0, none⟩) (IntK.row xs) := fun i u hi => by
  subst hg
  rw [intK_row] at hi
  refine ⟨_, rfl, ?_⟩
  rw [add_head]
  exact (BoxL.new w _ T).2 i u (by simpa using hi)
theorem BoxF.only_ {w w' : World} {q lo hi : Nat} {vs : List Value} (h : BoxF w q vs) (ho : Only lo hi w w') (hq : q < w.heap.size) (hd : hi ≤ q) : BoxF w' q vs := h.blk (ho.block q hq (.inr hd))
theorem BoxF.setO {w : World} {r q i : Nat} {vs : List Value} (h : BoxF w r vs) (hq : q ≠ r) (u : Value) : BoxF (w.setCell ⟨q, i, none⟩ u) r vs := h.blk (Below.heap_setCell w _ _ _ (by simp; omega))
def wdNew : ByteArray := ⟨#[110, 101, 119]⟩
def wdBad : List ByteArray := [⟨#[65]⟩, ⟨#[120]⟩, ⟨#[]⟩]
theorem wdBad_short : ∀ s ∈ wdBad, s.size ≤ 11 := by
  intro s hs
  simp only [wdBad, List.mem_cons, List.not_mem_nil, or_false] at hs
  rcases hs with rfl | rfl | rfl <;> decide
set_option maxRecDepth 100000 in
set_option maxHeartbeats 4000000 in
theorem amendment_any (T : Option Addr) (t l : Nat) (b : Nat) (A : Option Addr) (n c m : Nat) (w : World) (h : Cur w b A n c m) (hm : m ≤ 800000) (hl : l ≤ 100) :
    Calls Tryz.prog 36 #[.pointer (some ⟨b, 0, none⟩), .slice T l t] w fun e w' => ∃ (N : Option Addr) (d : Nat) (a : Amd), e = .returned (.agg #[.int .i64 a.k, .int .i64 a.p, .int .i64 a.n, .slice N a.ws.length d]) ∧ a.ws.length ≤ 5 ∧ Short a.ws ∧ w'.ownsRow w.heap.size 9 1 (.slice N a.ws.length d) a.ws.length (strs a.ws) ∧ Cur w' b A n c (m + 20) ∧ Only b (b + 1) w w' := by
  have HB0 := Lib.hid h.bytes
  have hlt := h.lt
  have hbl := below1 w (.cells #[.int .i64 0, .int .i64 0, .int .i64 0, .slice none 0 0] 35)
  have HC := Lib.hid (h.below hbl)
  have HR := Lib.hid (BoxF.new' w #[.int .i64 0, .int .i64 0, .int .i64 0, .slice none 0 0] 35 w.heap.size rfl)
  have HN := Lib.hid (show Only b (b + 1) w (w.alloc (.cells #[.int .i64 0, .int .i64 0, .int .i64 0, .slice none 0 0] 35)) from Only.of_below hbl)
  have hrz : w.heap.size < (w.alloc (.cells #[.int .i64 0, .int .i64 0, .int .i64 0, .slice none 0 0] 35)).heap.size := by simp
  clear h hbl
  go_enter Tryz.func36, Tryz.ntmps36
  go_upto_region 1 with fail
  generalize w.alloc (.cells #[.int .i64 0, .int .i64 0, .int .i64 0, .slice none 0 0] 35) = W0 at *
  have q1 : IntKind.i64.wrap ((l : Int) + 1) = (l : Int) + 1 := by rw [IntKind.wrap_i64]; omega
  go_wp2_with fail
  refine (pickZ_any ((l : Int) + 1) (by omega) b A n c m W0 HC.out (by omega)).mono ?_
  rintro e w1 ⟨⟨x1, rfl, hx1⟩, hc, ho⟩
  have hx1l : x1 ≤ l := by omega
  have HC := Lib.hid hc
  have HR := Lib.hid (HR.out.only_ ho hrz (by omega))
  have HN := Lib.hid (HN.out.trans ho)
  have hrz := Nat.lt_of_lt_of_le hrz ho.size
  clear hc ho hx1
  have q2 : IntKind.i64.wrap ((l : Int) - x1) = (l : Int) - x1 := by rw [IntKind.wrap_i64]; omega
  have q3 : IntKind.i64.wrap ((l : Int) - x1 + 1) = (l : Int) - x1 + 1 := by rw [IntKind.wrap_i64]; omega
  obtain ⟨M, hM⟩ : ∃ M, Hid ((if (l : Int) - x1 + 1 < 4 then (l : Int) - x1 + 1 else 4) = M) := ⟨_, Lib.hid rfl⟩
  have hM2 : M ≤ 200 := by rw [← hM.out]; split <;> omega
  go_wp2_with fail
  refine (l1Least_any 4 ((l : Int) - x1 + 1) w1).mono ?_
  rintro e w' ⟨rfl, hw⟩
  rw [hw, hM.out]
  clear hw
  go_wp2_with fail
  refine (pickZ_any M hM2 b A n c _ w1 HC.out (by omega)).mono ?_
  rintro e w2 ⟨⟨x3, rfl, hx3⟩, hc, ho⟩
  have HC := Lib.hid hc
  have HR := Lib.hid (HR.out.only_ ho hrz (by omega))
  have HN := Lib.hid (HN.out.trans ho)
  have hrz := Nat.lt_of_lt_of_le hrz ho.size
  clear hc ho hx3 hM hM2 q1 q2 q3
  go_wp2_with fail
  refine (words_any 3 (by omega) (by omega) b A n c _ w2 HC.out (by omega)).mono ?_
  rintro e w3 ⟨O, d, ss, rfl, hsl, hss, own, hc, ho⟩
  have HC := Lib.hid hc
  have HR := Lib.hid (HR.out.only_ ho hrz (by omega))
  have HN := Lib.hid (HN.out.trans ho)
  have HO := Lib.hid (own_mono own (show w.heap.size + 1 ≤ w2.heap.size from hrz))
  have HS := Lib.hid hss
  have hrz := Nat.lt_of_lt_of_le hrz ho.size
  clear hc ho hss own
  go_upto_region 5 with fail
  obtain ⟨B, hB⟩ : ∃ B, Hid (((x3 : Int) == 0 && (ss.length : Int) == 0) = B) := ⟨_, Lib.hid rfl⟩
  go_cut [31] (fun s wx => s = .bool B ∧ wx = w3)
  case first =>
    rcases Bool.eq_false_or_eq_true ((x3 : Int) == 0) with e3 | e3
    · rcases Bool.eq_false_or_eq_true ((ss.length : Int) == 0) with e4 | e4
      · have hBB := hB.out
        rw [e3, e4] at hBB
        go_wp2_with fail
        go_meet
        exact ⟨by rw [← hBB]; rfl, rfl⟩
      · have hBB := hB.out
        rw [e3, e4] at hBB
        go_wp2_with fail
        go_meet
        exact ⟨by rw [← hBB]; rfl, rfl⟩
    · have hBB := hB.out
      rw [e3] at hBB
      go_wp2_with fail
      go_meet
      exact ⟨by rw [← hBB]; rfl, rfl⟩
  obtain ⟨rfl, hwc⟩ := hcut
  have hwc2 := hwc.symm
  clear hwc
  subst hwc2
  go_upto_if 31 with fail
  go_cut [8] (fun u wx => ∃ (O : Option Addr) (d : Nat) (ws : List ByteArray), u = .slice O ws.length d ∧ ws.length ≤ 4 ∧ Hid (Short ws) ∧ Hid (wx.ownsRow (w.heap.size + 1) 9 1 (.slice O ws.length d) ws.length (strs ws)) ∧ Hid (BoxF wx w.heap.size [.int .i64 0, .int .i64 0, .int .i64 0, .slice none 0 0]) ∧ Hid (Cur wx b A n c (m + 10)) ∧ Hid (Only b (b + 1) w wx) ∧ w.heap.size < wx.heap.size)
  case first =>
    rcases Bool.eq_false_or_eq_true B with e3 | e3
    · subst e3
      have HB := Lib.hid (below1 w3 (.cells #[.string wdNew] 9))
      have HO2 : Hid ((w3.alloc (.cells #[.string wdNew] 9)).ownsRow (w.heap.size + 1) 9 1 (.slice (some ⟨w3.heap.size, 0, none⟩) 1 1) 1 (strs [wdNew])) := Lib.hid (World.ownsRow_lit w3 #[.string wdNew] 1 hrz (by unfold maxLen; omega) (by rfl))
      go_wp2_with fail
      go_meet
      exact ⟨_, _, [wdNew], rfl, by simp, Lib.hid (fun s hs => by simp at hs; subst hs; decide), HO2, Lib.hid (HR.out.below HB.out hrz), Lib.hid ((HC.out.below HB.out).mono (by omega)), Lib.hid (HN.out.trans (Only.of_below HB.out)), by simp; omega⟩
    · subst e3
      go_wp2_with fail
      go_meet
      exact ⟨_, _, ss, rfl, by omega, HS, HO, HR, Lib.hid (HC.out.mono (by omega)), HN, hrz⟩
  case rest =>
    clear HO HR HC HN HS hrz hsl
    obtain ⟨W, rfl⟩ : ∃ W, W = wc := ⟨_, rfl⟩
    obtain ⟨O, d, ws, rfl, hwl, HSW, HO, HR, HC, HN, hrz⟩ := hcut
    obtain ⟨K, hK⟩ : ∃ K, Hid (kindI (x3 : Int) ws = K) := ⟨_, Lib.hid rfl⟩
    go_wp2_with fail
    refine (l9Kind_any (x1 : Int) (x3 : Int) O d ws W (Cells.of_own HO.out) (by omega)).mono ?_
    rintro e w4 ⟨N, nd, rfl, own, hb⟩
    rw [hK.out]
    rw [hK.out] at *
    have hb2 := hb.trans ((below1 w4 (.cells #[.int .i64 K, .int .i64 x1, .int .i64 x3, .slice N ws.length nd] 35)).mono hb.size)
    have HC := Lib.hid (HC.out.below hb2)
    have HR := Lib.hid (HR.out.below hb2 hrz)
    have HN := Lib.hid (HN.out.trans (Only.of_below hb2))
    have HU := Lib.hid (Under.own own)
    have HO := Lib.hid (own_mono (own_alloc own (.cells #[.int .i64 K, .int .i64 x1, .int .i64 x3, .slice N ws.length nd] 35)) (show w.heap.size + 1 ≤ W.heap.size from hrz))
    have HQ := Lib.hid (BoxF.new' w4 #[.int .i64 K, .int .i64 x1, .int .i64 x3, .slice N ws.length nd] 35 w4.heap.size rfl)
    have HNQ := Lib.hid (show (Value.slice N ws.length nd).ownBlock ≠ some w4.heap.size from fun e => Nat.lt_irrefl _ (own.lt _ e).2)
    have hqz : w4.heap.size < (w4.alloc (.cells #[.int .i64 K, .int .i64 x1, .int .i64 x3, .slice N ws.length nd] 35)).heap.size := by simp
    have hrz : w.heap.size < (w4.alloc (.cells #[.int .i64 K, .int .i64 x1, .int .i64 x3, .slice N ws.length nd] 35)).heap.size := Nat.lt_of_lt_of_le hrz hb2.size
    have hq1 : w.heap.size + 1 ≤ w4.heap.size := by have := hb.size; have := HN.out.size; omega
    clear own hb hb2
    go_wp2_with fail
    generalize w4.alloc (.cells #[.int .i64 K, .int .i64 x1, .int .i64 x3, .slice N ws.length nd] 35) = W4 at *
    generalize w4.heap.size = q at *
    refine (pick_any 20 (by omega) (by omega) b A n c _ W4 HC.out (by omega)).mono ?_
    rintro e w5 ⟨⟨z, rfl, hz⟩, hc, ho⟩
    have HC := Lib.hid hc
    have HR := Lib.hid (HR.out.only_ ho hrz (by omega))
    have HQ := Lib.hid (HQ.out.only_ ho hqz (by omega))
    have HO := Lib.hid (own_off HO.out ho (by omega))
    have HN := Lib.hid (HN.out.trans ho)
    have hrz := Nat.lt_of_lt_of_le hrz ho.size
    have hqz := Nat.lt_of_lt_of_le hqz ho.size
    clear hc ho hz
    by_cases z0 : z = 0
    · have e0 : ((z : Int) == 0) = true := by simp [z0]
      clear z0
      have hb7 := below1 w5 (.cells ((([0, 4, 1, 2, 3] : List Int).map (Value.int .i64)).toArray) 3)
      have HL7 := Lib.hid (lit_cellsI w5 [0, 4, 1, 2, 3] 3 w5.heap.size rfl)
      have HC7 := Lib.hid (HC.out.below hb7)
      have HO7 := Lib.hid (own_keep HO.out hb7)
      have HQ7 := Lib.hid (HQ.out.below hb7 hqz)
      have HR7 := Lib.hid (HR.out.below hb7 hrz)
      have HN7 := Lib.hid (HN.out.trans (Only.of_below hb7))
      have hne : w5.heap.size ≠ b := by omega
      have hq7 : q < (w5.alloc (.cells ((([0, 4, 1, 2, 3] : List Int).map (Value.int .i64)).toArray) 3)).heap.size := by simp; omega
      have hr7 : w.heap.size < (w5.alloc (.cells ((([0, 4, 1, 2, 3] : List Int).map (Value.int .i64)).toArray) 3)).heap.size := by simp; omega
      go_wp2_with fail
      refine (among_any [0, 4, 1, 2, 3] (some ⟨w5.heap.size, 0, none⟩) 5 (by simp) (by simp) b A n c _ (w5.alloc (.cells ((([0, 4, 1, 2, 3] : List Int).map (Value.int .i64)).toArray) 3)) HC7.out (by omega) HL7.out (fun a ha => by obtain rfl := Option.some.inj ha; exact hne)).mono ?_
      rintro e w6 ⟨⟨y, rfl, hy⟩, hc, ho⟩
      have HC := Lib.hid hc
      have HO := Lib.hid (own_off HO7.out ho (by omega))
      have HQ := Lib.hid (HQ7.out.only_ ho hq7 (by omega))
      have HR := Lib.hid (HR7.out.only_ ho hr7 (by omega))
      have HN := Lib.hid (HN7.out.trans ho)
      have hqz := Nat.lt_of_lt_of_le hq7 ho.size
      have hrz := Nat.lt_of_lt_of_le hr7 ho.size
      clear hc ho hy HC7 HO7 HQ7 HR7 HN7 HL7 hb7
      have y0 := HQ.out.1 0 _ rfl
      have y1 := HQ.out.1 1 _ rfl
      have y2 := HQ.out.1 2 _ rfl
      have y3 := HQ.out.1 3 _ rfl
      have yf := HQ.out.2
      have HQ9 := Lib.hid (HQ.out.set (k := 0) (by simp) (.int .i64 y))
      have HO9 := Lib.hid (ownsRow_setCell_other HO.out HNQ.out (a := ⟨q, 0, none⟩) (.int .i64 y))
      have HR9 := Lib.hid (HR.out.setO (q := q) (i := 0) (by omega) (.int .i64 y))
      have HC9 := Lib.hid (HC.out.belowB HB0.out (Below.setCell (p := ⟨q, 0, none⟩) (Below.refl (w.heap.size + 1) w6) hq1 (.int .i64 y)) (by omega) (by omega))
      have HN9 := Lib.hid (HN.out.of_belowB (Below.setCell (p := ⟨q, 0, none⟩) (Below.refl (w.heap.size + 1) w6) hq1 (.int .i64 y)) (by omega))
      go_upto_region 17 with fail
      generalize w6.setCell ⟨q, 0, none⟩ (.int .i64 y) = W9 at *
      simp only [List.set_cons_zero, List.set_cons_succ] at HQ9
      have HQ := HQ9
      have HO := HO9
      have HR := HR9
      have HC := HC9
      have HN := HN9
      have t0 := HQ.out.1 0 _ rfl
      have t1 := HQ.out.1 1 _ rfl
      have t2 := HQ.out.1 2 _ rfl
      have t3 := HQ.out.1 3 _ rfl
      have rf := HR.out.2
      have r0 := HR.out.1 0 _ rfl
      have r1 := HR.out.1 1 _ rfl
      have r2 := HR.out.1 2 _ rfl
      have r3 := HR.out.1 3 _ rfl
      go_wp2
      have KS := HR.out.set4 (.int .i64 y) (.int .i64 (x1 : Int)) (.int .i64 (x3 : Int)) (.slice N ws.length nd)
      have k0 := KS.1 0 _ rfl
      have k1 := KS.1 1 _ rfl
      have k2 := KS.1 2 _ rfl
      have k3 := KS.1 3 _ rfl
      refine bodyPost_ret (v := .agg #[.int .i64 y, .int .i64 (x1 : Int), .int .i64 (x3 : Int), .slice N ws.length nd]) (by simp [results, Tryz.results36, go_sem, k0, k1, k2, k3]) rfl ?_
      have hst : Below w.heap.size W9 ((((W9.setCell ⟨w.heap.size, 0, none⟩ (.int .i64 y)).setCell ⟨w.heap.size, 1, none⟩ (.int .i64 (x1 : Int))).setCell ⟨w.heap.size, 2, none⟩ (.int .i64 (x3 : Int))).setCell ⟨w.heap.size, 3, none⟩ (.slice N ws.length nd)) := by go_grown
      exact ⟨N, nd, ⟨y, (x1 : Int), (x3 : Int), ws⟩, rfl, (show ws.length ≤ 5 by omega), HSW.out, own_mono (own_off HO.out (only4 W9 w.heap.size _ _ _ _) (Nat.le_refl _)) (Nat.le_succ _), (HC.out.belowB HB0.out hst (Nat.le_refl _) hlt).mono (by omega), HN.out.of_belowB hst (Nat.le_refl _)⟩
    · have e0 : ((z : Int) == 0) = false := by simp; omega
      by_cases z1 : z = 1
      · have e1 : ((z : Int) == 1) = true := by simp [z1]
        have q1 : IntKind.i64.wrap ((l : Int) + 1) = (l : Int) + 1 := by rw [IntKind.wrap_i64]; omega
        clear z0 z1
        have hb7 := below1 w5 (.cells ((([-1, (l : Int) + 1, 20, 21] : List Int).map (Value.int .i64)).toArray) 3)
        have HL7 := Lib.hid (lit_cellsI w5 [-1, (l : Int) + 1, 20, 21] 3 w5.heap.size rfl)
        have HC7 := Lib.hid (HC.out.below hb7)
        have HO7 := Lib.hid (own_keep HO.out hb7)
        have HQ7 := Lib.hid (HQ.out.below hb7 hqz)
        have HR7 := Lib.hid (HR.out.below hb7 hrz)
        have HN7 := Lib.hid (HN.out.trans (Only.of_below hb7))
        have hne : w5.heap.size ≠ b := by omega
        have hq7 : q < (w5.alloc (.cells ((([-1, (l : Int) + 1, 20, 21] : List Int).map (Value.int .i64)).toArray) 3)).heap.size := by simp; omega
        have hr7 : w.heap.size < (w5.alloc (.cells ((([-1, (l : Int) + 1, 20, 21] : List Int).map (Value.int .i64)).toArray) 3)).heap.size := by simp; omega
        go_wp2_with fail
        refine (among_any [-1, (l : Int) + 1, 20, 21] (some ⟨w5.heap.size, 0, none⟩) 4 (by simp) (by simp) b A n c _ (w5.alloc (.cells ((([-1, (l : Int) + 1, 20, 21] : List Int).map (Value.int .i64)).toArray) 3)) HC7.out (by omega) HL7.out (fun a ha => by obtain rfl := Option.some.inj ha; exact hne)).mono ?_
        rintro e w6 ⟨⟨y, rfl, hy⟩, hc, ho⟩
        have HC := Lib.hid hc
        have HO := Lib.hid (own_off HO7.out ho (by omega))
        have HQ := Lib.hid (HQ7.out.only_ ho hq7 (by omega))
        have HR := Lib.hid (HR7.out.only_ ho hr7 (by omega))
        have HN := Lib.hid (HN7.out.trans ho)
        have hqz := Nat.lt_of_lt_of_le hq7 ho.size
        have hrz := Nat.lt_of_lt_of_le hr7 ho.size
        clear hc ho hy HC7 HO7 HQ7 HR7 HN7 HL7 hb7
        have y0 := HQ.out.1 0 _ rfl
        have y1 := HQ.out.1 1 _ rfl
        have y2 := HQ.out.1 2 _ rfl
        have y3 := HQ.out.1 3 _ rfl
        have yf := HQ.out.2
        have HQ9 := Lib.hid (HQ.out.set (k := 1) (by simp) (.int .i64 y))
        have HO9 := Lib.hid (ownsRow_setCell_other HO.out HNQ.out (a := ⟨q, 1, none⟩) (.int .i64 y))
        have HR9 := Lib.hid (HR.out.setO (q := q) (i := 1) (by omega) (.int .i64 y))
        have HC9 := Lib.hid (HC.out.belowB HB0.out (Below.setCell (p := ⟨q, 1, none⟩) (Below.refl (w.heap.size + 1) w6) hq1 (.int .i64 y)) (by omega) (by omega))
        have HN9 := Lib.hid (HN.out.of_belowB (Below.setCell (p := ⟨q, 1, none⟩) (Below.refl (w.heap.size + 1) w6) hq1 (.int .i64 y)) (by omega))
        go_upto_region 17 with fail
        generalize w6.setCell ⟨q, 1, none⟩ (.int .i64 y) = W9 at *
        simp only [List.set_cons_zero, List.set_cons_succ] at HQ9
        have HQ := HQ9
        have HO := HO9
        have HR := HR9
        have HC := HC9
        have HN := HN9
        have t0 := HQ.out.1 0 _ rfl
        have t1 := HQ.out.1 1 _ rfl
        have t2 := HQ.out.1 2 _ rfl
        have t3 := HQ.out.1 3 _ rfl
        have rf := HR.out.2
        have r0 := HR.out.1 0 _ rfl
        have r1 := HR.out.1 1 _ rfl
        have r2 := HR.out.1 2 _ rfl
        have r3 := HR.out.1 3 _ rfl
        go_wp2
        have KS := HR.out.set4 (.int .i64 K) (.int .i64 y) (.int .i64 (x3 : Int)) (.slice N ws.length nd)
        have k0 := KS.1 0 _ rfl
        have k1 := KS.1 1 _ rfl
        have k2 := KS.1 2 _ rfl
        have k3 := KS.1 3 _ rfl
        refine bodyPost_ret (v := .agg #[.int .i64 K, .int .i64 y, .int .i64 (x3 : Int), .slice N ws.length nd]) (by simp [results, Tryz.results36, go_sem, k0, k1, k2, k3]) rfl ?_
        have hst : Below w.heap.size W9 ((((W9.setCell ⟨w.heap.size, 0, none⟩ (.int .i64 K)).setCell ⟨w.heap.size, 1, none⟩ (.int .i64 y)).setCell ⟨w.heap.size, 2, none⟩ (.int .i64 (x3 : Int))).setCell ⟨w.heap.size, 3, none⟩ (.slice N ws.length nd)) := by go_grown
        exact ⟨N, nd, ⟨K, y, (x3 : Int), ws⟩, rfl, (show ws.length ≤ 5 by omega), HSW.out, own_mono (own_off HO.out (only4 W9 w.heap.size _ _ _ _) (Nat.le_refl _)) (Nat.le_succ _), (HC.out.belowB HB0.out hst (Nat.le_refl _) hlt).mono (by omega), HN.out.of_belowB hst (Nat.le_refl _)⟩
      · have e1 : ((z : Int) == 1) = false := by simp; omega
        by_cases z2 : z = 2
        · have e2 : ((z : Int) == 2) = true := by simp [z2]
          clear z0 z1 z2
          have hb7 := below1 w5 (.cells ((([-1, 5, 6] : List Int).map (Value.int .i64)).toArray) 3)
          have HL7 := Lib.hid (lit_cellsI w5 [-1, 5, 6] 3 w5.heap.size rfl)
          have HC7 := Lib.hid (HC.out.below hb7)
          have HO7 := Lib.hid (own_keep HO.out hb7)
          have HQ7 := Lib.hid (HQ.out.below hb7 hqz)
          have HR7 := Lib.hid (HR.out.below hb7 hrz)
          have HN7 := Lib.hid (HN.out.trans (Only.of_below hb7))
          have hne : w5.heap.size ≠ b := by omega
          have hq7 : q < (w5.alloc (.cells ((([-1, 5, 6] : List Int).map (Value.int .i64)).toArray) 3)).heap.size := by simp; omega
          have hr7 : w.heap.size < (w5.alloc (.cells ((([-1, 5, 6] : List Int).map (Value.int .i64)).toArray) 3)).heap.size := by simp; omega
          go_wp2_with fail
          refine (among_any [-1, 5, 6] (some ⟨w5.heap.size, 0, none⟩) 3 (by simp) (by simp) b A n c _ (w5.alloc (.cells ((([-1, 5, 6] : List Int).map (Value.int .i64)).toArray) 3)) HC7.out (by omega) HL7.out (fun a ha => by obtain rfl := Option.some.inj ha; exact hne)).mono ?_
          rintro e w6 ⟨⟨y, rfl, hy⟩, hc, ho⟩
          have HC := Lib.hid hc
          have HO := Lib.hid (own_off HO7.out ho (by omega))
          have HQ := Lib.hid (HQ7.out.only_ ho hq7 (by omega))
          have HR := Lib.hid (HR7.out.only_ ho hr7 (by omega))
          have HN := Lib.hid (HN7.out.trans ho)
          have hqz := Nat.lt_of_lt_of_le hq7 ho.size
          have hrz := Nat.lt_of_lt_of_le hr7 ho.size
          clear hc ho hy HC7 HO7 HQ7 HR7 HN7 HL7 hb7
          have y0 := HQ.out.1 0 _ rfl
          have y1 := HQ.out.1 1 _ rfl
          have y2 := HQ.out.1 2 _ rfl
          have y3 := HQ.out.1 3 _ rfl
          have yf := HQ.out.2
          have HQ9 := Lib.hid (HQ.out.set (k := 2) (by simp) (.int .i64 y))
          have HO9 := Lib.hid (ownsRow_setCell_other HO.out HNQ.out (a := ⟨q, 2, none⟩) (.int .i64 y))
          have HR9 := Lib.hid (HR.out.setO (q := q) (i := 2) (by omega) (.int .i64 y))
          have HC9 := Lib.hid (HC.out.belowB HB0.out (Below.setCell (p := ⟨q, 2, none⟩) (Below.refl (w.heap.size + 1) w6) hq1 (.int .i64 y)) (by omega) (by omega))
          have HN9 := Lib.hid (HN.out.of_belowB (Below.setCell (p := ⟨q, 2, none⟩) (Below.refl (w.heap.size + 1) w6) hq1 (.int .i64 y)) (by omega))
          go_upto_region 17 with fail
          generalize w6.setCell ⟨q, 2, none⟩ (.int .i64 y) = W9 at *
          simp only [List.set_cons_zero, List.set_cons_succ] at HQ9
          have HQ := HQ9
          have HO := HO9
          have HR := HR9
          have HC := HC9
          have HN := HN9
          have t0 := HQ.out.1 0 _ rfl
          have t1 := HQ.out.1 1 _ rfl
          have t2 := HQ.out.1 2 _ rfl
          have t3 := HQ.out.1 3 _ rfl
          have rf := HR.out.2
          have r0 := HR.out.1 0 _ rfl
          have r1 := HR.out.1 1 _ rfl
          have r2 := HR.out.1 2 _ rfl
          have r3 := HR.out.1 3 _ rfl
          go_wp2
          have KS := HR.out.set4 (.int .i64 K) (.int .i64 (x1 : Int)) (.int .i64 y) (.slice N ws.length nd)
          have k0 := KS.1 0 _ rfl
          have k1 := KS.1 1 _ rfl
          have k2 := KS.1 2 _ rfl
          have k3 := KS.1 3 _ rfl
          refine bodyPost_ret (v := .agg #[.int .i64 K, .int .i64 (x1 : Int), .int .i64 y, .slice N ws.length nd]) (by simp [results, Tryz.results36, go_sem, k0, k1, k2, k3]) rfl ?_
          have hst : Below w.heap.size W9 ((((W9.setCell ⟨w.heap.size, 0, none⟩ (.int .i64 K)).setCell ⟨w.heap.size, 1, none⟩ (.int .i64 (x1 : Int))).setCell ⟨w.heap.size, 2, none⟩ (.int .i64 y)).setCell ⟨w.heap.size, 3, none⟩ (.slice N ws.length nd)) := by go_grown
          exact ⟨N, nd, ⟨K, (x1 : Int), y, ws⟩, rfl, (show ws.length ≤ 5 by omega), HSW.out, own_mono (own_off HO.out (only4 W9 w.heap.size _ _ _ _) (Nat.le_refl _)) (Nat.le_succ _), (HC.out.belowB HB0.out hst (Nat.le_refl _) hlt).mono (by omega), HN.out.of_belowB hst (Nat.le_refl _)⟩
        · have e2 : ((z : Int) == 2) = false := by simp; omega
          by_cases z3 : z = 3
          · have e3 : ((z : Int) == 3) = true := by simp [z3]
            clear z0 z1 z2 z3
            have HB1 := Lib.hid (below1 w5 (.cells #[] 9))
            have hz5 := HN.out.size
            have y0 := HQ.out.1 0 _ rfl
            have y1 := HQ.out.1 1 _ rfl
            have y2 := HQ.out.1 2 _ rfl
            have y3 := HQ.out.1 3 _ rfl
            have yf := HQ.out.2
            have y3 := (HB1.out.cell (p := ⟨q, 3, none⟩) hqz).trans y3
            go_wp2_with (at_builtin; go_must (refine list_append_lit elStr _ rfl _ _ rfl w5.heap.size w5.heap.size N ws.length nd (strs ws) rfl rfl (strs_len1 ws) (own_nil_lit w5 _ _ _ _ rfl (Nat.le_refl _)) (Cells.of_own (own_keep HO.out HB1.out)) strs_one (by simp) (by omega) ?_); intro O6 d6 w6 own hb hq6; have HO6 := Lib.hid own; have HB6 := Lib.hid ((HB1.out.trans (hb.mono HB1.out.size)).trans (below1 w6 (.cells (strs wdBad).toArray 9) |>.mono (Nat.le_trans HB1.out.size hb.size))); have HB66 := Lib.hid (HB1.out.trans (hb.mono HB1.out.size)); clear own hb hq6 y0 y1 y2 y3 yf; skip)
            have HL6 := Lib.hid (cells_arr w6 (strs wdBad).toArray 9 w6.heap.size rfl)
            have HO6 := Lib.hid (own_alloc HO6.out (.cells (strs wdBad).toArray 9))
            have HC6 := Lib.hid (HC.out.below HB6.out)
            have HQ6 := Lib.hid (HQ.out.below HB6.out hqz)
            have HR6 := Lib.hid (HR.out.below HB6.out hrz)
            have HN6 := Lib.hid (HN.out.trans (Only.of_below HB6.out))
            have hq6 := Nat.lt_of_lt_of_le hqz HB6.out.size
            have hr6 := Nat.lt_of_lt_of_le hrz HB6.out.size
            have hne : w6.heap.size ≠ b := by have := HB66.out.size; omega
            refine (of_any wdBad (some ⟨w6.heap.size, 0, none⟩) 3 (by decide) (by decide) b A n c _ (w6.alloc (.cells (strs wdBad).toArray 9)) HC6.out (by omega) HL6.out (fun a ha => by obtain rfl := Option.some.inj ha; exact hne)).mono ?_
            rintro e w7 ⟨⟨s, rfl, hs⟩, hc, ho⟩
            have HSS := Lib.hid (wdBad_short s hs)
            have HC := Lib.hid hc
            have HO := Lib.hid (own_off HO6.out ho (by omega))
            have HQ := Lib.hid (HQ6.out.only_ ho hq6 (by omega))
            have HR := Lib.hid (HR6.out.only_ ho hr6 (by omega))
            have HN := Lib.hid (HN6.out.trans ho)
            have hz7 : w5.heap.size ≤ w7.heap.size := Nat.le_trans HB6.out.size ho.size
            clear hc ho hs HC6 HO6 HQ6 HR6 HN6 HL6 hq6 hr6
            go_upto_region 17 with (at_builtin; go_must (refine list_append_gr elStr _ rfl _ _ rfl w5.heap.size O6 _ d6 ws.length 1 1 (strs ws) (strs [s]) rfl rfl rfl (own_alloc HO.out _) (cells_arr _ #[.string s] _ _ rfl) strs_one (by simp; omega) (by omega) ?_); intro O8 d8 w8 own hb hg; have HO8 := Lib.hid own; have HB8 := Lib.hid (((below1 w7 (.cells #[.string s] 9)).mono hz7).trans hb); have y3 := (HB8.out.cell (p := ⟨q, 3, none⟩) hqz).trans (HQ.out.1 3 _ rfl); have yf := fun i => (HB8.out.frozen (p := ⟨q, i, none⟩) hqz).trans (HQ.out.2 i); clear own hb hg)
            have HQ := Lib.hid ((HQ.out.below HB8.out hqz).set (k := 3) (by simp) (.slice O8 (ws.length + 1) d8))
            have HO := Lib.hid (own_mono (ownsRow_setCell_other HO8.out (fun e => Nat.lt_irrefl q (Nat.lt_of_lt_of_le hqz (HO8.out.lt _ e).1)) (a := ⟨q, 3, none⟩) (.slice O8 (ws.length + 1) d8)) (show w.heap.size + 1 ≤ w5.heap.size from hrz))
            have HR := Lib.hid ((HR.out.below HB8.out hrz).setO (q := q) (i := 3) (by omega) (.slice O8 (ws.length + 1) d8))
            have hbs := Below.setCell (p := ⟨q, 3, none⟩) (HB8.out.mono (show w.heap.size + 1 ≤ w5.heap.size from hrz)) hq1 (.slice O8 (ws.length + 1) d8)
            have HC := Lib.hid (HC.out.belowB HB0.out hbs (by omega) (by omega))
            have HN := Lib.hid (HN.out.of_belowB hbs (by omega))
            obtain ⟨vs, hvs⟩ : ∃ v, Hid (ws ++ [s] = v) := ⟨_, Lib.hid rfl⟩
            have HEQ := Lib.hid (show vs.length = ws.length + 1 by rw [← hvs.out]; simp)
            have HSV := Lib.hid (show Short vs by rw [← hvs.out]; exact HSW.out.snoc HSS.out)
            clear hbs y3 yf
            generalize w8.setCell ⟨q, 3, none⟩ (.slice O8 (ws.length + 1) d8) = W9 at *
            simp only [List.set_cons_zero, List.set_cons_succ] at HQ
            rw [← HEQ.out, ← strs_append, hvs.out] at HO
            rw [← HEQ.out] at HQ ⊢
            have t0 := HQ.out.1 0 _ rfl
            have t1 := HQ.out.1 1 _ rfl
            have t2 := HQ.out.1 2 _ rfl
            have t3 := HQ.out.1 3 _ rfl
            have rf := HR.out.2
            have r0 := HR.out.1 0 _ rfl
            have r1 := HR.out.1 1 _ rfl
            have r2 := HR.out.1 2 _ rfl
            have r3 := HR.out.1 3 _ rfl
            go_wp2
            have KS := HR.out.set4 (.int .i64 K) (.int .i64 (x1 : Int)) (.int .i64 (x3 : Int)) (.slice O8 vs.length d8)
            have k0 := KS.1 0 _ rfl
            have k1 := KS.1 1 _ rfl
            have k2 := KS.1 2 _ rfl
            have k3 := KS.1 3 _ rfl
            refine bodyPost_ret (v := .agg #[.int .i64 K, .int .i64 (x1 : Int), .int .i64 (x3 : Int), .slice O8 vs.length d8]) (by simp [results, Tryz.results36, go_sem, k0, k1, k2, k3]) rfl ?_
            have hst : Below w.heap.size W9 ((((W9.setCell ⟨w.heap.size, 0, none⟩ (.int .i64 K)).setCell ⟨w.heap.size, 1, none⟩ (.int .i64 (x1 : Int))).setCell ⟨w.heap.size, 2, none⟩ (.int .i64 (x3 : Int))).setCell ⟨w.heap.size, 3, none⟩ (.slice O8 vs.length d8)) := by go_grown
            exact ⟨O8, d8, ⟨K, (x1 : Int), (x3 : Int), vs⟩, rfl, (show vs.length ≤ 5 by have := HEQ.out; omega), HSV.out, own_mono (own_off HO.out (only4 W9 w.heap.size _ _ _ _) (Nat.le_refl _)) (Nat.le_succ _), (HC.out.belowB HB0.out hst (Nat.le_refl _) hlt).mono (by omega), HN.out.of_belowB hst (Nat.le_refl _)⟩
          · have e3 : ((z : Int) == 3) = false := by simp; omega
            clear z0 z1 z2 z3
            go_upto_region 17 with fail
            have t0 := HQ.out.1 0 _ rfl
            have t1 := HQ.out.1 1 _ rfl
            have t2 := HQ.out.1 2 _ rfl
            have t3 := HQ.out.1 3 _ rfl
            have rf := HR.out.2
            have r0 := HR.out.1 0 _ rfl
            have r1 := HR.out.1 1 _ rfl
            have r2 := HR.out.1 2 _ rfl
            have r3 := HR.out.1 3 _ rfl
            go_wp2
            have KS := HR.out.set4 (.int .i64 K) (.int .i64 (x1 : Int)) (.int .i64 (x3 : Int)) (.slice N ws.length nd)
            have k0 := KS.1 0 _ rfl
            have k1 := KS.1 1 _ rfl
            have k2 := KS.1 2 _ rfl
            have k3 := KS.1 3 _ rfl
            refine bodyPost_ret (v := .agg #[.int .i64 K, .int .i64 (x1 : Int), .int .i64 (x3 : Int), .slice N ws.length nd]) (by simp [results, Tryz.results36, go_sem, k0, k1, k2, k3]) rfl ?_
            have hst : Below w.heap.size w5 ((((w5.setCell ⟨w.heap.size, 0, none⟩ (.int .i64 K)).setCell ⟨w.heap.size, 1, none⟩ (.int .i64 (x1 : Int))).setCell ⟨w.heap.size, 2, none⟩ (.int .i64 (x3 : Int))).setCell ⟨w.heap.size, 3, none⟩ (.slice N ws.length nd)) := by go_grown
            exact ⟨N, nd, ⟨K, (x1 : Int), (x3 : Int), ws⟩, rfl, (show ws.length ≤ 5 by omega), HSW.out, own_mono (own_off HO.out (only4 w5 w.heap.size _ _ _ _) (Nat.le_refl _)) (Nat.le_succ _), (HC.out.belowB HB0.out hst (Nat.le_refl _) hlt).mono (by omega), HN.out.of_belowB hst (Nat.le_refl _)⟩
end Go.Proofs.YtnnphhhjkhoglaaGreatDoor
namespace Go.Proofs.YtnnphhhjkhoglaaGreatDoor
open Go.RowKit
set_option linter.unusedVariables false
set_option linter.unusedSimpArgs false
attribute [local go_sem ↓] Go.wp_at_zero Go.wp_at_succ
theorem Cur.new_ {w : World} {A : Option Addr} {n c : Nat} (h : BytesC w A n) (hn : n ≤ 65536) (T : TypeId) : Cur (w.alloc (.cells #[.slice A n c, .int .i64 0, .int .u64 0] T)) w.heap.size A n c 0 := by
  refine ⟨⟨0, 0, Nat.le_refl _, Int.le_refl _, by omega, BoxF.new' w _ _ _ rfl⟩, by simp, fun a ha hn0 => ?_, h.block fun a _ hl => (below1 w _).block _ hl, hn⟩
  obtain ⟨a', x, hA, _, _, hc⟩ := h 0 hn0
  rw [ha] at hA
  obtain rfl := Option.some.inj hA
  have := World.block_lt_of_cell? _ _ hc
  rw [block_add] at this
  omega
theorem BytesC.below_ {w w' : World} {A : Option Addr} {n : Nat} (h : BytesC w A n) (hb : Below w.heap.size w w') : BytesC w' A n := h.block fun a _ hl => hb.block _ hl
theorem cell_far {w : World} {p : Addr} {q j : Nat} {v : Value} (h : p.block ≠ q) : (w.setCell ⟨q, j, none⟩ v).cell? p = w.cell? p := World.cell?_of_block (Below.heap_setCell w ⟨q, j, none⟩ v p.block (by simp; omega))
theorem Short.app {ss : List ByteArray} {a : Amd} (h : Short ss) (h' : Short a.ws) : Short (appL ss a) := by
  unfold appL
  split
  · intro s hs
    rcases amdL_mem hs with h1 | h1
    · exact h s h1
    · exact h' s h1
  · intro s hs; simp at hs
theorem appL_len {ss : List ByteArray} {a : Amd} : (appL ss a).length ≤ 20 := by
  unfold appL
  split
  · rename_i h
    unfold canB at h
    rw [Bool.and_eq_true, Bool.and_eq_true] at h
    have := fitsB_len h.2 h.1.2
    omega
  · simp
end Go.Proofs.YtnnphhhjkhoglaaGreatDoor
namespace Go.Proofs.YtnnphhhjkhoglaaGreatDoor
open Go.RowKit
set_option linter.unusedVariables false
/-- The block b holds cells of the type T. -/
def Ty (w : World) (b : Nat) (T : TypeId) : Prop := ∃ cs fr, w.heap[b]? = some (.cells cs T fr)
theorem Ty.lt {w : World} {b : Nat} {T : TypeId} (h : Ty w b T) : b < w.heap.size := by
  obtain ⟨cs, fr, h⟩ := h
  rcases Nat.lt_or_ge b w.heap.size with h1 | h1
  · exact h1
  · rw [Array.getElem?_eq_none h1] at h; cases h
theorem Ty.below {w w' : World} {b B : Nat} {T : TypeId} (h : Ty w b T) (hb : Below B w w') (hB : b < B) : Ty w' b T := by
  obtain ⟨cs, fr, h⟩ := h
  exact ⟨cs, fr, (hb.block b hB).trans h⟩
theorem Ty.set {w : World} {b : Nat} {T : TypeId} (h : Ty w b T) (p : Addr) (u : Value) : Ty (w.setCell p u) b T := by
  obtain ⟨cs, fr, h⟩ := h
  by_cases hp : b = p.block
  · subst hp
    refine ⟨if p.spot.isSome then cs else cs.setIfInBounds p.off u, fr, ?_⟩
    simp only [World.setCell, Array.getElem?_modify, if_pos, h, Option.map_some]
  · exact ⟨cs, fr, (heap_setCell_other w p b u hp).trans h⟩
theorem own_off_type {w : World} {lo e size n c g : Nat} {A : Option Addr} {xs : List Value} {cs : Array Value} {t : TypeId} {fr : Nat × Nat} (h : w.ownsRow lo e size (.slice A n c) n xs) (hb : w.heap[g]? = some (.cells cs t fr)) (hne : e ≠ t) : (Value.slice A n c).ownBlock ≠ some g := by
  rcases h.2 with ⟨hv, _⟩ | ⟨g1, cap, cur, hv, _, hh, _⟩
  · rw [hv]; simp [Value.ownBlock]
  · rw [hv]
    intro he
    obtain rfl : g1 = g := by simpa [Value.ownBlock] using he
    rw [hh] at hb
    injection hb with hb
    injection hb with _ ht
    exact hne ht
end Go.Proofs.YtnnphhhjkhoglaaGreatDoor
namespace Go.Proofs.YtnnphhhjkhoglaaGreatDoor
open Go.RowKit
set_option linter.unusedVariables false
set_option linter.unusedSimpArgs false
/-- The state of a draw: since w0 only the cursor in block b, and what is new, has turned; m bytes at most have been read. -/
structure Std (w0 w : World) (b : Nat) (A : Option Addr) (n c m : Nat) : Prop where
  cur : Cur w b A n c m
  on : Only b (b + 1) w0 w
  by0 : BytesC w0 A n
  lt : b < w0.heap.size
section
variable {w0 w w' : World} {b : Nat} {A : Option Addr} {n c m m' : Nat}
theorem Std.start (h : Cur w b A n c m) : Std w w b A n c m := ⟨h, Only.refl', h.bytes, h.lt⟩
theorem Std.call (h : Std w0 w b A n c m) (hb : Below w.heap.size w w') : Std w0 w' b A n c m := ⟨h.cur.below hb, h.on.trans (Only.of_below hb), h.by0, h.lt⟩
theorem Std.callB {B : Nat} (h : Std w0 w b A n c m) (hb : Below B w w') (hB : w0.heap.size ≤ B) : Std w0 w' b A n c m := ⟨h.cur.belowB h.by0 hb hB (Nat.lt_of_lt_of_le h.lt hB), h.on.of_belowB hb hB, h.by0, h.lt⟩
theorem Std.draw (h : Std w0 w b A n c m) (hc : Cur w' b A n c m') (ho : Only b (b + 1) w w') : Std w0 w' b A n c m' := ⟨hc, h.on.trans ho, h.by0, h.lt⟩
theorem Std.set (h : Std w0 w b A n c m) (p : Addr) (hp : w0.heap.size ≤ p.block) (v : Value) : Std w0 (w.setCell p v) b A n c m := h.callB ((Below.refl _ _).setCell hp v) (Nat.le_refl _)
theorem Std.alloc (h : Std w0 w b A n c m) (o : Obj) : Std w0 (w.alloc o) b A n c m := h.call (below1 w o)
theorem Std.mono (h : Std w0 w b A n c m) (hm : m ≤ m') : Std w0 w b A n c m' := ⟨h.cur.mono hm, h.on, h.by0, h.lt⟩
theorem Std.sz (h : Std w0 w b A n c m) : w0.heap.size ≤ w.heap.size := h.on.size
theorem Std.bw (h : Std w0 w b A n c m) : b < w.heap.size := Nat.lt_of_lt_of_le h.lt h.on.size
end
/-- A boxed struct of the type T. -/
structure BT (w : World) (q : Nat) (T : TypeId) (vs : List Value) : Prop where
  box : BoxF w q vs
  ty : Ty w q T
section
variable {w w' : World} {q b : Nat} {T : TypeId} {vs : List Value}
theorem BT.new (w : World) (vs : Array Value) (T : TypeId) (g : Nat) (hg : g = w.heap.size) : BT (w.alloc (.cells vs T)) g T vs.toList := ⟨BoxF.new' w vs T g hg, by subst hg; exact ⟨_, _, heap_alloc_new w _⟩⟩
theorem BT.lt (h : BT w q T vs) : q < w.heap.size := h.ty.lt
theorem BT.call (h : BT w q T vs) (hb : Below w.heap.size w w') : BT w' q T vs := ⟨h.box.below hb h.lt, h.ty.below hb h.lt⟩
theorem BT.callB {B : Nat} (h : BT w q T vs) (hb : Below B w w') (hq : q < B) : BT w' q T vs := ⟨h.box.below hb hq, h.ty.below hb hq⟩
theorem BT.draw (h : BT w q T vs) (ho : Only b (b + 1) w w') (hq : q ≠ b) : BT w' q T vs := by
  have hk := ho.block q h.lt (by omega)
  obtain ⟨cs, fr, ht⟩ := h.ty
  exact ⟨h.box.blk hk, ⟨cs, fr, hk.trans ht⟩⟩
theorem BT.far (h : BT w q T vs) (p : Addr) (u : Value) (hne : q ≠ p.block) : BT (w.setCell p u) q T vs := ⟨h.box.blk (heap_setCell_other w p q u hne), h.ty.set p u⟩
theorem BT.set (h : BT w q T vs) (k : Nat) (hk : k < vs.length) (u : Value) : BT (w.setCell ⟨q, k, none⟩ u) q T (vs.set k u) := ⟨h.box.set hk u, h.ty.set _ u⟩
theorem BT.alloc (h : BT w q T vs) (o : Obj) : BT (w.alloc o) q T vs := h.call (below1 w o)
end
/-- A row that the call has made, in memory from lo on. -/
def OwD {α : Type} (K : Kd α) (e : TypeId) (lo : Nat) (w : World) (A : Option Addr) (c : Nat) (xs : List α) : Prop := Ow K e lo w.heap.size w A c xs
section
variable {α : Type} {K : Kd α} {e lo b q : Nat} {w w' : World} {A : Option Addr} {c : Nat} {xs : List α} {T : TypeId}
theorem OwD.call (h : OwD K e lo w A c xs) (hb : Below w.heap.size w w') : OwD K e lo w' A c xs := (Ow.below h hb (Nat.le_refl _)).high hb.size
theorem OwD.draw (h : OwD K e lo w A c xs) (ho : Only b (b + 1) w w') (hb : b < lo) : OwD K e lo w' A c xs := (Ow.only h ho (.inr hb)).high ho.size
theorem OwD.set (h : OwD K e lo w A c xs) (ht : Ty w q T) (hne : e ≠ T) (k : Nat) (u : Value) : OwD K e lo (w.setCell ⟨q, k, none⟩ u) A c xs := ⟨ownsRow_setCell_other h.1 (by obtain ⟨cs, fr, hx⟩ := ht; exact own_off_type h.1 hx hne) u, h.2.1.mono (by simp), h.2.2⟩
theorem OwD.rd (h : OwD K e lo w A c xs) : Rd K w.heap.size w A c xs := Ow.rd h
theorem OwD.low {lo' : Nat} (h : OwD K e lo w A c xs) (hl : lo' ≤ lo) : OwD K e lo' w A c xs := Ow.low h hl
theorem OwD.alloc (h : OwD K e lo w A c xs) (o : Obj) : OwD K e lo (w.alloc o) A c xs := h.call (below1 w o)
end
/-! At the head of a draw: the cursor is made. -/
theorem below_of_only {B b : Nat} {w0 w w' : World} (h : Below B w0 w) (ho : Only b (b + 1) w w') (hb : B ≤ b) (hs : B ≤ w.heap.size) : Below B w0 w' :=
  ⟨ho.os.trans h.os, ho.tape.trans h.tape, ho.output.trans h.output, Nat.le_trans h.size ho.size, fun k hk => (ho.block k (Nat.lt_of_lt_of_le hk hs) (.inl (Nat.lt_of_lt_of_le hk hb))).trans (h.block k hk)⟩
/-- The state at the head of a draw: the cursor lies in the new block b. -/
structure Tst (w0 w : World) (b : Nat) (A : Option Addr) (n c m : Nat) : Prop where
  cur : Cur w b A n c m
  on : Below w0.heap.size w0 w
  by0 : BytesC w0 A n
  ge : w0.heap.size ≤ b
section
variable {w0 w w' : World} {b : Nat} {A : Option Addr} {n c m m' : Nat}
theorem Tst.sz (h : Tst w0 w b A n c m) : w0.heap.size ≤ w.heap.size := h.on.size
theorem Tst.bw (h : Tst w0 w b A n c m) : b < w.heap.size := h.cur.lt
theorem Tst.call (h : Tst w0 w b A n c m) (hb : Below w.heap.size w w') : Tst w0 w' b A n c m := ⟨h.cur.below hb, h.on.trans (hb.mono h.sz), h.by0, h.ge⟩
theorem Tst.draw (h : Tst w0 w b A n c m) (hc : Cur w' b A n c m') (ho : Only b (b + 1) w w') : Tst w0 w' b A n c m' := ⟨hc, below_of_only h.on ho h.ge h.sz, h.by0, h.ge⟩
theorem Tst.alloc (h : Tst w0 w b A n c m) (o : Obj) : Tst w0 (w.alloc o) b A n c m := h.call (below1 w o)
theorem Tst.set (h : Tst w0 w b A n c m) (p : Addr) (hp : w0.heap.size ≤ p.block ∧ p.block ≠ b) (v : Value) : Tst w0 (w.setCell p v) b A n c m := by
  refine ⟨?_, h.on.setCell hp.1 v, h.by0, h.ge⟩
  obtain ⟨⟨k, s, g1, g2, g3, hx⟩, h3, h4, h5, h6⟩ := h.cur
  refine ⟨⟨k, s, g1, g2, g3, hx.blk (Below.heap_setCell _ _ _ _ (fun e => hp.2 e.symm))⟩, by simpa using h3, h4, ?_, h6⟩
  rcases Nat.eq_zero_or_pos n with e | e
  · subst e; exact fun i hi => absurd hi (by omega)
  · refine h5.block fun a ha _ => Below.heap_setCell _ _ _ _ ?_
    obtain ⟨a', x, hA, _, _, hc⟩ := h.by0 0 e
    rw [ha] at hA
    obtain rfl := Option.some.inj hA
    have := World.block_lt_of_cell? _ _ hc
    rw [block_add] at this
    omega
theorem Tst.puts {q : Nat} (h : Tst w0 w b A n c m) (hq : w0.heap.size ≤ q ∧ q ≠ b) : ∀ (o : Nat) (vs : List Value), Tst w0 (w.setCells q o vs) b A n c m := by
  intro o vs
  induction vs generalizing o w with
  | nil => exact h
  | cons v vs ih => exact ih (h.set ⟨q, o, none⟩ hq v) (o + 1)
end
/-! Many cells stored at once. -/
section
variable {w0 w : World} {q b : Nat} {A : Option Addr} {n c m : Nat}
theorem Std.puts (h : Std w0 w b A n c m) (hq : w0.heap.size ≤ q) : ∀ (o : Nat) (vs : List Value), Std w0 (w.setCells q o vs) b A n c m := by
  intro o vs
  induction vs generalizing o w with
  | nil => exact h
  | cons v vs ih => exact ih (h.set ⟨q, o, none⟩ hq v) (o + 1)
theorem heap_puts (w : World) (g k : Nat) (hne : k ≠ g) : ∀ (o : Nat) (vs : List Value), (w.setCells g o vs).heap[k]? = w.heap[k]? := by
  intro o vs
  induction vs generalizing o w with
  | nil => rfl
  | cons v vs ih => exact (ih (w.setCell ⟨g, o, none⟩ v) (o + 1)).trans (heap_setCell_other w ⟨g, o, none⟩ k v hne)
theorem Ty.puts {T : TypeId} (h : Ty w b T) (g : Nat) : ∀ (o : Nat) (vs : List Value), Ty (w.setCells g o vs) b T := by
  intro o vs
  induction vs generalizing o w with
  | nil => exact h
  | cons v vs ih => exact ih (h.set _ v) (o + 1)
theorem BT.putsfar {T : TypeId} {vs : List Value} (h : BT w q T vs) (g : Nat) (hne : q ≠ g) (o : Nat) (us : List Value) : BT (w.setCells g o us) q T vs :=
  ⟨h.box.blk (heap_puts w g q hne o us), h.ty.puts g o us⟩
theorem BT.there {T : TypeId} {vs : List Value} (h : BT w q T vs) : w.there q 0 vs.length := fun j hj => ⟨by rw [Nat.zero_add, h.box.1 j _ (List.getElem?_eq_getElem hj)]; rfl, by rw [Nat.zero_add]; exact h.box.2 j⟩
theorem BT.rng {T : TypeId} {vs : List Value} (h : BT w q T vs) : w.rangeAt q 0 vs := fun j v hv => by rw [Nat.zero_add]; exact h.box.1 j v hv
theorem BT.puts {T : TypeId} {vs : List Value} (h : BT w q T vs) (us : List Value) (hl : us.length = vs.length) : BT (w.setCells q 0 us) q T us := by
  refine ⟨⟨fun i v hi => ?_, fun i => ?_⟩, h.ty.puts q 0 us⟩
  · have hlt : i < us.length := (List.getElem?_eq_some_iff.1 hi).1
    have h1 := World.cell?_setCells_in q us 0 w (fun j hj => (h.there j (by omega)).1) i hlt
    rw [Nat.zero_add] at h1
    rw [h1, ← hi, List.getElem?_eq_getElem hlt]
  · rw [World.frozen?_setCells]; exact h.box.2 i
theorem OwD.puts {α : Type} {K : Kd α} {e lo : Nat} {P : Option Addr} {d : Nat} {xs : List α} {T : TypeId} (h : OwD K e lo w P d xs) (ht : Ty w q T) (hne : e ≠ T) : ∀ (o : Nat) (vs : List Value), OwD K e lo (w.setCells q o vs) P d xs := by
  intro o vs
  induction vs generalizing o w with
  | nil => exact h
  | cons v vs ih => exact ih (h.set ht hne o v) (ht.set _ v) (o + 1)
end
/-! An append onto a row of another type. -/
section
variable {w w' w0 : World} {base E size n oc : Nat} {O : Option Addr} {xs : List Value}
theorem grown_block {b : Nat} {cs : Array Value} {T : TypeId} {fr : Nat × Nat} (h : w.heap[b]? = some (.cells cs T fr)) (ho : w.ownsRow base E size (.slice O n oc) n xs) (hne : E ≠ T) (hg : w.grownBy w' (Value.slice O n oc).ownBlock) : w'.heap[b]? = w.heap[b]? := by
  have hl : b < w.heap.size := by
    rcases Nat.lt_or_ge b w.heap.size with h1 | h1
    · exact h1
    · rw [Array.getElem?_eq_none h1] at h; cases h
  exact hg.block b hl (fun e => own_off_type ho h hne e.symm)
theorem BT.grow {q : Nat} {T : TypeId} {vs : List Value} (h : BT w q T vs) (ho : w.ownsRow base E size (.slice O n oc) n xs) (hne : E ≠ T) (hg : w.grownBy w' (Value.slice O n oc).ownBlock) : BT w' q T vs := by
  obtain ⟨cs, fr, ht⟩ := h.ty
  have hk := grown_block ht ho hne hg
  exact ⟨h.box.blk hk, ⟨cs, fr, hk.trans ht⟩⟩
theorem OwD.grow {α : Type} {K : Kd α} {e lo : Nat} {A : Option Addr} {c : Nat} {ys : List α} (h : OwD K e lo w A c ys) (ho : w.ownsRow base E size (.slice O n oc) n xs) (hne : E ≠ e) (hg : w.grownBy w' (Value.slice O n oc).ownBlock) : OwD K e lo w' A c ys :=
  ⟨h.1.kept hg (own_two ho h.1 hne), h.2.1.mono hg.size, h.2.2⟩
theorem Std.grow {b : Nat} {A : Option Addr} {k c m : Nat} (h : Std w0 w b A k c m) (ho : w.ownsRow base E size (.slice O n oc) n xs) (hB : w0.heap.size ≤ base) (hg : w.grownBy w' (Value.slice O n oc).ownBlock) : Std w0 w' b A k c m :=
  h.callB (B := w0.heap.size) (below_of_grownBy hg h.sz (fun g e => Nat.le_trans hB (ho.lt g e).1)) (Nat.le_refl _)
end
end Go.Proofs.YtnnphhhjkhoglaaGreatDoor
namespace Go.Proofs.YtnnphhhjkhoglaaGreatDoor
open Go.RowKit
set_option linter.unusedVariables false
set_option linter.unusedSimpArgs false
attribute [local go_sem ↓] Go.wp_at_zero Go.wp_at_succ
theorem undo_no {ss : List ByteArray} {ps : List Amd} (h : undoB ss ps = false) : undoL ss ps = [] := by unfold undoL; rw [h]; rfl
theorem owQ_nil {lo hi : Nat} {w : World} : OwQ lo hi w none 0 [] := ⟨[], rfl, World.ownsRow_nil _ _ _ _, (fun a ha => by cases ha), ⟨by simp, (fun q hq => by simp at hq), by simp [cntV]⟩, (fun i hi => by simp at hi), (fun i j _ hj => by simp at hj), (fun i hi => by simp at hi)⟩
set_option maxHeartbeats 4000000 in
set_option maxRecDepth 100000 in
theorem UndoAmendments_any (T A : Option Addr) (t c : Nat) (ss : List ByteArray) (ps : List Amd) (w : World) (hT : Cells w T (strs ss)) (htc : ss.length ≤ t) (hfs : Fit ss) (hd : DLQ w A c ps) (hf : FitQ ps) :
    Calls Tryz.prog 9 #[.slice T ss.length t, .slice A ps.length c] w (ToQB w (undoL ss ps) (undoB ss ps)) := by
  have HT := Lib.hid hT
  have HD := Lib.hid hd
  have HF := Lib.hid hf
  have HFU := Lib.hid (undo_fit (ss := ss) hfs hf)
  have HCR := Lib.hid (canRebuild_any T A t c ss ps w hT hfs hd hf)
  have HX := Lib.hid (rebT_len ss ps)
  have hn := hf.1
  clear hT hd hf
  rcases Bool.eq_false_or_eq_true (rebB ss ps) with hr | hr
  · obtain ⟨h1, h2, h3, h4⟩ := rebB_parts hr
    have HG := Lib.hid (rebT_good (ss := ss) (ps := ps) ⟨h1, hfs⟩ (fun p hp => ⟨h4 p hp, HF.out.2.1 p hp⟩))
    have HV : Hid (∀ (k : Nat) (hk : k < ps.length), vldA ps[k] = true) := Lib.hid fun k hk => h4 _ (List.getElem_mem hk)
    clear h4
    rcases Bool.eq_false_or_eq_true (fullB ss ps) with hu | hu
    · have hfl : (rebT ss ps).length = ps.length + 1 := by unfold fullB at hu; rwa [decide_eq_true_eq] at hu
      have HU := Lib.hid (show undoB ss ps = true by unfold undoB; rw [hr, hu]; rfl)
      have HL := Lib.hid (show undoL ss ps = (invsL ss ps).reverse by unfold undoL; rw [HU.out]; rfl)
      have HST : Hid (∀ (k : Nat) (hk : k < ps.length), fitsB ((rebT ss ps)[k]'(by omega)) ps[k] = true ∧ (invsL ss ps)[k]'(by rw [invsL_len]; exact hk) = invA ((rebT ss ps)[k]'(by omega)) ps[k]) := Lib.hid fun k hk => rebT_full hfl hk
      have HIL := Lib.hid (invsL_len ss ps)
      rw [HU.out]
      go_enter Tryz.func9, Tryz.ntmps9
      go_wp2_with fail
      refine HCR.out.mono ?_
      rintro e w1 ⟨rfl, hb⟩
      rw [hr]
      have HB := Lib.hid hb
      clear hb
      go_wp2_with fail
      refine (rebuilt_any T A t c ss ps w1 (HT.out.below HB.out) htc ⟨h1, hfs⟩ (HD.out.below HB.out) HF.out h2).mono ?_
      rintro e w2 ⟨O, d, hs, rfl, ho, hb⟩
      have HB2 := Lib.hid (after HB.out hb)
      have HOT := Lib.hid ho
      rw [hfl]
      have q1 : ¬ ((ps.length + 1 : Nat) : Int) ≤ (ps.length : Int) := by omega
      have HO0 := Lib.hid (OwV.nil (own_nil_lit w2 w2.heap.size w2.heap.size 35 4 rfl (Nat.le_refl _)))
      have HBB := Lib.hid (below1 w2 (.cells #[] 35))
      clear ho hb
      go_wp2_with fail
      generalize w2.alloc (.cells #[] 35) = W0 at *
      go_loopw [7, 8] (fun u i wr => ∃ k : Nat, k ≤ ps.length ∧ i = .int .i64 ((k : Int) - 1) ∧ ∃ (qs : List Amd) (V : Option Addr) (vc : Nat) (vs : List AmH), Hid (qs = ((invsL ss ps).drop k).reverse) ∧ u = .slice V qs.length vc ∧ Hid (OwV w2.heap.size wr V vc qs vs) ∧ Hid (Below w2.heap.size w2 wr)) (fun _ i _ => (intOf i + 1).toNat)
      case atStart => exact ⟨ps.length, Nat.le_refl _, by go_num, [], _, _, _, Lib.hid (by rw [List.drop_of_length_le (by rw [invsL_len]; omega)]; rfl), rfl, HO0, HBB⟩
      case round =>
        clear HO0 HBB
        obtain ⟨wq, hwq⟩ : ∃ x : World, x = wr := ⟨_, rfl⟩
        subst hwq
        obtain ⟨k, hk, rfl, qs, V, vc, vs, HQ, rfl, HOV, HB3⟩ := hrel
        rcases Nat.eq_zero_or_pos k with h0 | h0
        · subst h0
          have HE := Lib.hid (show qs = undoL ss ps by rw [HL.out, HQ.out, List.drop_zero])
          have HB9 := Lib.hid (HB2.out.trans (HB3.out.mono HB2.out.size))
          have HOQ := Lib.hid ((HOV.out.own (by rw [HE.out]; exact HFU.out)).low HB2.out.size)
          clear HQ
          go_wp2
          go_ret2
          exact ⟨V, vc, by rw [← HE.out]; rfl, by rw [← HE.out]; exact HOQ.out, HB9.out⟩
        · obtain ⟨j, rfl⟩ : ∃ j, k = j + 1 := ⟨k - 1, by omega⟩
          have ej : ((j + 1 : Nat) : Int) - 1 = (j : Int) := by omega
          rw [ej]
          have hjl : j < ps.length := by omega
          have i0 : (0 : Int) ≤ (j : Int) := by omega
          have i1 : (j : Int) < (ps.length : Int) := by omega
          have i2 : (j : Int) < (ps.length : Int) + 1 := by omega
          obtain ⟨hfit, hinv⟩ := HST.out j hjl
          have HQ2 := Lib.hid (show qs ++ [invA ((rebT ss ps)[j]'(by omega)) ps[j]] = ((invsL ss ps).drop j).reverse by
            rw [List.drop_eq_getElem_cons (by rw [invsL_len]; exact hjl), List.reverse_cons, ← HQ.out, hinv])
          have hql : qs.length ≤ 8 := by rw [HQ.out, List.length_reverse, List.length_drop, HIL.out]; omega
          obtain ⟨g, C, cd, rfl, hgl, y0, hcd, hcc⟩ := (HOT.out.keep HB3.out).at_ (i := j) (by omega)
          obtain ⟨a0, B, d2, rfl, ⟨x0, x1, x2, x3⟩, hle, hcw⟩ := ((HD.out.below HB2.out).below HB3.out).at_ hjl
          have HGC := Lib.hid (HG.out ((rebT ss ps)[j]'(by omega)) (List.getElem_mem _))
          have HVA := Lib.hid (HV.out j hjl)
          obtain ⟨cur, hcur⟩ : ∃ x, Hid ((rebT ss ps)[j]'(by omega) = x) := ⟨_, Lib.hid rfl⟩
          obtain ⟨a, ha⟩ : ∃ x, Hid (ps[j] = x) := ⟨_, Lib.hid rfl⟩
          simp only [hcur.out, ha.out] at hfit HQ2 y0 hcd hcc x0 x1 x2 x3 hle hcw HGC HVA
          have HFI := Lib.hid hfit
          have hw5 := (vldA_range HVA.out).2.2.2.2.1
          have HCC := Lib.hid (Cells.of_own hcc)
          have HIK := Lib.hid (invK_eq (ss := cur) (a := a) (by unfold canB; rw [HGC.out.word, HVA.out, hfit]; rfl))
          have hWs := HB3.out.size
          clear hinv hfit hcc HQ hcw hle
          go_wp2_with fail
          refine wp_region_noPanic ?_
          refine wp_region_held_drew (S := (fun w' => Below w2.heap.size w2 w')) (by kernel_rfl) ?_ (fun hHeld => ?_)
          · ((try dsimp only); exact HB3.out.trans ((Below.refl _ _).drew.mono hWs))
          refine take_yes (i := 0) (d := 29) (v := ?_) rfl rfl (by kernel_rfl) (by kernel_rfl) (by kernel_rfl) (fun _ _ _ h => h) (by kernel_rfl) ?_ hHeld ?_
          rotate_left
          · (intro w hSw; (try dsimp only at hSw); go_simp; try (with_reducible rfl))
          try simp only [Act.put, List.setIfInBounds_toArray, List.set_cons_zero, List.set_cons_succ]
          refine take_yes (i := 1) (d := 30) (v := ?_) rfl rfl (by kernel_rfl) (by kernel_rfl) (by kernel_rfl) (fun _ _ _ h => h) (by kernel_rfl) ?_ hHeld ?_
          rotate_left
          · (intro w hSw; (try dsimp only at hSw); go_simp; try (with_reducible rfl))
          try simp only [Act.put, List.setIfInBounds_toArray, List.set_cons_zero, List.set_cons_succ]
          refine take_yes (i := 2) (d := 31) (v := ?_) rfl rfl (by kernel_rfl) (by kernel_rfl) (by kernel_rfl) (fun _ _ _ h => h) (by kernel_rfl) ?_ hHeld ?_
          rotate_left
          · (intro w hSw; (try dsimp only at hSw); go_simp; try (with_reducible rfl))
          try simp only [Act.put, List.setIfInBounds_toArray, List.set_cons_zero, List.set_cons_succ]
          refine take_yes (i := 3) (d := 32) (v := ?_) rfl rfl (by kernel_rfl) (by kernel_rfl) (by kernel_rfl) (fun _ _ _ h => h) (by kernel_rfl) ?_ hHeld ?_
          rotate_left
          · (intro w hSw; (try dsimp only at hSw); go_simp; try (with_reducible rfl))
          try simp only [Act.put, List.setIfInBounds_toArray, List.set_cons_zero, List.set_cons_succ]
          refine take_yes (i := 5) (d := 34) (v := ?_) rfl rfl (by kernel_rfl) (by kernel_rfl) (by kernel_rfl) (fun _ _ _ h => h) (by kernel_rfl) ?_ hHeld ?_
          rotate_left
          · (intro w hSw; (try dsimp only at hSw); go_simp; try (with_reducible rfl))
          try simp only [Act.put, List.setIfInBounds_toArray, List.set_cons_zero, List.set_cons_succ]
          refine take_yes (i := 6) (d := 35) (v := ?_) rfl rfl (by kernel_rfl) (by kernel_rfl) (by kernel_rfl) (fun _ _ _ h => h) (by kernel_rfl) ?_ hHeld ?_
          rotate_left
          · (intro w hSw; (try dsimp only at hSw); go_simp; try (with_reducible rfl))
          try simp only [Act.put, List.setIfInBounds_toArray, List.set_cons_zero, List.set_cons_succ]
          refine take_yes (i := 7) (d := 36) (v := ?_) rfl rfl (by kernel_rfl) (by kernel_rfl) (by kernel_rfl) (fun _ _ _ h => h) (by kernel_rfl) ?_ hHeld ?_
          rotate_left
          · (intro w hSw; (try dsimp only at hSw); go_simp; try (with_reducible rfl))
          try simp only [Act.put, List.setIfInBounds_toArray, List.set_cons_zero, List.set_cons_succ]
          refine wpAnyH_ready (rs := [4, 8]) (by kernel_rfl) (by simp) ?_
          refine AllReadyH.cons rfl (fun K hK => ?_) (AllReadyH.cons rfl (fun K hK => ?_) (AllReadyH.nil))
          · go_simp
            (first | refine hK.out _ _ ?_ (fun hHeld1 => ?_) | (go_wp2_with fail; refine hK.out _ _ ?_ (fun hHeld1 => ?_)))
            · ((try dsimp only); exact HB3.out.trans ((Below.refl _ _).drew.mono hWs))
            clear hK K hHeld
            have hHeld := hHeld1
            clear hHeld1
            try simp only [Act.put, List.setIfInBounds_toArray, List.set_cons_zero, List.set_cons_succ]
            refine wpAnyH_ready (rs := [8]) (by kernel_rfl) (by simp) ?_
            refine AllReadyH.cons rfl (fun K hK => ?_) (AllReadyH.nil)
            go_simp
            (first | refine hK.out _ _ ?_ (fun hHeld1 => ?_) | (go_wp2_with fail; refine hK.out _ _ ?_ (fun hHeld1 => ?_)))
            · ((try dsimp only); exact HB3.out.trans ((Below.refl _ _).drew.mono hWs))
            clear hK K hHeld
            have hHeld := hHeld1
            clear hHeld1
            try simp only [Act.put, List.setIfInBounds_toArray, List.set_cons_zero, List.set_cons_succ]
            refine wpAnyH_ready (rs := [9]) (by kernel_rfl) (by simp) ?_
            refine AllReadyH.cons rfl (fun K hK => ?_) (AllReadyH.nil)
            go_simp
            (go_at_call 25; refine (inverse_any C B cd d2 cur a _ (HCC.out.below (Below.refl _ _).drew) hcd HGC.out.fit (Small.of HVA.out) hw5 (fitsB_le HFI.out)).mono ?_; rw [HIK.out]; rintro e w3 ⟨N, nd, rfl, own, hb⟩; have HBN := Lib.hid ((Below.refl wq.heap.size wq).drew.trans hb); have HNO := Lib.hid own; have HBV := Lib.hid (HB3.out.trans (HBN.out.mono hWs)); clear hb own)
            (first | refine hK.out _ _ ?_ (fun hHeld1 => ?_) | (go_wp2_with fail; refine hK.out _ _ ?_ (fun hHeld1 => ?_)))
            · ((try dsimp only); exact HBV.out)
            clear hK K hHeld
            have hHeld := hHeld1
            clear hHeld1
            try simp only [Act.put, List.setIfInBounds_toArray, List.set_cons_zero, List.set_cons_succ]
            refine wpAnyH_ready (rs := [10]) (by kernel_rfl) (by simp) ?_
            refine AllReadyH.cons rfl (fun K hK => ?_) (AllReadyH.nil)
            try go_simp
            (first | refine hK.out _ _ ?_ (fun hHeld1 => ?_) | (go_wp2_with fail; refine hK.out _ _ ?_ (fun hHeld1 => ?_)))
            · ((try dsimp only); exact HBV.out.trans ((below1 w3 (.cells #[.int .i64 (invA cur a).k, .int .i64 (invA cur a).p, .int .i64 (invA cur a).n, .slice N (invA cur a).ws.length nd] 35)).mono HBV.out.size))
            clear hK K hHeld
            have hHeld := hHeld1
            clear hHeld1
            try simp only [Act.put, List.setIfInBounds_toArray, List.set_cons_zero, List.set_cons_succ]
            have HNC := Lib.hid (cells_arr w3 #[.int .i64 (invA cur a).k, .int .i64 (invA cur a).p, .int .i64 (invA cur a).n, .slice N (invA cur a).ws.length nd] 35 w3.heap.size rfl)
            have HOX := Lib.hid ((HOV.out.keep HBN.out).keep (below1 w3 (.cells #[.int .i64 (invA cur a).k, .int .i64 (invA cur a).p, .int .i64 (invA cur a).n, .slice N (invA cur a).ws.length nd] 35)))
            have HNO2 := Lib.hid (own_mono (own_alloc HNO.out (.cells #[.int .i64 (invA cur a).k, .int .i64 (invA cur a).p, .int .i64 (invA cur a).n, .slice N (invA cur a).ws.length nd] 35)) (show w2.heap.size ≤ wq.drew.heap.size from hWs))
            have HNB := Lib.hid (fun b (hb : N = some b) => (show wq.heap.size ≤ b.block from (HNO.out.lt b.block (by rw [hb]; rfl)).1))
            have hsx := hHeld.size
            have HB4 := Lib.hid hHeld
            refine wpAnyH_ready (rs := [11]) (by kernel_rfl) (by simp) ?_
            refine AllReadyH.cons rfl (fun K hK => ?_) (AllReadyH.nil)
            refine step_append_gr elAm _ (by rfl) _ _ (by rfl) w2.heap.size V (some ⟨w3.heap.size, 0, none⟩) vc qs.length 1 1 (AmHK.row vs) [.int .i64 (invA cur a).k, .int .i64 (invA cur a).p, .int .i64 (invA cur a).n, .slice N (invA cur a).ws.length nd] (by rfl) (by rfl) rfl HOX.out.2.1 HNC.out (fun u hu => amh_one (xs := [⟨_, _, _, N, _, nd⟩]) u hu) hsx (by omega) ?_
            intro V2 vc2 w5 own5 hb5 hg5
            have HO5 := Lib.hid (HOX.out.snoc (m := wq.heap.size) HNO2.out (fun i hi => HOV.out.under hi) HNB.out hg5 own5)
            have HB5 := Lib.hid (HB4.out.trans hb5)
            clear own5 hb5 hg5 hsx
            (first | refine hK.out _ _ ?_ (fun hHeld1 => ?_) | (go_wp2_with fail; refine hK.out _ _ ?_ (fun hHeld1 => ?_)))
            · ((try dsimp only); exact HB5.out)
            clear hK K hHeld
            have hHeld := hHeld1
            clear hHeld1
            try simp only [Act.put, List.setIfInBounds_toArray, List.set_cons_zero, List.set_cons_succ]
            refine take_yes (i := 12) (d := 7) (v := ?_) rfl rfl (by kernel_rfl) (by kernel_rfl) (by kernel_rfl) (fun _ _ _ h => h) (by kernel_rfl) ?_ hHeld ?_
            rotate_left
            · (intro w hSw; (try dsimp only at hSw); go_simp; try (with_reducible rfl))
            try simp only [Act.put, List.setIfInBounds_toArray, List.set_cons_zero, List.set_cons_succ]
            refine wpAnyH_done (by kernel_rfl) ?_ _
            refine NoPanic.normal ?_
            clear hHeld
            go_wp2
            go_roundw
            case rel => exact ⟨j, by omega, by go_num, qs ++ [invA cur a], V2, vc2, vs ++ [⟨_, _, _, N, _, nd⟩], HQ2, by simp, HO5, HB5⟩
            case measure => (first | (simp [intOf]; done) | (simp [intOf]; omega))
          · go_simp
            (first | refine hK.out _ _ ?_ (fun hHeld1 => ?_) | (go_wp2_with fail; refine hK.out _ _ ?_ (fun hHeld1 => ?_)))
            · ((try dsimp only); exact HB3.out.trans ((Below.refl _ _).drew.mono hWs))
            clear hK K hHeld
            have hHeld := hHeld1
            clear hHeld1
            try simp only [Act.put, List.setIfInBounds_toArray, List.set_cons_zero, List.set_cons_succ]
            refine wpAnyH_ready (rs := [4]) (by kernel_rfl) (by simp) ?_
            refine AllReadyH.cons rfl (fun K hK => ?_) (AllReadyH.nil)
            go_simp
            (first | refine hK.out _ _ ?_ (fun hHeld1 => ?_) | (go_wp2_with fail; refine hK.out _ _ ?_ (fun hHeld1 => ?_)))
            · ((try dsimp only); exact HB3.out.trans ((Below.refl _ _).drew.mono hWs))
            clear hK K hHeld
            have hHeld := hHeld1
            clear hHeld1
            try simp only [Act.put, List.setIfInBounds_toArray, List.set_cons_zero, List.set_cons_succ]
            refine wpAnyH_ready (rs := [9]) (by kernel_rfl) (by simp) ?_
            refine AllReadyH.cons rfl (fun K hK => ?_) (AllReadyH.nil)
            go_simp
            (go_at_call 25; refine (inverse_any C B cd d2 cur a _ (HCC.out.below (Below.refl _ _).drew) hcd HGC.out.fit (Small.of HVA.out) hw5 (fitsB_le HFI.out)).mono ?_; rw [HIK.out]; rintro e w3 ⟨N, nd, rfl, own, hb⟩; have HBN := Lib.hid ((Below.refl wq.heap.size wq).drew.trans hb); have HNO := Lib.hid own; have HBV := Lib.hid (HB3.out.trans (HBN.out.mono hWs)); clear hb own)
            (first | refine hK.out _ _ ?_ (fun hHeld1 => ?_) | (go_wp2_with fail; refine hK.out _ _ ?_ (fun hHeld1 => ?_)))
            · ((try dsimp only); exact HBV.out)
            clear hK K hHeld
            have hHeld := hHeld1
            clear hHeld1
            try simp only [Act.put, List.setIfInBounds_toArray, List.set_cons_zero, List.set_cons_succ]
            refine wpAnyH_ready (rs := [10]) (by kernel_rfl) (by simp) ?_
            refine AllReadyH.cons rfl (fun K hK => ?_) (AllReadyH.nil)
            try go_simp
            (first | refine hK.out _ _ ?_ (fun hHeld1 => ?_) | (go_wp2_with fail; refine hK.out _ _ ?_ (fun hHeld1 => ?_)))
            · ((try dsimp only); exact HBV.out.trans ((below1 w3 (.cells #[.int .i64 (invA cur a).k, .int .i64 (invA cur a).p, .int .i64 (invA cur a).n, .slice N (invA cur a).ws.length nd] 35)).mono HBV.out.size))
            clear hK K hHeld
            have hHeld := hHeld1
            clear hHeld1
            try simp only [Act.put, List.setIfInBounds_toArray, List.set_cons_zero, List.set_cons_succ]
            have HNC := Lib.hid (cells_arr w3 #[.int .i64 (invA cur a).k, .int .i64 (invA cur a).p, .int .i64 (invA cur a).n, .slice N (invA cur a).ws.length nd] 35 w3.heap.size rfl)
            have HOX := Lib.hid ((HOV.out.keep HBN.out).keep (below1 w3 (.cells #[.int .i64 (invA cur a).k, .int .i64 (invA cur a).p, .int .i64 (invA cur a).n, .slice N (invA cur a).ws.length nd] 35)))
            have HNO2 := Lib.hid (own_mono (own_alloc HNO.out (.cells #[.int .i64 (invA cur a).k, .int .i64 (invA cur a).p, .int .i64 (invA cur a).n, .slice N (invA cur a).ws.length nd] 35)) (show w2.heap.size ≤ wq.drew.heap.size from hWs))
            have HNB := Lib.hid (fun b (hb : N = some b) => (show wq.heap.size ≤ b.block from (HNO.out.lt b.block (by rw [hb]; rfl)).1))
            have hsx := hHeld.size
            have HB4 := Lib.hid hHeld
            refine wpAnyH_ready (rs := [11]) (by kernel_rfl) (by simp) ?_
            refine AllReadyH.cons rfl (fun K hK => ?_) (AllReadyH.nil)
            refine step_append_gr elAm _ (by rfl) _ _ (by rfl) w2.heap.size V (some ⟨w3.heap.size, 0, none⟩) vc qs.length 1 1 (AmHK.row vs) [.int .i64 (invA cur a).k, .int .i64 (invA cur a).p, .int .i64 (invA cur a).n, .slice N (invA cur a).ws.length nd] (by rfl) (by rfl) rfl HOX.out.2.1 HNC.out (fun u hu => amh_one (xs := [⟨_, _, _, N, _, nd⟩]) u hu) hsx (by omega) ?_
            intro V2 vc2 w5 own5 hb5 hg5
            have HO5 := Lib.hid (HOX.out.snoc (m := wq.heap.size) HNO2.out (fun i hi => HOV.out.under hi) HNB.out hg5 own5)
            have HB5 := Lib.hid (HB4.out.trans hb5)
            clear own5 hb5 hg5 hsx
            (first | refine hK.out _ _ ?_ (fun hHeld1 => ?_) | (go_wp2_with fail; refine hK.out _ _ ?_ (fun hHeld1 => ?_)))
            · ((try dsimp only); exact HB5.out)
            clear hK K hHeld
            have hHeld := hHeld1
            clear hHeld1
            try simp only [Act.put, List.setIfInBounds_toArray, List.set_cons_zero, List.set_cons_succ]
            refine take_yes (i := 12) (d := 7) (v := ?_) rfl rfl (by kernel_rfl) (by kernel_rfl) (by kernel_rfl) (fun _ _ _ h => h) (by kernel_rfl) ?_ hHeld ?_
            rotate_left
            · (intro w hSw; (try dsimp only at hSw); go_simp; try (with_reducible rfl))
            try simp only [Act.put, List.setIfInBounds_toArray, List.set_cons_zero, List.set_cons_succ]
            refine wpAnyH_done (by kernel_rfl) ?_ _
            refine NoPanic.normal ?_
            clear hHeld
            go_wp2
            go_roundw
            case rel => exact ⟨j, by omega, by go_num, qs ++ [invA cur a], V2, vc2, vs ++ [⟨_, _, _, N, _, nd⟩], HQ2, by simp, HO5, HB5⟩
            case measure => (first | (simp [intOf]; done) | (simp [intOf]; omega))
    · have HU := Lib.hid (show undoB ss ps = false by unfold undoB; rw [hu]; simp)
      have hfl : (rebT ss ps).length ≤ ps.length := by
        unfold fullB at hu
        have h9 := of_decide_eq_false hu
        have := HX.out.2
        omega
      rw [undo_no HU.out, HU.out]
      go_enter Tryz.func9, Tryz.ntmps9
      go_wp2_with fail
      refine HCR.out.mono ?_
      rintro e w1 ⟨rfl, hb⟩
      rw [hr]
      have HB := Lib.hid hb
      clear hb
      go_wp2_with fail
      refine (rebuilt_any T A t c ss ps w1 (HT.out.below HB.out) htc ⟨h1, hfs⟩ (HD.out.below HB.out) HF.out h2).mono ?_
      rintro e w2 ⟨O, d, hs, rfl, ho, hb⟩
      have HB2 := Lib.hid (after HB.out hb)
      have q1 : ((rebT ss ps).length : Int) ≤ (ps.length : Int) := by omega
      clear ho hb
      go_wp2
      go_ret2
      exact ⟨none, 0, rfl, owQ_nil, HB2.out⟩
  · have HU := Lib.hid (show undoB ss ps = false by unfold undoB; rw [hr]; simp)
    rw [undo_no HU.out, HU.out]
    go_enter Tryz.func9, Tryz.ntmps9
    go_wp2_with fail
    refine HCR.out.mono ?_
    rintro e w1 ⟨rfl, hb⟩
    rw [hr]
    go_wp2
    go_ret2
    exact ⟨none, 0, rfl, owQ_nil, hb⟩
end Go.Proofs.YtnnphhhjkhoglaaGreatDoor
namespace Go.Proofs.YtnnphhhjkhoglaaGreatDoor
open Go.RowKit
set_option linter.unusedVariables false
set_option linter.unusedSimpArgs false
theorem OwQ.high {lo hi hi' : Nat} {w : World} {A : Option Addr} {c : Nat} {ps : List Amd} (h : OwQ lo hi w A c ps) (hl : hi ≤ hi') : OwQ lo hi' w A c ps := by
  obtain ⟨hs, h1, h2, h3, h4, h5, h6⟩ := h
  exact ⟨hs, h1, h2, h3.mono hl, h4, fun i hi hi' => ⟨(h5 i hi hi').1, (h5 i hi hi').2.1, (h5 i hi hi').2.2.1.mono hl, (h5 i hi hi').2.2.2⟩, h6⟩
theorem undo_part {ss : List ByteArray} {ps : List Amd} (h : rebB ss ps = false) : undoB ss ps = false := by unfold undoB; rw [h]; rfl
theorem owQ_lit {w : World} {B : Nat} (hB : B ≤ w.heap.size) : OwQ B (w.alloc (.cells #[] 35)).heap.size (w.alloc (.cells #[] 35)) (some ⟨w.heap.size, 0, none⟩) 0 [] :=
  (OwV.nil (own_nil_lit w B w.heap.size 35 4 rfl hB)).own ⟨by simp, (fun q hq => by simp at hq), by simp [cntV]⟩
set_option maxHeartbeats 4000000 in
set_option maxRecDepth 100000 in
theorem sUndoAmendments_any (T A : Option Addr) (t c : Nat) (ss : List ByteArray) (ps : List Amd) (w : World) (hT : Cells w T (strs ss)) (htc : ss.length ≤ t) (hfs : Fit ss) (hd : DLQ w A c ps) (hf : FitQ ps) :
    Calls Tryz.prog 10 #[.slice T ss.length t, .slice A ps.length c] w (ToQB w (undoL ss ps) (undoB ss ps)) := by
  have hbl := below1 w (.cells #[] 35)
  have HT := Lib.hid (hT.below hbl)
  have HD := Lib.hid (hd.below hbl)
  have HF := Lib.hid hf
  have HFU := Lib.hid (undo_fit (ss := ss) hfs hf)
  have HBL := Lib.hid hbl
  have HO0 := Lib.hid (OwV.nil (own_nil_lit w w.heap.size w.heap.size 35 4 rfl (Nat.le_refl _)))
  have HQ0 := Lib.hid (owQ_lit (w := w) (B := w.heap.size) (Nat.le_refl _))
  have hn := hf.1
  clear hT hd hf hbl
  rcases Bool.eq_false_or_eq_true (wordsB ss 0 20) with h1 | h1
  · rcases Bool.eq_false_or_eq_true (listB ps) with h2 | h2
    · have hr : rebB ss ps = true := by unfold rebB; rw [h1, h2]; rfl
      obtain ⟨_, _, h3, h4⟩ := rebB_parts hr
      have HG := Lib.hid (show GoodT ss from ⟨h1, hfs⟩)
      have hsl := HG.out.len
      have HV : Hid (∀ (k : Nat) (hk : k < ps.length), vldA ps[k] = true ∧ Fit ps[k].ws) := Lib.hid fun k hk => ⟨h4 _ (List.getElem_mem hk), HF.out.2.1 _ (List.getElem_mem hk)⟩
      have HNO := Lib.hid (fun (pre : List (List ByteArray)) (cur : List ByteArray) (he : rebT ss ps = pre ++ [cur]) (hl : pre.length < ps.length) => (show undoB ss ps = false ∧ undoL ss ps = [] from by
        have h9 : undoB ss ps = false := by unfold undoB fullB; rw [he, decide_eq_false (by simp; omega)]; simp
        exact ⟨h9, undo_no h9⟩))
      have HYE := Lib.hid (fun (pre : List (List ByteArray)) (cur : List ByteArray) (us : List Amd) (he : rebT ss ps = pre ++ [cur]) (hl : pre.length = ps.length) (hi : invsL ss ps = us.reverse) => (show undoB ss ps = true ∧ undoL ss ps = us from by
        have h9 : undoB ss ps = true := by unfold undoB fullB; rw [hr, he, decide_eq_true (by simp; omega)]; simp
        exact ⟨h9, by unfold undoL; rw [h9, hi]; simp⟩))
      clear h4
      go_enter Tryz.func10, Tryz.ntmps10
      go_upto_region 2 with fail
      generalize w.alloc (.cells #[] 35) = w0 at *
      go_upto_region 4 with (first
        | (go_at_call 21; refine (l9Text_any T t ss w0 HT.out hfs.1 hfs.2).mono ?_; rintro e w1 ⟨rfl, rfl⟩; rw [h1])
        | (go_at_call 22; refine (l9List_any A c ps w0 HD.out HF.out).mono ?_; rintro e w1 ⟨rfl, hb⟩; rw [h2]; have HO0 := Lib.hid (HO0.out.keep hb); have HT := Lib.hid (HT.out.below hb); have HD := Lib.hid (HD.out.below hb); have HB := Lib.hid (HBL.out.trans (hb.mono HBL.out.size)); clear hb))
      go_upto_region 5 with (at_builtin; go_must (refine list_append_lit elStr _ rfl _ _ rfl w.heap.size w1.heap.size T ss.length t (strs ss) rfl rfl (strs_len1 ss) (own_nil_lit w1 _ _ _ _ rfl HB.out.size) (HT.out.alloc_ _) strs_one (by have := HB.out.size; simp; omega) (by omega) ?_); intro O1 d1 w2 own hb hq; have HO1 := Lib.hid own; have hbx := (below1 w1 (.cells #[] 9)).trans (hb.mono (by simp)); have HD := Lib.hid (HD.out.below hbx); have HO0 := Lib.hid (HO0.out.keep hbx); have HB2 := Lib.hid (HB.out.trans (hbx.mono HB.out.size)); clear own hb hq hbx)
      go_wp2_with fail
      go_loopw [6, 7, 8] (fun v u i wr => ∃ k : Nat, k ≤ ps.length ∧ i = .int .i64 k ∧ ∃ (pre : List (List ByteArray)) (cur : List ByteArray) (O : Option Addr) (oc : Nat) (us : List Amd) (U : Option Addr) (uc : Nat) (hs : List AmH), pre.length = k ∧ us.length = k ∧ Hid (rebT ss ps = pre ++ rebT cur (ps.drop k)) ∧ Hid (invsL ss ps = us.reverse ++ invsL cur (ps.drop k)) ∧ u = .slice O cur.length oc ∧ v = .slice U us.length uc ∧ Hid (GoodT cur) ∧ Hid (wr.ownsRow w.heap.size 9 1 (.slice O cur.length oc) cur.length (strs cur)) ∧ Hid (OwV w.heap.size wr U uc us hs) ∧ Hid (DLQ wr A c ps) ∧ Hid (Below w.heap.size w wr)) (fun _ _ i _ => ps.length - (intOf i).toNat)
      case atStart => exact ⟨0, Nat.zero_le _, rfl, [], ss, _, _, [], _, _, _, rfl, rfl, Lib.hid (by simp), Lib.hid (by simp), rfl, rfl, HG, HO1, HO0, HD, HB2⟩
      case round =>
        clear HO1 HB2 HO0 HD
        obtain ⟨wq, hwq⟩ : ∃ x : World, x = wr := ⟨_, rfl⟩
        subst hwq
        obtain ⟨k, hk, rfl, pre, cur, O, oc, us, U, uc, hs, hpl, hul, HR, HI, rfl, rfl, HGC, HOW, HOU, HD, HB3⟩ := hrel
        by_cases hlt : k < ps.length
        · obtain ⟨a0, B, d, rfl, ⟨hc0, hc1, hc2, hc3⟩, hle, hcw⟩ := HD.out.at_ hlt
          have i1 : (k : Int) < (ps.length : Int) := by omega
          have HVA := Lib.hid (HV.out _ hlt).1
          have HFA := Lib.hid (HV.out _ hlt).2
          have HS1 := Lib.hid (chain_step hlt HR.out)
          have HS2 := Lib.hid (chain_stop hlt HR.out)
          have HI2 := Lib.hid (show invsL ss ps = (invA cur ps[k] :: us).reverse ++ invsL (amdL cur ps[k]) (ps.drop (k + 1)) by rw [HI.out, List.drop_eq_getElem_cons hlt, invsL]; simp)
          obtain ⟨a, ha⟩ : ∃ a, Hid (ps[k] = a) := ⟨_, Lib.hid rfl⟩
          rw [ha.out] at hc0 hc1 hc2 hc3 hle hcw HVA HFA HS1 HS2 HI2
          have hw5 := (vldA_range HVA.out).2.2.2.2.1
          have HCW := Lib.hid hcw
          have HPL := Lib.hid hpl
          have HUL := Lib.hid hul
          have hu8 : us.length ≤ 8 := by omega
          have HFT := Lib.hid (l9Fits_any O B oc d cur a wq (Cells.of_own HOW.out) (own_cap HOW.out) HGC.out.fit hcw HFA.out HVA.out)
          clear hcw hpl hul HR HI
          rcases Bool.eq_false_or_eq_true (fitsB cur a) with hz | hz
          · have HS := Lib.hid (HS1.out hz)
            clear HS1 HS2
            go_wp2_with fail
            refine HFT.out.mono ?_
            rintro e w3 ⟨rfl, hb⟩
            rw [hz]
            have n0 := (hb.cell (World.block_lt_of_cell? _ _ hc0)).trans hc0
            have n1 := (hb.cell (World.block_lt_of_cell? _ _ hc1)).trans hc1
            have n2 := (hb.cell (World.block_lt_of_cell? _ _ hc2)).trans hc2
            have n3 := (hb.cell (World.block_lt_of_cell? _ _ hc3)).trans hc3
            have HB4 := Lib.hid (after HB3.out hb)
            have HCC := Lib.hid (own_keep HOW.out hb)
            have HCW3 := Lib.hid (HCW.out.below hb)
            have HOU3 := Lib.hid (HOU.out.keep hb)
            have HD3 := Lib.hid (HD.out.below hb)
            clear hb hc0 hc1 hc2 hc3
            go_wp2_with fail
            refine (l9Inverse_any O B oc d cur a w3 (Cells.of_own HCC.out) (own_cap HCC.out) HGC.out.fit (Small.of HVA.out) hw5 (fitsB_le hz)).mono ?_
            rintro e w4 ⟨N, nd, rfl, own, hb⟩
            have HOU4 := Lib.hid ((HOU3.out.keep hb).keep (below1 w4 (.cells #[.int .i64 (invA cur a).k, .int .i64 (invA cur a).p, .int .i64 (invA cur a).n, .slice N (invA cur a).ws.length nd] 35)))
            have HNO := Lib.hid (own_mono (own_alloc own (.cells #[.int .i64 (invA cur a).k, .int .i64 (invA cur a).p, .int .i64 (invA cur a).n, .slice N (invA cur a).ws.length nd] 35)) HB4.out.size)
            have HP := Lib.hid (And.intro n0 (And.intro n1 (And.intro n2 n3)))
            have HNB := Lib.hid (fun b (hb' : N = some b) => (show w3.heap.size ≤ b.block from (own.lt b.block (by rw [hb']; rfl)).1))
            have HUN := Lib.hid (fun i (hi : i < hs.length) => HOU3.out.under hi)
            have HLIT : Hid ((w4.alloc (.cells #[.int .i64 (invA cur a).k, .int .i64 (invA cur a).p, .int .i64 (invA cur a).n, .slice N (invA cur a).ws.length nd] 35)).ownsRow w4.heap.size 35 4 (.slice (some ⟨w4.heap.size, 0, none⟩) 1 1) 1 [.int .i64 (invA cur a).k, .int .i64 (invA cur a).p, .int .i64 (invA cur a).n, .slice N (invA cur a).ws.length nd]) := Lib.hid (World.ownsRow_lit w4 #[_, _, _, _] 1 (Nat.le_refl _) (by unfold maxLen; omega) (by rfl))
            have HB34 := Lib.hid hb
            have HZ5 := Lib.hid (Nat.le_trans HB4.out.size hb.size)
            clear own hb n0 n1 n2 n3
            have hsz : w4.heap.size ≤ (w4.alloc (.cells #[.int .i64 (invA cur a).k, .int .i64 (invA cur a).p, .int .i64 (invA cur a).n, .slice N (invA cur a).ws.length nd] 35)).heap.size := by simp
            go_upto_region 11 with (at_builtin; go_must (refine list_append_gr elAm _ rfl _ _ rfl w4.heap.size (some ⟨w4.heap.size, 0, none⟩) U 1 1 us.length uc [.int .i64 (invA cur a).k, .int .i64 (invA cur a).p, .int .i64 (invA cur a).n, .slice N (invA cur a).ws.length nd] (AmHK.row hs) rfl rfl (by rw [AmHK.row_len, HOU4.out.1]; rfl) HLIT.out (Cells.of_own HOU4.out.2.1) amh_one hsz (by omega) ?_); intro U2 uc2 w5 own5 hb5 hg5; have HOU5 := Lib.hid (OwV.cons (m := w3.heap.size) HOU4.out HNO.out HUN.out HNB.out (own_mono HLIT.out HZ5.out) hg5 (own_mono own5 HZ5.out)); have HB35 := Lib.hid (HB34.out.trans (((below1 w4 (.cells #[.int .i64 (invA cur a).k, .int .i64 (invA cur a).p, .int .i64 (invA cur a).n, .slice N (invA cur a).ws.length nd] 35)).trans hb5).mono HB34.out.size)); clear own5 hb5 hg5)
            have n0 := (HB35.out.cell (World.block_lt_of_cell? _ _ HP.out.1)).trans HP.out.1
            have n1 := (HB35.out.cell (World.block_lt_of_cell? _ _ HP.out.2.1)).trans HP.out.2.1
            have n2 := (HB35.out.cell (World.block_lt_of_cell? _ _ HP.out.2.2.1)).trans HP.out.2.2.1
            have n3 := (HB35.out.cell (World.block_lt_of_cell? _ _ HP.out.2.2.2)).trans HP.out.2.2.2
            have HCC5 := Lib.hid (own_keep HCC.out HB35.out)
            have HCW5 := Lib.hid (HCW3.out.below HB35.out)
            have HD5 := Lib.hid (HD3.out.below HB35.out)
            have HB5 := Lib.hid (after HB4.out HB35.out)
            go_wp2_with fail
            refine (l9Apply_any O B oc d cur a w5 (Cells.of_own HCC5.out) (own_cap HCC5.out) HGC.out.fit HCW5.out HFA.out (Small.of HVA.out) (fitsB_le hz) hw5 HGC.out.len).mono ?_
            rintro e w6 ⟨M, md, rfl, own, hb⟩
            have HO6 := Lib.hid (own_mono own HB5.out.size)
            have HOU6 := Lib.hid (HOU5.out.keep hb)
            have HD6 := Lib.hid (HD5.out.below hb)
            have HB6 := Lib.hid (after HB5.out hb)
            clear own hb n0 n1 n2 n3
            go_wp2
            go_roundw
            case rel => exact ⟨k + 1, hlt, by go_num, pre ++ [cur], amdL cur a, M, md, invA cur a :: us, U2, uc2, _, by simp; exact HPL.out, by simp; exact HUL.out, HS, HI2, rfl, by rw [List.length_cons, Nat.add_comm], Lib.hid (HGC.out.step HVA.out hz HFA.out), HO6, HOU6, HD6, HB6⟩
            case measure => simp [intOf]; omega
          · have HE := Lib.hid (HNO.out _ _ (HS2.out hz) (by rw [HPL.out]; exact hlt))
            clear HS1 HS2
            go_wp2_with fail
            refine HFT.out.mono ?_
            rintro e w3 ⟨rfl, hb⟩
            rw [hz]
            have HB4 := Lib.hid (after HB3.out hb)
            have HQ := Lib.hid (owQ_lit (w := w3) (B := w.heap.size) HB4.out.size)
            clear hb hc0 hc1 hc2 hc3
            go_wp2
            go_ret2
            exact ⟨_, _, by rw [HE.out.1, HE.out.2]; rfl, by rw [HE.out.2]; exact HQ.out, HB4.out.trans ((below1 w3 _).mono HB4.out.size)⟩
        · obtain rfl : k = ps.length := by omega
          have HE := Lib.hid (HYE.out pre cur us (chain_end HR.out) hpl (by have h9 := HI.out; rw [List.drop_length] at h9; simpa [invsL] using h9))
          have HOQ := Lib.hid (HOU.out.own (by rw [← HE.out.2]; exact HFU.out))
          clear hpl hul HR HI
          go_wp2
          go_ret2
          exact ⟨U, uc, by rw [HE.out.1, HE.out.2]; rfl, by rw [HE.out.2]; exact HOQ.out, HB3.out⟩
    · have hr := undo_part (show rebB ss ps = false by unfold rebB; rw [h2]; simp)
      rw [undo_no hr, hr]
      go_enter Tryz.func10, Tryz.ntmps10
      go_upto_region 2 with fail
      generalize w.alloc (.cells #[] 35) = w0 at *
      go_wp2_with (first
        | (go_at_call 21; refine (l9Text_any T t ss w0 HT.out hfs.1 hfs.2).mono ?_; rintro e w1 ⟨rfl, rfl⟩; rw [h1])
        | (go_at_call 22; refine (l9List_any A c ps w0 HD.out HF.out).mono ?_; rintro e w1 ⟨rfl, hb⟩; rw [h2]; have HQ := Lib.hid (HQ0.out.below hb (Nat.le_refl _)); have HZ := Lib.hid hb.size; have HB := Lib.hid (HBL.out.trans (hb.mono HBL.out.size)); clear hb))
      go_ret2
      exact ⟨_, _, rfl, (OwQ.high HQ.out HZ.out), HB.out⟩
  · have hr := undo_part (show rebB ss ps = false by unfold rebB; rw [h1]; simp)
    rw [undo_no hr, hr]
    go_enter Tryz.func10, Tryz.ntmps10
    go_upto_region 2 with fail
    generalize w.alloc (.cells #[] 35) = w0 at *
    go_wp2_with (go_at_call 21; refine (l9Text_any T t ss w0 HT.out hfs.1 hfs.2).mono ?_; rintro e w1 ⟨rfl, rfl⟩; rw [h1])
    go_ret2
    exact ⟨_, _, rfl, HQ0.out, HBL.out⟩
end Go.Proofs.YtnnphhhjkhoglaaGreatDoor
