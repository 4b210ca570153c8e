/- The draws of FnAmendments. Conditions: the ranges named. -/
import Derived.Test.YtgchbimjgdoifaaCu1
import Derived.Test.YtgchbimjgdoifaaInv
import Derived.Test.YtgchbimjgdoifaaAgr
import Derived.Test.YtgchbimjgdoifaaDo
import Derived.Deep.Cut
import Derived.Deep.DeepCutAuto
import Derived.Test.YtgchbimjgdoifaaDk4L
import Derived.Test.YtgchbimjgdoifaaOb3
import Derived.Test.YtgchbimjgdoifaaMk
import Derived.Test.YtgchbimjgdoifaaInts
import Derived.Test.YtgchbimjgdoifaaSg
import Derived.Test.YtgchbimjgdoifaaInv3
namespace Go.Proofs.Ytgchbimjgdoifaa
open Go.RowKit
set_option linter.unusedVariables false
set_option linter.unusedSimpArgs false
theorem Cur.belowB {w0 w w' : World} {b B : Nat} {A : Option Addr} {n c m : Nat} (h0 : BytesC w0 A n) (h : Cur w b A n c m) (hb : Below B w w') (hB : w0.heap.size ≤ B) (hlt : b < B) : Cur w' b A n c m := by
  obtain ⟨⟨k, s, h1, h2, h2', hx⟩, h3, h4, h5, h6⟩ := h
  refine ⟨⟨k, s, h1, h2, h2', hx.blk (hb.block b hlt)⟩, Nat.lt_of_lt_of_le h3 hb.size, h4, ?_, h6⟩
  rcases Nat.eq_zero_or_pos n with e | e
  · subst e; exact fun i hi => absurd hi (by omega)
  · refine h5.block fun a ha hl => hb.block _ ?_
    obtain ⟨a', x, hA, _, _, hc⟩ := h0 0 e
    rw [ha] at hA
    obtain rfl := Option.some.inj hA
    have := World.block_lt_of_cell? _ _ hc
    rw [block_add] at this
    omega
theorem Only.of_belowB {lo hi B : Nat} {w0 w w' : World} (h : Only lo hi w0 w) (hb : Below B w w') (hB : w0.heap.size ≤ B) : Only lo hi w0 w' :=
  ⟨hb.os.trans h.os, hb.tape.trans h.tape, hb.output.trans h.output, Nat.le_trans h.size hb.size, fun k hk ho => (hb.block k (Nat.lt_of_lt_of_le hk hB)).trans (h.block k hk ho)⟩
/-- A number from 0 on, below k or 0. -/
theorem pickZ_any (k : Int) (hk : k ≤ 200) (b : Nat) (A : Option Addr) (n c m : Nat) (w : World) (h : Cur w b A n c m) (hm : m ≤ 1000000) :
    Calls Try.prog 114 #[.pointer (some ⟨b, 0, none⟩), .int .i64 k] w fun e w' => (∃ x : Nat, e = .returned (.int .i64 x) ∧ (x = 0 ∨ (x : Int) < k)) ∧ Cur w' b A n c (m + 1) ∧ Only b (b + 1) w w' := by
  by_cases h1 : k ≤ 1
  · have HC := Lib.hid (h.mono (Nat.le_succ m))
    clear h
    go_enter Try.func114, Try.ntmps114
    go_wp2
    go_ret
    exact ⟨⟨0, by first | rfl | simp, .inl rfl⟩, HC.out, Only.refl'⟩
  · obtain ⟨j, rfl⟩ : ∃ j : Nat, k = (j : Int) := ⟨k.toNat, by omega⟩
    exact (pick_any j (by omega) (by omega) b A n c m w h hm).mono fun e w' ⟨⟨x, he, hx⟩, hr⟩ => ⟨⟨x, he, .inr (by omega)⟩, hr⟩
theorem one_any (k : Nat) (hk1 : 2 ≤ k) (hk : k ≤ 200) (b : Nat) (A : Option Addr) (n c m : Nat) (w : World) (h : Cur w b A n c m) (hm : m ≤ 1000000) :
    Calls Try.prog 86 #[.pointer (some ⟨b, 0, none⟩), .int .i64 k] w fun e w' => (∃ x : Bool, e = .returned (.bool x)) ∧ Cur w' b A n c (m + 1) ∧ Only b (b + 1) w w' := by
  have H := Lib.hid h
  clear h
  go_enter Try.func86, Try.ntmps86
  go_wp2_with fail
  refine (pick_any k hk1 hk b A n c m _ H.out hm).mono ?_
  rintro e w1 ⟨⟨x, rfl, hx⟩, hc, ho⟩
  have HC := Lib.hid hc
  have HO := Lib.hid ho
  clear hc ho
  obtain ⟨z, hz⟩ : ∃ z, ((x : Int) == 0) = z := ⟨_, rfl⟩
  go_wp2
  go_ret
  exact ⟨⟨_, rfl⟩, HC.out, HO.out⟩
theorem of_any (xs : List ByteArray) (L : Option Addr) (lc : Nat) (h2 : 2 ≤ xs.length) (h200 : xs.length ≤ 200) (b : Nat) (A : Option Addr) (n c m : Nat) (w : World) (h : Cur w b A n c m) (hm : m ≤ 1000000) (hL : Cells w L (strs xs)) (hoff : ∀ a, L = some a → a.block ≠ b) :
    Calls Try.prog 115 #[.pointer (some ⟨b, 0, none⟩), .slice L xs.length lc] w fun e w' => (∃ x : ByteArray, e = .returned (.string x) ∧ x ∈ xs) ∧ Cur w' b A n c (m + 1) ∧ Only b (b + 1) w w' := by
  have H := Lib.hid h
  have HL := Lib.hid hL
  have HF := Lib.hid hoff
  clear h hL hoff
  go_enter Try.func115, Try.ntmps115
  go_wp2_with fail
  refine (pick_any xs.length h2 h200 b A n c m _ H.out hm).mono ?_
  rintro e w1 ⟨⟨j, rfl, hj⟩, hc, ho⟩
  have HC := Lib.hid hc
  have HO := Lib.hid ho
  obtain ⟨a, hLa, hcj⟩ := (HL.out.block2 (w' := w1) (fun a ha hl => ho.block _ hl (by have := HF.out a ha; omega))) j (.string xs[j]) (strs_get hj)
  have HM := Lib.hid (List.getElem_mem hj)
  obtain ⟨x, hx⟩ : ∃ x, xs[j] = x := ⟨_, rfl⟩
  rw [hx] at hcj HM
  have i1 : (j : Int) < (xs.length : Int) := by omega
  subst hLa
  clear hc ho hx
  go_wp2
  go_ret
  exact ⟨⟨x, rfl, HM.out⟩, HC.out, HO.out⟩
/-- Words of at most 11 bytes. -/
def Short (ss : List ByteArray) : Prop := ∀ s ∈ ss, s.size ≤ 11
theorem Short.snoc {ss : List ByteArray} {s : ByteArray} (h : Short ss) (hs : s.size ≤ 11) : Short (ss ++ [s]) := fun x hx => by
  rcases List.mem_append.1 hx with h1 | h1
  · exact h x h1
  · simp at h1; subst h1; exact hs
theorem Short.fit {ss : List ByteArray} (h : Short ss) (hn : ss.length ≤ 1000) : Fit ss := ⟨by omega, fun s hs => Nat.le_trans (h s hs) (by unfold maxLen; omega)⟩
def wd8 : List ByteArray := [⟨#[116, 104, 101]⟩, ⟨#[102, 101, 101]⟩, ⟨#[105, 115]⟩, ⟨#[116, 101, 110]⟩, ⟨#[115, 104, 97, 108, 108]⟩, ⟨#[110, 111, 116]⟩, ⟨#[98, 101]⟩, ⟨#[112, 97, 105, 100]⟩]
theorem wd8_short : ∀ s ∈ wd8, s.size ≤ 11 := by
  intro s hs
  simp only [wd8, List.mem_cons, List.not_mem_nil, or_false] at hs
  rcases hs with rfl | rfl | rfl | rfl | rfl | rfl | rfl | rfl <;> decide
set_option maxHeartbeats 2000000 in
theorem words_any (k : Nat) (hk1 : 1 ≤ k) (hk : k ≤ 100) (b : Nat) (A : Option Addr) (n c m : Nat) (w : World) (h : Cur w b A n c m) (hm : m ≤ 900000) :
    Calls Try.prog 89 #[.pointer (some ⟨b, 0, none⟩), .int .i64 k] w fun e w' => ∃ (O : Option Addr) (d : Nat) (ss : List ByteArray), e = .returned (.slice O ss.length d) ∧ ss.length ≤ k ∧ Short ss ∧ w'.ownsRow w.heap.size 9 1 (.slice O ss.length d) ss.length (strs ss) ∧ Cur w' b A n c (m + 1 + k) ∧ Only b (b + 1) w w' := by
  have HB0 := Lib.hid h.bytes
  have hlt := h.lt
  have HC := Lib.hid (h.below (below1 w (.cells #[] 9)))
  have HO := Lib.hid (own_nil_lit w w.heap.size w.heap.size 9 1 rfl (Nat.le_refl _))
  have HN := Lib.hid (show Only b (b + 1) w (w.alloc (.cells #[] 9)) from Only.of_below (below1 w _))
  have hz : b < (w.alloc (.cells #[] 9)).heap.size := by simp; omega
  clear h
  go_enter Try.func89, Try.ntmps89
  go_upto_region 2 with fail
  generalize w.alloc (.cells #[] 9) = W at *
  have q1 : IntKind.i64.wrap ((k : Int) + 1) = ((k + 1 : Nat) : Int) := by rw [IntKind.wrap_i64]; omega
  go_wp2_with (go_at_call 114; refine (pick_any (k + 1) (by omega) (by omega) b A n c m W HC.out (by omega)).mono ?_; rintro e w1 ⟨⟨x, rfl, hx⟩, hc, ho⟩; have HC := Lib.hid hc; have HO := Lib.hid (own_off HO.out ho (by omega)); have HN := Lib.hid (HN.out.trans ho); clear hc ho)
  go_loopw [5, 6] (fun u i wr => ∃ (j : Nat) (ss : List ByteArray) (O : Option Addr) (oc : Nat), i = .int .i64 j ∧ u = .slice O ss.length oc ∧ ss.length + j ≤ k ∧ Hid (Short ss) ∧ Hid (wr.ownsRow w.heap.size 9 1 (.slice O ss.length oc) ss.length (strs ss)) ∧ Hid (Cur wr b A n c (m + 1 + ss.length)) ∧ Hid (Only b (b + 1) w wr)) (fun _ i _ => (intOf i).toNat)
  case atStart => exact ⟨x, [], _, _, rfl, rfl, by simp; omega, Lib.hid (fun s hs => by simp at hs), HO, HC, HN⟩
  case round =>
    clear HO HC HN
    obtain ⟨wq, hwq⟩ : ∃ x : World, x = wr := ⟨_, rfl⟩
    subst hwq
    obtain ⟨j, ss, O, oc, rfl, rfl, hjk, HS, HO, HC, HN⟩ := hrel
    have hwz := HN.out.size
    rcases Nat.eq_zero_or_pos j with h0 | h0
    · subst h0
      go_wp2
      go_ret
      exact ⟨O, oc, ss, rfl, by omega, HS.out, HO.out, HC.out.mono (by omega), HN.out⟩
    · have i0 : (0 : Int) < (j : Int) := by omega
      have q2 : IntKind.i64.wrap ((j : Int) - 1) = ((j - 1 : Nat) : Int) := by rw [IntKind.wrap_i64]; omega
      have hb8 := below1 wq (.cells (strs wd8).toArray 9)
      have HL8 := Lib.hid (cells_arr wq (strs wd8).toArray 9 wq.heap.size rfl)
      have HC8 := Lib.hid (HC.out.below hb8)
      have HO8 := Lib.hid (own_keep HO.out hb8)
      have HN8 := Lib.hid (HN.out.trans (Only.of_below hb8))
      have hne : wq.heap.size ≠ b := by omega
      clear HO HC HN hb8
      go_wp2_with fail
      refine (of_any wd8 (some ⟨wq.heap.size, 0, none⟩) 8 (by decide) (by decide) b A n c (m + 1 + ss.length) (wq.alloc (.cells (strs wd8).toArray 9)) HC8.out (by omega) HL8.out (fun a ha => by obtain rfl := Option.some.inj ha; exact hne)).mono ?_
      rintro e w2 ⟨⟨s, rfl, hs⟩, hc, ho⟩
      have HSS := Lib.hid (wd8_short s hs)
      have HC2 := Lib.hid hc
      have HO2 := Lib.hid (own_off HO8.out ho (by omega))
      have HN2 := Lib.hid (HN8.out.trans ho)
      have hz2 := HN2.out.size
      clear hc ho hs HC8 HO8 HN8
      go_wp2_with (at_builtin; go_must (refine list_append_gr elStr _ rfl _ _ rfl w.heap.size O _ oc ss.length 1 1 (strs ss) (strs [s]) rfl rfl rfl (own_alloc HO2.out _) (cells_arr _ #[.string s] _ _ rfl) strs_one (by simp; omega) (by omega) ?_); intro O3 d3 w3 own hb hg; have HO3 := Lib.hid own; have HB3 := Lib.hid (((below1 w2 (.cells #[.string s] 9)).mono hz2).trans hb); clear own hb hg)
      go_roundw
      case rel => exact ⟨j - 1, ss ++ [s], O3, d3, by go_num, by simp, by simp; omega, Lib.hid (HS.out.snoc HSS.out), by rw [List.length_append, List.length_singleton, strs_append]; exact HO3, Lib.hid ((HC2.out.belowB HB0.out HB3.out (Nat.le_refl _) hlt).mono (by simp; omega)), Lib.hid (HN2.out.of_belowB HB3.out (Nat.le_refl _))⟩
      case measure => (first | (simp [intOf]; done) | (simp [intOf]; omega))
end Go.Proofs.Ytgchbimjgdoifaa
namespace Go.Proofs.Ytgchbimjgdoifaa
open Go.RowKit
set_option linter.unusedVariables false
set_option linter.unusedSimpArgs false
def wdOdd : List ByteArray := [⟨#[]⟩, ⟨#[65]⟩, ⟨#[97, 98, 99, 100, 101, 102, 103, 104, 105, 106]⟩, ⟨#[97, 98, 99, 100, 101, 102, 103, 104, 105, 106, 107]⟩]
theorem wdOdd_short : ∀ s ∈ wdOdd, s.size ≤ 11 := by
  intro s hs
  simp only [wdOdd, List.mem_cons, List.not_mem_nil, or_false] at hs
  rcases hs with rfl | rfl | rfl | rfl <;> decide
def wdW : ByteArray := ⟨#[119]⟩
set_option maxHeartbeats 2000000 in
theorem text_any (b : Nat) (A : Option Addr) (n c m : Nat) (w : World) (h : Cur w b A n c m) (hm : m ≤ 800000) :
    Calls Try.prog 84 #[.pointer (some ⟨b, 0, none⟩)] w fun e w' => ∃ (O : Option Addr) (d : Nat) (ss : List ByteArray), e = .returned (.slice O ss.length d) ∧ ss.length ≤ 40 ∧ Short ss ∧ w'.ownsRow w.heap.size 9 1 (.slice O ss.length d) ss.length (strs ss) ∧ Cur w' b A n c (m + 60) ∧ Only b (b + 1) w w' := by
  have HB0 := Lib.hid h.bytes
  have hlt := h.lt
  go_enter Try.func84, Try.ntmps84
  go_wp2_with fail
  refine (words_any 10 (by omega) (by omega) b A n c m w h (by omega)).mono ?_
  rintro e w1 ⟨O, d, ss, rfl, hl, hs, own, hc, ho⟩
  have HS := Lib.hid hs
  have HO := Lib.hid own
  have HC := Lib.hid hc
  have HN := Lib.hid ho
  clear h hs own hc ho
  go_wp2_with fail
  refine (pick_any 24 (by omega) (by omega) b A n c _ w1 HC.out (by omega)).mono ?_
  rintro e w2 ⟨⟨x, rfl, hx⟩, hc, ho⟩
  have HO := Lib.hid (own_off HO.out ho (by omega))
  have HN := Lib.hid (HN.out.trans ho)
  have HC := Lib.hid hc
  have hz2 := HN.out.size
  clear hc ho
  by_cases h0 : x = 0
  · subst h0
    have e0 : (((0 : Nat) : Int) == 0) = true := by decide
    have hb4 := below1 w2 (.cells (strs wdOdd).toArray 9)
    have HL4 := Lib.hid (cells_arr w2 (strs wdOdd).toArray 9 w2.heap.size rfl)
    have HC4 := Lib.hid (HC.out.below hb4)
    have HO4 := Lib.hid (own_keep HO.out hb4)
    have HN4 := Lib.hid (HN.out.trans (Only.of_below hb4))
    have hne : w2.heap.size ≠ b := by omega
    clear HO HC HN hb4
    go_wp2_with fail
    refine (of_any wdOdd (some ⟨w2.heap.size, 0, none⟩) 4 (by decide) (by decide) b A n c _ (w2.alloc (.cells (strs wdOdd).toArray 9)) HC4.out (by omega) HL4.out (fun a ha => by obtain rfl := Option.some.inj ha; exact hne)).mono ?_
    rintro e w3 ⟨⟨s, rfl, hs⟩, hc, ho⟩
    have HSS := Lib.hid (wdOdd_short s hs)
    have HC3 := Lib.hid hc
    have HO3 := Lib.hid (own_off HO4.out ho (by omega))
    have HN3 := Lib.hid (HN4.out.trans ho)
    have hz3 := HN3.out.size
    clear hc ho hs HC4 HO4 HN4
    go_wp2_with (at_builtin; go_must (refine list_append_gr elStr _ rfl _ _ rfl w.heap.size O _ d ss.length 1 1 (strs ss) (strs [s]) rfl rfl rfl (own_alloc HO3.out _) (cells_arr _ #[.string s] _ _ rfl) strs_one (by simp; omega) (by omega) ?_); intro O5 d5 w5 own hb hg; have HO5 := Lib.hid own; have HB5 := Lib.hid (((below1 w3 (.cells #[.string s] 9)).mono hz3).trans hb); clear own hb hg)
    go_ret
    exact ⟨O5, d5, ss ++ [s], by first | rfl | (simp; done), by simp; omega, HS.out.snoc HSS.out, by rw [List.length_append, List.length_singleton, strs_append]; exact HO5.out, (HC3.out.belowB HB0.out HB5.out (Nat.le_refl _) hlt).mono (by omega), HN3.out.of_belowB HB5.out (Nat.le_refl _)⟩
  · have e0 : ((x : Int) == 0) = false := by simp; omega
    by_cases h1 : x = 1
    · subst h1
      have e1 : (((1 : Nat) : Int) == 1) = true := by decide
      clear h0
      go_wp2_with fail
      go_loopw [3, 4] (fun u i wr => ∃ (j : Nat) (ss : List ByteArray) (O : Option Addr) (oc : Nat), i = .int .i64 j ∧ u = .slice O ss.length oc ∧ ss.length ≤ 10 + j ∧ j ≤ 22 ∧ Hid (Short ss) ∧ Hid (wr.ownsRow w.heap.size 9 1 (.slice O ss.length oc) ss.length (strs ss)) ∧ Hid (Cur wr b A n c (m + 12 + j)) ∧ Hid (Only b (b + 1) w wr)) (fun _ i _ => 22 - (intOf i).toNat)
      case atStart => exact ⟨0, ss, _, _, rfl, rfl, by omega, by omega, HS, HO, Lib.hid (HC.out.mono (by omega)), HN⟩
      case round =>
        clear HO HC HN HS hl
        obtain ⟨wq, hwq⟩ : ∃ x : World, x = wr := ⟨_, rfl⟩
        subst hwq
        obtain ⟨j, ss, O, oc, rfl, rfl, hjk, hj22, HS, HO, HC, HN⟩ := hrel
        have hwz := HN.out.size
        go_wp2_with fail
        refine (pick_any 2 (by omega) (by omega) b A n c _ wq HC.out (by omega)).mono ?_
        rintro e w3 ⟨⟨y, rfl, hy⟩, hc, ho⟩
        have HO3 := Lib.hid (own_off HO.out ho (by omega))
        have HN3 := Lib.hid (HN.out.trans ho)
        have HC3 := Lib.hid hc
        have hz3 := HN3.out.size
        clear hc ho HO HN HC
        by_cases hlt2 : (ss.length : Int) < 20 + (y : Int)
        · by_cases hj : j < 22
          · have i1 : (j : Int) < 22 := by omega
            go_wp2_with (at_builtin; go_must (refine list_append_gr elStr _ rfl _ _ rfl w.heap.size O _ oc ss.length 1 1 (strs ss) (strs [wdW]) rfl rfl rfl (own_alloc HO3.out _) (cells_arr _ #[.string wdW] _ _ rfl) strs_one (by simp; omega) (by omega) ?_); intro O5 d5 w5 own hb hg; have HO5 := Lib.hid own; have HB5 := Lib.hid (((below1 w3 (.cells #[.string wdW] 9)).mono hz3).trans hb); clear own hb hg)
            go_roundw
            case rel => exact ⟨j + 1, ss ++ [wdW], O5, d5, by go_num, by simp, by simp; omega, by omega, Lib.hid (HS.out.snoc (by decide)), by rw [List.length_append, List.length_singleton, strs_append]; exact HO5, Lib.hid ((HC3.out.belowB HB0.out HB5.out (Nat.le_refl _) hlt).mono (by omega)), Lib.hid (HN3.out.of_belowB HB5.out (Nat.le_refl _))⟩
            case measure => (first | (simp [intOf]; done) | (simp [intOf]; omega))
          · have i1 : ¬ (j : Int) < 22 := by omega
            go_wp2
            go_ret
            exact ⟨O, oc, ss, rfl, by omega, HS.out, HO3.out, HC3.out.mono (by omega), HN3.out⟩
        · go_wp2
          go_ret
          exact ⟨O, oc, ss, rfl, by omega, HS.out, HO3.out, HC3.out.mono (by omega), HN3.out⟩
    · have e1 : ((x : Int) == 1) = false := by simp; omega
      clear h0 h1
      go_wp2
      go_ret
      exact ⟨O, d, ss, rfl, by omega, HS.out, HO.out, HC.out.mono (by omega), HN.out⟩
end Go.Proofs.Ytgchbimjgdoifaa
namespace Go.Proofs.Ytgchbimjgdoifaa
open Go.RowKit
set_option linter.unusedVariables false
set_option linter.unusedSimpArgs false
theorem lit_cellsI (w : World) (xs : List Int) (T : TypeId) (g : Nat) (hg : g = w.heap.size) : Cells (w.alloc (.cells (xs.map (Value.int .i64)).toArray T)) (some ⟨g, 0, none⟩) (IntK.row xs) := fun i u hi => by
  subst hg
  rw [intK_row] at hi
  refine ⟨_, rfl, ?_⟩
  rw [add_head]
  exact (BoxL.new w _ T).2 i u (by simpa using hi)
theorem BoxF.only_ {w w' : World} {q lo hi : Nat} {vs : List Value} (h : BoxF w q vs) (ho : Only lo hi w w') (hq : q < w.heap.size) (hd : hi ≤ q) : BoxF w' q vs := h.blk (ho.block q hq (.inr hd))
theorem BoxF.setO {w : World} {r q i : Nat} {vs : List Value} (h : BoxF w r vs) (hq : q ≠ r) (u : Value) : BoxF (w.setCell ⟨q, i, none⟩ u) r vs := h.blk (Below.heap_setCell w _ _ _ (by simp; omega))
def wdNew : ByteArray := ⟨#[110, 101, 119]⟩
def wdBad : List ByteArray := [⟨#[65]⟩, ⟨#[120]⟩, ⟨#[]⟩]
theorem wdBad_short : ∀ s ∈ wdBad, s.size ≤ 11 := by
  intro s hs
  simp only [wdBad, List.mem_cons, List.not_mem_nil, or_false] at hs
  rcases hs with rfl | rfl | rfl <;> decide
set_option maxRecDepth 100000 in
set_option maxHeartbeats 4000000 in
theorem amendment_any (T : Option Addr) (t l : Nat) (b : Nat) (A : Option Addr) (n c m : Nat) (w : World) (h : Cur w b A n c m) (hm : m ≤ 800000) (hl : l ≤ 100) :
    Calls Try.prog 85 #[.pointer (some ⟨b, 0, none⟩), .slice T l t] w fun e w' => ∃ (N : Option Addr) (d : Nat) (a : Amd), e = .returned (.agg #[.int .i64 a.k, .int .i64 a.p, .int .i64 a.n, .slice N a.ws.length d]) ∧ a.ws.length ≤ 5 ∧ Short a.ws ∧ w'.ownsRow w.heap.size 9 1 (.slice N a.ws.length d) a.ws.length (strs a.ws) ∧ Cur w' b A n c (m + 20) ∧ Only b (b + 1) w w' := by
  have HB0 := Lib.hid h.bytes
  have hlt := h.lt
  have hbl := below1 w (.cells #[.int .i64 0, .int .i64 0, .int .i64 0, .slice none 0 0] 40)
  have HC := Lib.hid (h.below hbl)
  have HR := Lib.hid (BoxF.new' w #[.int .i64 0, .int .i64 0, .int .i64 0, .slice none 0 0] 40 w.heap.size rfl)
  have HN := Lib.hid (show Only b (b + 1) w (w.alloc (.cells #[.int .i64 0, .int .i64 0, .int .i64 0, .slice none 0 0] 40)) from Only.of_below hbl)
  have hrz : w.heap.size < (w.alloc (.cells #[.int .i64 0, .int .i64 0, .int .i64 0, .slice none 0 0] 40)).heap.size := by simp
  clear h hbl
  go_enter Try.func85, Try.ntmps85
  go_upto_region 1 with fail
  generalize w.alloc (.cells #[.int .i64 0, .int .i64 0, .int .i64 0, .slice none 0 0] 40) = W0 at *
  have q1 : IntKind.i64.wrap ((l : Int) + 1) = (l : Int) + 1 := by rw [IntKind.wrap_i64]; omega
  go_wp2_with fail
  refine (pickZ_any ((l : Int) + 1) (by omega) b A n c m W0 HC.out (by omega)).mono ?_
  rintro e w1 ⟨⟨x1, rfl, hx1⟩, hc, ho⟩
  have hx1l : x1 ≤ l := by omega
  have HC := Lib.hid hc
  have HR := Lib.hid (HR.out.only_ ho hrz (by omega))
  have HN := Lib.hid (HN.out.trans ho)
  have hrz := Nat.lt_of_lt_of_le hrz ho.size
  clear hc ho hx1
  have q2 : IntKind.i64.wrap ((l : Int) - x1) = (l : Int) - x1 := by rw [IntKind.wrap_i64]; omega
  have q3 : IntKind.i64.wrap ((l : Int) - x1 + 1) = (l : Int) - x1 + 1 := by rw [IntKind.wrap_i64]; omega
  obtain ⟨M, hM⟩ : ∃ M, Hid ((if (l : Int) - x1 + 1 < 4 then (l : Int) - x1 + 1 else 4) = M) := ⟨_, Lib.hid rfl⟩
  have hM2 : M ≤ 200 := by rw [← hM.out]; split <;> omega
  go_wp2_with fail
  refine (l1Least_any 4 ((l : Int) - x1 + 1) w1).mono ?_
  rintro e w' ⟨rfl, hw⟩
  rw [hw, hM.out]
  clear hw
  go_wp2_with fail
  refine (pickZ_any M hM2 b A n c _ w1 HC.out (by omega)).mono ?_
  rintro e w2 ⟨⟨x3, rfl, hx3⟩, hc, ho⟩
  have HC := Lib.hid hc
  have HR := Lib.hid (HR.out.only_ ho hrz (by omega))
  have HN := Lib.hid (HN.out.trans ho)
  have hrz := Nat.lt_of_lt_of_le hrz ho.size
  clear hc ho hx3 hM hM2 q1 q2 q3
  go_wp2_with fail
  refine (words_any 3 (by omega) (by omega) b A n c _ w2 HC.out (by omega)).mono ?_
  rintro e w3 ⟨O, d, ss, rfl, hsl, hss, own, hc, ho⟩
  have HC := Lib.hid hc
  have HR := Lib.hid (HR.out.only_ ho hrz (by omega))
  have HN := Lib.hid (HN.out.trans ho)
  have HO := Lib.hid (own_mono own (show w.heap.size + 1 ≤ w2.heap.size from hrz))
  have HS := Lib.hid hss
  have hrz := Nat.lt_of_lt_of_le hrz ho.size
  clear hc ho hss own
  go_upto_region 5 with fail
  obtain ⟨B, hB⟩ : ∃ B, Hid (((x3 : Int) == 0 && (ss.length : Int) == 0) = B) := ⟨_, Lib.hid rfl⟩
  go_cut [31] (fun s wx => s = .bool B ∧ wx = w3)
  case first =>
    rcases Bool.eq_false_or_eq_true ((x3 : Int) == 0) with e3 | e3
    · rcases Bool.eq_false_or_eq_true ((ss.length : Int) == 0) with e4 | e4
      · have hBB := hB.out
        rw [e3, e4] at hBB
        go_wp2_with fail
        go_meet
        exact ⟨by rw [← hBB]; rfl, rfl⟩
      · have hBB := hB.out
        rw [e3, e4] at hBB
        go_wp2_with fail
        go_meet
        exact ⟨by rw [← hBB]; rfl, rfl⟩
    · have hBB := hB.out
      rw [e3] at hBB
      go_wp2_with fail
      go_meet
      exact ⟨by rw [← hBB]; rfl, rfl⟩
  obtain ⟨rfl, hwc⟩ := hcut
  have hwc2 := hwc.symm
  clear hwc
  subst hwc2
  go_upto_if 31 with fail
  go_cut [8] (fun u wx => ∃ (O : Option Addr) (d : Nat) (ws : List ByteArray), u = .slice O ws.length d ∧ ws.length ≤ 4 ∧ Hid (Short ws) ∧ Hid (wx.ownsRow (w.heap.size + 1) 9 1 (.slice O ws.length d) ws.length (strs ws)) ∧ Hid (BoxF wx w.heap.size [.int .i64 0, .int .i64 0, .int .i64 0, .slice none 0 0]) ∧ Hid (Cur wx b A n c (m + 10)) ∧ Hid (Only b (b + 1) w wx) ∧ w.heap.size < wx.heap.size)
  case first =>
    rcases Bool.eq_false_or_eq_true B with e3 | e3
    · subst e3
      have HB := Lib.hid (below1 w3 (.cells #[.string wdNew] 9))
      have HO2 : Hid ((w3.alloc (.cells #[.string wdNew] 9)).ownsRow (w.heap.size + 1) 9 1 (.slice (some ⟨w3.heap.size, 0, none⟩) 1 1) 1 (strs [wdNew])) := Lib.hid (World.ownsRow_lit w3 #[.string wdNew] 1 hrz (by unfold maxLen; omega) (by rfl))
      go_wp2_with fail
      go_meet
      exact ⟨_, _, [wdNew], rfl, by simp, Lib.hid (fun s hs => by simp at hs; subst hs; decide), HO2, Lib.hid (HR.out.below HB.out hrz), Lib.hid ((HC.out.below HB.out).mono (by omega)), Lib.hid (HN.out.trans (Only.of_below HB.out)), by simp; omega⟩
    · subst e3
      go_wp2_with fail
      go_meet
      exact ⟨_, _, ss, rfl, by omega, HS, HO, HR, Lib.hid (HC.out.mono (by omega)), HN, hrz⟩
  case rest =>
    clear HO HR HC HN HS hrz hsl
    obtain ⟨W, rfl⟩ : ∃ W, W = wc := ⟨_, rfl⟩
    obtain ⟨O, d, ws, rfl, hwl, HSW, HO, HR, HC, HN, hrz⟩ := hcut
    obtain ⟨K, hK⟩ : ∃ K, Hid (kindI (x3 : Int) ws = K) := ⟨_, Lib.hid rfl⟩
    go_wp2_with fail
    refine (l9Kind_any (x1 : Int) (x3 : Int) O d ws W (Cells.of_own HO.out) (by omega)).mono ?_
    rintro e w4 ⟨N, nd, rfl, own, hb⟩
    rw [hK.out]
    rw [hK.out] at *
    have hb2 := hb.trans ((below1 w4 (.cells #[.int .i64 K, .int .i64 x1, .int .i64 x3, .slice N ws.length nd] 40)).mono hb.size)
    have HC := Lib.hid (HC.out.below hb2)
    have HR := Lib.hid (HR.out.below hb2 hrz)
    have HN := Lib.hid (HN.out.trans (Only.of_below hb2))
    have HU := Lib.hid (Under.own own)
    have HO := Lib.hid (own_mono (own_alloc own (.cells #[.int .i64 K, .int .i64 x1, .int .i64 x3, .slice N ws.length nd] 40)) (show w.heap.size + 1 ≤ W.heap.size from hrz))
    have HQ := Lib.hid (BoxF.new' w4 #[.int .i64 K, .int .i64 x1, .int .i64 x3, .slice N ws.length nd] 40 w4.heap.size rfl)
    have HNQ := Lib.hid (show (Value.slice N ws.length nd).ownBlock ≠ some w4.heap.size from fun e => Nat.lt_irrefl _ (own.lt _ e).2)
    have hqz : w4.heap.size < (w4.alloc (.cells #[.int .i64 K, .int .i64 x1, .int .i64 x3, .slice N ws.length nd] 40)).heap.size := by simp
    have hrz : w.heap.size < (w4.alloc (.cells #[.int .i64 K, .int .i64 x1, .int .i64 x3, .slice N ws.length nd] 40)).heap.size := Nat.lt_of_lt_of_le hrz hb2.size
    have hq1 : w.heap.size + 1 ≤ w4.heap.size := by have := hb.size; have := HN.out.size; omega
    clear own hb hb2
    go_wp2_with fail
    generalize w4.alloc (.cells #[.int .i64 K, .int .i64 x1, .int .i64 x3, .slice N ws.length nd] 40) = W4 at *
    generalize w4.heap.size = q at *
    refine (pick_any 20 (by omega) (by omega) b A n c _ W4 HC.out (by omega)).mono ?_
    rintro e w5 ⟨⟨z, rfl, hz⟩, hc, ho⟩
    have HC := Lib.hid hc
    have HR := Lib.hid (HR.out.only_ ho hrz (by omega))
    have HQ := Lib.hid (HQ.out.only_ ho hqz (by omega))
    have HO := Lib.hid (own_off HO.out ho (by omega))
    have HN := Lib.hid (HN.out.trans ho)
    have hrz := Nat.lt_of_lt_of_le hrz ho.size
    have hqz := Nat.lt_of_lt_of_le hqz ho.size
    clear hc ho hz
    by_cases z0 : z = 0
    · have e0 : ((z : Int) == 0) = true := by simp [z0]
      clear z0
      have hb7 := below1 w5 (.cells ((([0, 4, 1, 2, 3] : List Int).map (Value.int .i64)).toArray) 3)
      have HL7 := Lib.hid (lit_cellsI w5 [0, 4, 1, 2, 3] 3 w5.heap.size rfl)
      have HC7 := Lib.hid (HC.out.below hb7)
      have HO7 := Lib.hid (own_keep HO.out hb7)
      have HQ7 := Lib.hid (HQ.out.below hb7 hqz)
      have HR7 := Lib.hid (HR.out.below hb7 hrz)
      have HN7 := Lib.hid (HN.out.trans (Only.of_below hb7))
      have hne : w5.heap.size ≠ b := by omega
      have hq7 : q < (w5.alloc (.cells ((([0, 4, 1, 2, 3] : List Int).map (Value.int .i64)).toArray) 3)).heap.size := by simp; omega
      have hr7 : w.heap.size < (w5.alloc (.cells ((([0, 4, 1, 2, 3] : List Int).map (Value.int .i64)).toArray) 3)).heap.size := by simp; omega
      go_wp2_with fail
      refine (among_any [0, 4, 1, 2, 3] (some ⟨w5.heap.size, 0, none⟩) 5 (by simp) (by simp) b A n c _ (w5.alloc (.cells ((([0, 4, 1, 2, 3] : List Int).map (Value.int .i64)).toArray) 3)) HC7.out (by omega) HL7.out (fun a ha => by obtain rfl := Option.some.inj ha; exact hne)).mono ?_
      rintro e w6 ⟨⟨y, rfl, hy⟩, hc, ho⟩
      have HC := Lib.hid hc
      have HO := Lib.hid (own_off HO7.out ho (by omega))
      have HQ := Lib.hid (HQ7.out.only_ ho hq7 (by omega))
      have HR := Lib.hid (HR7.out.only_ ho hr7 (by omega))
      have HN := Lib.hid (HN7.out.trans ho)
      have hqz := Nat.lt_of_lt_of_le hq7 ho.size
      have hrz := Nat.lt_of_lt_of_le hr7 ho.size
      clear hc ho hy HC7 HO7 HQ7 HR7 HN7 HL7 hb7
      have y0 := HQ.out.1 0 _ rfl
      have y1 := HQ.out.1 1 _ rfl
      have y2 := HQ.out.1 2 _ rfl
      have y3 := HQ.out.1 3 _ rfl
      have yf := HQ.out.2
      have HQ9 := Lib.hid (HQ.out.set (k := 0) (by simp) (.int .i64 y))
      have HO9 := Lib.hid (ownsRow_setCell_other HO.out HNQ.out (a := ⟨q, 0, none⟩) (.int .i64 y))
      have HR9 := Lib.hid (HR.out.setO (q := q) (i := 0) (by omega) (.int .i64 y))
      have HC9 := Lib.hid (HC.out.belowB HB0.out (Below.setCell (p := ⟨q, 0, none⟩) (Below.refl (w.heap.size + 1) w6) hq1 (.int .i64 y)) (by omega) (by omega))
      have HN9 := Lib.hid (HN.out.of_belowB (Below.setCell (p := ⟨q, 0, none⟩) (Below.refl (w.heap.size + 1) w6) hq1 (.int .i64 y)) (by omega))
      go_upto_region 17 with fail
      generalize w6.setCell ⟨q, 0, none⟩ (.int .i64 y) = W9 at *
      simp only [List.set_cons_zero, List.set_cons_succ] at HQ9
      have HQ := HQ9
      have HO := HO9
      have HR := HR9
      have HC := HC9
      have HN := HN9
      have t0 := HQ.out.1 0 _ rfl
      have t1 := HQ.out.1 1 _ rfl
      have t2 := HQ.out.1 2 _ rfl
      have t3 := HQ.out.1 3 _ rfl
      have rf := HR.out.2
      have r0 := HR.out.1 0 _ rfl
      have r1 := HR.out.1 1 _ rfl
      have r2 := HR.out.1 2 _ rfl
      have r3 := HR.out.1 3 _ rfl
      go_wp2
      have KS := HR.out.set4 (.int .i64 y) (.int .i64 (x1 : Int)) (.int .i64 (x3 : Int)) (.slice N ws.length nd)
      have k0 := KS.1 0 _ rfl
      have k1 := KS.1 1 _ rfl
      have k2 := KS.1 2 _ rfl
      have k3 := KS.1 3 _ rfl
      refine bodyPost_ret (v := .agg #[.int .i64 y, .int .i64 (x1 : Int), .int .i64 (x3 : Int), .slice N ws.length nd]) (by simp [results, Try.results85, go_sem, k0, k1, k2, k3]) rfl ?_
      have hst : Below w.heap.size W9 ((((W9.setCell ⟨w.heap.size, 0, none⟩ (.int .i64 y)).setCell ⟨w.heap.size, 1, none⟩ (.int .i64 (x1 : Int))).setCell ⟨w.heap.size, 2, none⟩ (.int .i64 (x3 : Int))).setCell ⟨w.heap.size, 3, none⟩ (.slice N ws.length nd)) := by go_grown
      exact ⟨N, nd, ⟨y, (x1 : Int), (x3 : Int), ws⟩, rfl, (show ws.length ≤ 5 by omega), HSW.out, own_mono (own_off HO.out (only4 W9 w.heap.size _ _ _ _) (Nat.le_refl _)) (Nat.le_succ _), (HC.out.belowB HB0.out hst (Nat.le_refl _) hlt).mono (by omega), HN.out.of_belowB hst (Nat.le_refl _)⟩
    · have e0 : ((z : Int) == 0) = false := by simp; omega
      by_cases z1 : z = 1
      · have e1 : ((z : Int) == 1) = true := by simp [z1]
        have q1 : IntKind.i64.wrap ((l : Int) + 1) = (l : Int) + 1 := by rw [IntKind.wrap_i64]; omega
        clear z0 z1
        have hb7 := below1 w5 (.cells ((([-1, (l : Int) + 1, 20, 21] : List Int).map (Value.int .i64)).toArray) 3)
        have HL7 := Lib.hid (lit_cellsI w5 [-1, (l : Int) + 1, 20, 21] 3 w5.heap.size rfl)
        have HC7 := Lib.hid (HC.out.below hb7)
        have HO7 := Lib.hid (own_keep HO.out hb7)
        have HQ7 := Lib.hid (HQ.out.below hb7 hqz)
        have HR7 := Lib.hid (HR.out.below hb7 hrz)
        have HN7 := Lib.hid (HN.out.trans (Only.of_below hb7))
        have hne : w5.heap.size ≠ b := by omega
        have hq7 : q < (w5.alloc (.cells ((([-1, (l : Int) + 1, 20, 21] : List Int).map (Value.int .i64)).toArray) 3)).heap.size := by simp; omega
        have hr7 : w.heap.size < (w5.alloc (.cells ((([-1, (l : Int) + 1, 20, 21] : List Int).map (Value.int .i64)).toArray) 3)).heap.size := by simp; omega
        go_wp2_with fail
        refine (among_any [-1, (l : Int) + 1, 20, 21] (some ⟨w5.heap.size, 0, none⟩) 4 (by simp) (by simp) b A n c _ (w5.alloc (.cells ((([-1, (l : Int) + 1, 20, 21] : List Int).map (Value.int .i64)).toArray) 3)) HC7.out (by omega) HL7.out (fun a ha => by obtain rfl := Option.some.inj ha; exact hne)).mono ?_
        rintro e w6 ⟨⟨y, rfl, hy⟩, hc, ho⟩
        have HC := Lib.hid hc
        have HO := Lib.hid (own_off HO7.out ho (by omega))
        have HQ := Lib.hid (HQ7.out.only_ ho hq7 (by omega))
        have HR := Lib.hid (HR7.out.only_ ho hr7 (by omega))
        have HN := Lib.hid (HN7.out.trans ho)
        have hqz := Nat.lt_of_lt_of_le hq7 ho.size
        have hrz := Nat.lt_of_lt_of_le hr7 ho.size
        clear hc ho hy HC7 HO7 HQ7 HR7 HN7 HL7 hb7
        have y0 := HQ.out.1 0 _ rfl
        have y1 := HQ.out.1 1 _ rfl
        have y2 := HQ.out.1 2 _ rfl
        have y3 := HQ.out.1 3 _ rfl
        have yf := HQ.out.2
        have HQ9 := Lib.hid (HQ.out.set (k := 1) (by simp) (.int .i64 y))
        have HO9 := Lib.hid (ownsRow_setCell_other HO.out HNQ.out (a := ⟨q, 1, none⟩) (.int .i64 y))
        have HR9 := Lib.hid (HR.out.setO (q := q) (i := 1) (by omega) (.int .i64 y))
        have HC9 := Lib.hid (HC.out.belowB HB0.out (Below.setCell (p := ⟨q, 1, none⟩) (Below.refl (w.heap.size + 1) w6) hq1 (.int .i64 y)) (by omega) (by omega))
        have HN9 := Lib.hid (HN.out.of_belowB (Below.setCell (p := ⟨q, 1, none⟩) (Below.refl (w.heap.size + 1) w6) hq1 (.int .i64 y)) (by omega))
        go_upto_region 17 with fail
        generalize w6.setCell ⟨q, 1, none⟩ (.int .i64 y) = W9 at *
        simp only [List.set_cons_zero, List.set_cons_succ] at HQ9
        have HQ := HQ9
        have HO := HO9
        have HR := HR9
        have HC := HC9
        have HN := HN9
        have t0 := HQ.out.1 0 _ rfl
        have t1 := HQ.out.1 1 _ rfl
        have t2 := HQ.out.1 2 _ rfl
        have t3 := HQ.out.1 3 _ rfl
        have rf := HR.out.2
        have r0 := HR.out.1 0 _ rfl
        have r1 := HR.out.1 1 _ rfl
        have r2 := HR.out.1 2 _ rfl
        have r3 := HR.out.1 3 _ rfl
        go_wp2
        have KS := HR.out.set4 (.int .i64 K) (.int .i64 y) (.int .i64 (x3 : Int)) (.slice N ws.length nd)
        have k0 := KS.1 0 _ rfl
        have k1 := KS.1 1 _ rfl
        have k2 := KS.1 2 _ rfl
        have k3 := KS.1 3 _ rfl
        refine bodyPost_ret (v := .agg #[.int .i64 K, .int .i64 y, .int .i64 (x3 : Int), .slice N ws.length nd]) (by simp [results, Try.results85, go_sem, k0, k1, k2, k3]) rfl ?_
        have hst : Below w.heap.size W9 ((((W9.setCell ⟨w.heap.size, 0, none⟩ (.int .i64 K)).setCell ⟨w.heap.size, 1, none⟩ (.int .i64 y)).setCell ⟨w.heap.size, 2, none⟩ (.int .i64 (x3 : Int))).setCell ⟨w.heap.size, 3, none⟩ (.slice N ws.length nd)) := by go_grown
        exact ⟨N, nd, ⟨K, y, (x3 : Int), ws⟩, rfl, (show ws.length ≤ 5 by omega), HSW.out, own_mono (own_off HO.out (only4 W9 w.heap.size _ _ _ _) (Nat.le_refl _)) (Nat.le_succ _), (HC.out.belowB HB0.out hst (Nat.le_refl _) hlt).mono (by omega), HN.out.of_belowB hst (Nat.le_refl _)⟩
      · have e1 : ((z : Int) == 1) = false := by simp; omega
        by_cases z2 : z = 2
        · have e2 : ((z : Int) == 2) = true := by simp [z2]
          clear z0 z1 z2
          have hb7 := below1 w5 (.cells ((([-1, 5, 6] : List Int).map (Value.int .i64)).toArray) 3)
          have HL7 := Lib.hid (lit_cellsI w5 [-1, 5, 6] 3 w5.heap.size rfl)
          have HC7 := Lib.hid (HC.out.below hb7)
          have HO7 := Lib.hid (own_keep HO.out hb7)
          have HQ7 := Lib.hid (HQ.out.below hb7 hqz)
          have HR7 := Lib.hid (HR.out.below hb7 hrz)
          have HN7 := Lib.hid (HN.out.trans (Only.of_below hb7))
          have hne : w5.heap.size ≠ b := by omega
          have hq7 : q < (w5.alloc (.cells ((([-1, 5, 6] : List Int).map (Value.int .i64)).toArray) 3)).heap.size := by simp; omega
          have hr7 : w.heap.size < (w5.alloc (.cells ((([-1, 5, 6] : List Int).map (Value.int .i64)).toArray) 3)).heap.size := by simp; omega
          go_wp2_with fail
          refine (among_any [-1, 5, 6] (some ⟨w5.heap.size, 0, none⟩) 3 (by simp) (by simp) b A n c _ (w5.alloc (.cells ((([-1, 5, 6] : List Int).map (Value.int .i64)).toArray) 3)) HC7.out (by omega) HL7.out (fun a ha => by obtain rfl := Option.some.inj ha; exact hne)).mono ?_
          rintro e w6 ⟨⟨y, rfl, hy⟩, hc, ho⟩
          have HC := Lib.hid hc
          have HO := Lib.hid (own_off HO7.out ho (by omega))
          have HQ := Lib.hid (HQ7.out.only_ ho hq7 (by omega))
          have HR := Lib.hid (HR7.out.only_ ho hr7 (by omega))
          have HN := Lib.hid (HN7.out.trans ho)
          have hqz := Nat.lt_of_lt_of_le hq7 ho.size
          have hrz := Nat.lt_of_lt_of_le hr7 ho.size
          clear hc ho hy HC7 HO7 HQ7 HR7 HN7 HL7 hb7
          have y0 := HQ.out.1 0 _ rfl
          have y1 := HQ.out.1 1 _ rfl
          have y2 := HQ.out.1 2 _ rfl
          have y3 := HQ.out.1 3 _ rfl
          have yf := HQ.out.2
          have HQ9 := Lib.hid (HQ.out.set (k := 2) (by simp) (.int .i64 y))
          have HO9 := Lib.hid (ownsRow_setCell_other HO.out HNQ.out (a := ⟨q, 2, none⟩) (.int .i64 y))
          have HR9 := Lib.hid (HR.out.setO (q := q) (i := 2) (by omega) (.int .i64 y))
          have HC9 := Lib.hid (HC.out.belowB HB0.out (Below.setCell (p := ⟨q, 2, none⟩) (Below.refl (w.heap.size + 1) w6) hq1 (.int .i64 y)) (by omega) (by omega))
          have HN9 := Lib.hid (HN.out.of_belowB (Below.setCell (p := ⟨q, 2, none⟩) (Below.refl (w.heap.size + 1) w6) hq1 (.int .i64 y)) (by omega))
          go_upto_region 17 with fail
          generalize w6.setCell ⟨q, 2, none⟩ (.int .i64 y) = W9 at *
          simp only [List.set_cons_zero, List.set_cons_succ] at HQ9
          have HQ := HQ9
          have HO := HO9
          have HR := HR9
          have HC := HC9
          have HN := HN9
          have t0 := HQ.out.1 0 _ rfl
          have t1 := HQ.out.1 1 _ rfl
          have t2 := HQ.out.1 2 _ rfl
          have t3 := HQ.out.1 3 _ rfl
          have rf := HR.out.2
          have r0 := HR.out.1 0 _ rfl
          have r1 := HR.out.1 1 _ rfl
          have r2 := HR.out.1 2 _ rfl
          have r3 := HR.out.1 3 _ rfl
          go_wp2
          have KS := HR.out.set4 (.int .i64 K) (.int .i64 (x1 : Int)) (.int .i64 y) (.slice N ws.length nd)
          have k0 := KS.1 0 _ rfl
          have k1 := KS.1 1 _ rfl
          have k2 := KS.1 2 _ rfl
          have k3 := KS.1 3 _ rfl
          refine bodyPost_ret (v := .agg #[.int .i64 K, .int .i64 (x1 : Int), .int .i64 y, .slice N ws.length nd]) (by simp [results, Try.results85, go_sem, k0, k1, k2, k3]) rfl ?_
          have hst : Below w.heap.size W9 ((((W9.setCell ⟨w.heap.size, 0, none⟩ (.int .i64 K)).setCell ⟨w.heap.size, 1, none⟩ (.int .i64 (x1 : Int))).setCell ⟨w.heap.size, 2, none⟩ (.int .i64 y)).setCell ⟨w.heap.size, 3, none⟩ (.slice N ws.length nd)) := by go_grown
          exact ⟨N, nd, ⟨K, (x1 : Int), y, ws⟩, rfl, (show ws.length ≤ 5 by omega), HSW.out, own_mono (own_off HO.out (only4 W9 w.heap.size _ _ _ _) (Nat.le_refl _)) (Nat.le_succ _), (HC.out.belowB HB0.out hst (Nat.le_refl _) hlt).mono (by omega), HN.out.of_belowB hst (Nat.le_refl _)⟩
        · have e2 : ((z : Int) == 2) = false := by simp; omega
          by_cases z3 : z = 3
          · have e3 : ((z : Int) == 3) = true := by simp [z3]
            clear z0 z1 z2 z3
            have HB1 := Lib.hid (below1 w5 (.cells #[] 9))
            have hz5 := HN.out.size
            have y0 := HQ.out.1 0 _ rfl
            have y1 := HQ.out.1 1 _ rfl
            have y2 := HQ.out.1 2 _ rfl
            have y3 := HQ.out.1 3 _ rfl
            have yf := HQ.out.2
            have y3 := (HB1.out.cell (p := ⟨q, 3, none⟩) hqz).trans y3
            go_wp2_with (at_builtin; go_must (refine list_append_lit elStr _ rfl _ _ rfl w5.heap.size w5.heap.size N ws.length nd (strs ws) rfl rfl (strs_len1 ws) (own_nil_lit w5 _ _ _ _ rfl (Nat.le_refl _)) (Cells.of_own (own_keep HO.out HB1.out)) strs_one (by simp) (by omega) ?_); intro O6 d6 w6 own hb hq6; have HO6 := Lib.hid own; have HB6 := Lib.hid ((HB1.out.trans (hb.mono HB1.out.size)).trans (below1 w6 (.cells (strs wdBad).toArray 9) |>.mono (Nat.le_trans HB1.out.size hb.size))); have HB66 := Lib.hid (HB1.out.trans (hb.mono HB1.out.size)); clear own hb hq6 y0 y1 y2 y3 yf; skip)
            have HL6 := Lib.hid (cells_arr w6 (strs wdBad).toArray 9 w6.heap.size rfl)
            have HO6 := Lib.hid (own_alloc HO6.out (.cells (strs wdBad).toArray 9))
            have HC6 := Lib.hid (HC.out.below HB6.out)
            have HQ6 := Lib.hid (HQ.out.below HB6.out hqz)
            have HR6 := Lib.hid (HR.out.below HB6.out hrz)
            have HN6 := Lib.hid (HN.out.trans (Only.of_below HB6.out))
            have hq6 := Nat.lt_of_lt_of_le hqz HB6.out.size
            have hr6 := Nat.lt_of_lt_of_le hrz HB6.out.size
            have hne : w6.heap.size ≠ b := by have := HB66.out.size; omega
            refine (of_any wdBad (some ⟨w6.heap.size, 0, none⟩) 3 (by decide) (by decide) b A n c _ (w6.alloc (.cells (strs wdBad).toArray 9)) HC6.out (by omega) HL6.out (fun a ha => by obtain rfl := Option.some.inj ha; exact hne)).mono ?_
            rintro e w7 ⟨⟨s, rfl, hs⟩, hc, ho⟩
            have HSS := Lib.hid (wdBad_short s hs)
            have HC := Lib.hid hc
            have HO := Lib.hid (own_off HO6.out ho (by omega))
            have HQ := Lib.hid (HQ6.out.only_ ho hq6 (by omega))
            have HR := Lib.hid (HR6.out.only_ ho hr6 (by omega))
            have HN := Lib.hid (HN6.out.trans ho)
            have hz7 : w5.heap.size ≤ w7.heap.size := Nat.le_trans HB6.out.size ho.size
            clear hc ho hs HC6 HO6 HQ6 HR6 HN6 HL6 hq6 hr6
            go_upto_region 17 with (at_builtin; go_must (refine list_append_gr elStr _ rfl _ _ rfl w5.heap.size O6 _ d6 ws.length 1 1 (strs ws) (strs [s]) rfl rfl rfl (own_alloc HO.out _) (cells_arr _ #[.string s] _ _ rfl) strs_one (by simp; omega) (by omega) ?_); intro O8 d8 w8 own hb hg; have HO8 := Lib.hid own; have HB8 := Lib.hid (((below1 w7 (.cells #[.string s] 9)).mono hz7).trans hb); have y3 := (HB8.out.cell (p := ⟨q, 3, none⟩) hqz).trans (HQ.out.1 3 _ rfl); have yf := fun i => (HB8.out.frozen (p := ⟨q, i, none⟩) hqz).trans (HQ.out.2 i); clear own hb hg)
            have HQ := Lib.hid ((HQ.out.below HB8.out hqz).set (k := 3) (by simp) (.slice O8 (ws.length + 1) d8))
            have HO := Lib.hid (own_mono (ownsRow_setCell_other HO8.out (fun e => Nat.lt_irrefl q (Nat.lt_of_lt_of_le hqz (HO8.out.lt _ e).1)) (a := ⟨q, 3, none⟩) (.slice O8 (ws.length + 1) d8)) (show w.heap.size + 1 ≤ w5.heap.size from hrz))
            have HR := Lib.hid ((HR.out.below HB8.out hrz).setO (q := q) (i := 3) (by omega) (.slice O8 (ws.length + 1) d8))
            have hbs := Below.setCell (p := ⟨q, 3, none⟩) (HB8.out.mono (show w.heap.size + 1 ≤ w5.heap.size from hrz)) hq1 (.slice O8 (ws.length + 1) d8)
            have HC := Lib.hid (HC.out.belowB HB0.out hbs (by omega) (by omega))
            have HN := Lib.hid (HN.out.of_belowB hbs (by omega))
            obtain ⟨vs, hvs⟩ : ∃ v, Hid (ws ++ [s] = v) := ⟨_, Lib.hid rfl⟩
            have HEQ := Lib.hid (show vs.length = ws.length + 1 by rw [← hvs.out]; simp)
            have HSV := Lib.hid (show Short vs by rw [← hvs.out]; exact HSW.out.snoc HSS.out)
            clear hbs y3 yf
            generalize w8.setCell ⟨q, 3, none⟩ (.slice O8 (ws.length + 1) d8) = W9 at *
            simp only [List.set_cons_zero, List.set_cons_succ] at HQ
            rw [← HEQ.out, ← strs_append, hvs.out] at HO
            rw [← HEQ.out] at HQ ⊢
            have t0 := HQ.out.1 0 _ rfl
            have t1 := HQ.out.1 1 _ rfl
            have t2 := HQ.out.1 2 _ rfl
            have t3 := HQ.out.1 3 _ rfl
            have rf := HR.out.2
            have r0 := HR.out.1 0 _ rfl
            have r1 := HR.out.1 1 _ rfl
            have r2 := HR.out.1 2 _ rfl
            have r3 := HR.out.1 3 _ rfl
            go_wp2
            have KS := HR.out.set4 (.int .i64 K) (.int .i64 (x1 : Int)) (.int .i64 (x3 : Int)) (.slice O8 vs.length d8)
            have k0 := KS.1 0 _ rfl
            have k1 := KS.1 1 _ rfl
            have k2 := KS.1 2 _ rfl
            have k3 := KS.1 3 _ rfl
            refine bodyPost_ret (v := .agg #[.int .i64 K, .int .i64 (x1 : Int), .int .i64 (x3 : Int), .slice O8 vs.length d8]) (by simp [results, Try.results85, go_sem, k0, k1, k2, k3]) rfl ?_
            have hst : Below w.heap.size W9 ((((W9.setCell ⟨w.heap.size, 0, none⟩ (.int .i64 K)).setCell ⟨w.heap.size, 1, none⟩ (.int .i64 (x1 : Int))).setCell ⟨w.heap.size, 2, none⟩ (.int .i64 (x3 : Int))).setCell ⟨w.heap.size, 3, none⟩ (.slice O8 vs.length d8)) := by go_grown
            exact ⟨O8, d8, ⟨K, (x1 : Int), (x3 : Int), vs⟩, rfl, (show vs.length ≤ 5 by have := HEQ.out; omega), HSV.out, own_mono (own_off HO.out (only4 W9 w.heap.size _ _ _ _) (Nat.le_refl _)) (Nat.le_succ _), (HC.out.belowB HB0.out hst (Nat.le_refl _) hlt).mono (by omega), HN.out.of_belowB hst (Nat.le_refl _)⟩
          · have e3 : ((z : Int) == 3) = false := by simp; omega
            clear z0 z1 z2 z3
            go_upto_region 17 with fail
            have t0 := HQ.out.1 0 _ rfl
            have t1 := HQ.out.1 1 _ rfl
            have t2 := HQ.out.1 2 _ rfl
            have t3 := HQ.out.1 3 _ rfl
            have rf := HR.out.2
            have r0 := HR.out.1 0 _ rfl
            have r1 := HR.out.1 1 _ rfl
            have r2 := HR.out.1 2 _ rfl
            have r3 := HR.out.1 3 _ rfl
            go_wp2
            have KS := HR.out.set4 (.int .i64 K) (.int .i64 (x1 : Int)) (.int .i64 (x3 : Int)) (.slice N ws.length nd)
            have k0 := KS.1 0 _ rfl
            have k1 := KS.1 1 _ rfl
            have k2 := KS.1 2 _ rfl
            have k3 := KS.1 3 _ rfl
            refine bodyPost_ret (v := .agg #[.int .i64 K, .int .i64 (x1 : Int), .int .i64 (x3 : Int), .slice N ws.length nd]) (by simp [results, Try.results85, go_sem, k0, k1, k2, k3]) rfl ?_
            have hst : Below w.heap.size w5 ((((w5.setCell ⟨w.heap.size, 0, none⟩ (.int .i64 K)).setCell ⟨w.heap.size, 1, none⟩ (.int .i64 (x1 : Int))).setCell ⟨w.heap.size, 2, none⟩ (.int .i64 (x3 : Int))).setCell ⟨w.heap.size, 3, none⟩ (.slice N ws.length nd)) := by go_grown
            exact ⟨N, nd, ⟨K, (x1 : Int), (x3 : Int), ws⟩, rfl, (show ws.length ≤ 5 by omega), HSW.out, own_mono (own_off HO.out (only4 w5 w.heap.size _ _ _ _) (Nat.le_refl _)) (Nat.le_succ _), (HC.out.belowB HB0.out hst (Nat.le_refl _) hlt).mono (by omega), HN.out.of_belowB hst (Nat.le_refl _)⟩
end Go.Proofs.Ytgchbimjgdoifaa
namespace Go.Proofs.Ytgchbimjgdoifaa
open Go.RowKit
set_option linter.unusedVariables false
set_option linter.unusedSimpArgs false
attribute [local go_sem ↓] Go.wp_at_zero Go.wp_at_succ
theorem Cur.new_ {w : World} {A : Option Addr} {n c : Nat} (h : BytesC w A n) (hn : n ≤ 65536) (T : TypeId) : Cur (w.alloc (.cells #[.slice A n c, .int .i64 0, .int .u64 0] T)) w.heap.size A n c 0 := by
  refine ⟨⟨0, 0, Nat.le_refl _, Int.le_refl _, by omega, BoxF.new' w _ _ _ rfl⟩, by simp, fun a ha hn0 => ?_, h.block fun a _ hl => (below1 w _).block _ hl, hn⟩
  obtain ⟨a', x, hA, _, _, hc⟩ := h 0 hn0
  rw [ha] at hA
  obtain rfl := Option.some.inj hA
  have := World.block_lt_of_cell? _ _ hc
  rw [block_add] at this
  omega
theorem BytesC.below_ {w w' : World} {A : Option Addr} {n : Nat} (h : BytesC w A n) (hb : Below w.heap.size w w') : BytesC w' A n := h.block fun a _ hl => hb.block _ hl
theorem cell_far {w : World} {p : Addr} {q j : Nat} {v : Value} (h : p.block ≠ q) : (w.setCell ⟨q, j, none⟩ v).cell? p = w.cell? p := World.cell?_of_block (Below.heap_setCell w ⟨q, j, none⟩ v p.block (by simp; omega))
theorem Short.app {ss : List ByteArray} {a : Amd} (h : Short ss) (h' : Short a.ws) : Short (appL ss a) := by
  unfold appL
  split
  · intro s hs
    rcases amdL_mem hs with h1 | h1
    · exact h s h1
    · exact h' s h1
  · intro s hs; simp at hs
theorem appL_len {ss : List ByteArray} {a : Amd} : (appL ss a).length ≤ 20 := by
  unfold appL
  split
  · rename_i h
    unfold canB at h
    rw [Bool.and_eq_true, Bool.and_eq_true] at h
    have := fitsB_len h.2 h.1.2
    omega
  · simp
set_option maxRecDepth 100000 in
set_option maxHeartbeats 4000000 in
theorem DrawFitsText_any (A : Option Addr) (n c : Nat) (w : World) (h : BytesC w A n) (hn : n ≤ 65536) :
    Calls Try.prog 76 #[.slice A n c] w fun e w' => ∃ (O N : Option Addr) (d nd : Nat) (ss : List ByteArray) (a : Amd), e = .returned (.tuple #[.slice O ss.length d, .agg #[.int .i64 a.k, .int .i64 a.p, .int .i64 a.n, .slice N a.ws.length nd]]) ∧ OwS w.heap.size w'.heap.size w' O d ss ∧ OwS w.heap.size w'.heap.size w' N nd a.ws ∧ Below w.heap.size w w' := by
  have hb1 := below1 w (.cells #[.int .i64 0, .int .i64 0, .int .i64 0, .slice none 0 0] 40)
  have HR := Lib.hid ((BoxF.new' w #[.int .i64 0, .int .i64 0, .int .i64 0, .slice none 0 0] 40 w.heap.size rfl).below (below1 (w.alloc (.cells #[.int .i64 0, .int .i64 0, .int .i64 0, .slice none 0 0] 40)) (.cells #[.slice A n c, .int .i64 0, .int .u64 0] 94)) (by simp))
  have HC := Lib.hid (Cur.new_ (c := c) (h.below_ hb1) hn 94)
  have HB := Lib.hid (below2 w (.cells #[.int .i64 0, .int .i64 0, .int .i64 0, .slice none 0 0] 40) (.cells #[.slice A n c, .int .i64 0, .int .u64 0] 94))
  have hbe : (w.alloc (.cells #[.int .i64 0, .int .i64 0, .int .i64 0, .slice none 0 0] 40)).heap.size = w.heap.size + 1 := by simp
  have hz : w.heap.size + 1 < ((w.alloc (.cells #[.int .i64 0, .int .i64 0, .int .i64 0, .slice none 0 0] 40)).alloc (.cells #[.slice A n c, .int .i64 0, .int .u64 0] 94)).heap.size := by simp
  rw [hbe] at HC
  clear h hb1 hbe
  go_enter Try.func76, Try.ntmps76
  go_upto_region 2 with fail
  generalize (w.alloc (.cells #[.int .i64 0, .int .i64 0, .int .i64 0, .slice none 0 0] 40)).alloc (.cells #[.slice A n c, .int .i64 0, .int .u64 0] 94) = W0 at *
  go_wp2_with fail
  refine (text_any (w.heap.size + 1) A n c 0 W0 HC.out (by omega)).mono ?_
  rintro e w1 ⟨O, d, ss, rfl, hsl, hss, own, hc, ho⟩
  have HS := Lib.hid hss
  have HO := Lib.hid (own_mono own (show w.heap.size + 2 ≤ W0.heap.size from hz))
  have HR := Lib.hid (HR.out.blk (ho.block _ (by omega) (.inl (Nat.lt_succ_self _))))
  have HC := Lib.hid hc
  have HB := Lib.hid (HB.out.trans (ho.below (Nat.le_of_lt hz) |>.mono (Nat.le_succ _)))
  have hz := Nat.lt_of_lt_of_le hz ho.size
  clear hss own hc ho
  go_wp2_with fail
  refine (amendment_any O d ss.length (w.heap.size + 1) A n c _ w1 HC.out (by omega) (by omega)).mono ?_
  rintro e w2 ⟨N, nd, a, rfl, hal, has, own, hc, ho⟩
  have HSA := Lib.hid has
  have hb := below1 w2 (.cells #[.int .i64 a.k, .int .i64 a.p, .int .i64 a.n, .slice N a.ws.length nd] 40)
  have hwz := ho.size
  have HQ := Lib.hid (BoxF.new' w2 #[.int .i64 a.k, .int .i64 a.p, .int .i64 a.n, .slice N a.ws.length nd] 40 w2.heap.size rfl)
  have HU := Lib.hid (Under.own own)
  have HOA := Lib.hid (own_mono (own_alloc own (.cells #[.int .i64 a.k, .int .i64 a.p, .int .i64 a.n, .slice N a.ws.length nd] 40)) (show w.heap.size + 2 ≤ w1.heap.size from hz))
  have HUO := Lib.hid ((Under.own HO.out).mono hwz)
  have HO := Lib.hid (own_alloc (own_off HO.out ho (Nat.le_refl _)) (.cells #[.int .i64 a.k, .int .i64 a.p, .int .i64 a.n, .slice N a.ws.length nd] 40))
  have HR := Lib.hid ((HR.out.blk (ho.block _ (by omega) (.inl (Nat.lt_succ_self _)))).below hb (by omega))
  have HC := Lib.hid (hc.below hb)
  have HB := Lib.hid ((HB.out.trans (ho.below (Nat.le_of_lt hz) |>.mono (Nat.le_succ _))).trans (hb.mono (by have := HB.out.size; omega)))
  have hqz : w2.heap.size < (w2.alloc (.cells #[.int .i64 a.k, .int .i64 a.p, .int .i64 a.n, .slice N a.ws.length nd] 40)).heap.size := by simp
  have hq1 : w.heap.size + 2 ≤ w2.heap.size := by omega
  have HTB := Lib.hid (fun (ad : Addr) (hO : O = some ad) => (show ad.block ≠ w2.heap.size from fun e => Nat.lt_irrefl _ (e ▸ HUO.out ad hO)))
  clear has own hc ho hb hz
  go_upto_region 4 with fail
  generalize w2.alloc (.cells #[.int .i64 a.k, .int .i64 a.p, .int .i64 a.n, .slice N a.ws.length nd] 40) = W at *
  generalize w2.heap.size = q at *
  go_cut [33] (fun s wx => ∃ B : Bool, s = .bool B ∧ (B = true → 0 ≤ a.p ∧ a.p < (ss.length : Int)) ∧ Hid (wx.ownsRow (w.heap.size + 2) 9 1 (.slice O ss.length d) ss.length (strs ss)) ∧ Hid (wx.ownsRow (w.heap.size + 2) 9 1 (.slice N a.ws.length nd) a.ws.length (strs a.ws)) ∧ Hid (BoxF wx q [.int .i64 a.k, .int .i64 a.p, .int .i64 a.n, .slice N a.ws.length nd]) ∧ Hid (BoxF wx w.heap.size [.int .i64 0, .int .i64 0, .int .i64 0, .slice none 0 0]) ∧ Hid (Below w.heap.size w wx) ∧ q < wx.heap.size)
  case first =>
    have y0 := HQ.out.1 0 _ rfl
    have HV := Lib.hid (l9Text_any O d ss W (Cells.of_own HO.out) (by omega) (HS.out.fit (by omega)).2)
    rcases Bool.eq_false_or_eq_true (wordsB ss 0 20) with hr | hr
    · rcases Bool.eq_false_or_eq_true (a.k == 3) with hk | hk
      · have hON := one_any 6 (by omega) (by omega) (w.heap.size + 1) A n c _ W HC.out (by omega)
        have HON := Lib.hid hON
        clear hON
        have q1 : IntKind.i64.wrap ((ss.length : Int) - 1) = (ss.length : Int) - 1 := by rw [IntKind.wrap_i64]; omega
        go_wp2_with (go_at_call 65; refine HV.out.mono ?_; rintro e w' ⟨rfl, rfl⟩; rw [hr])
        refine HON.out.mono ?_
        rintro e w3 ⟨⟨y, rfl⟩, hc, ho⟩
        have HO := Lib.hid (own_off HO.out ho (Nat.le_refl _))
        have HOA := Lib.hid (own_off HOA.out ho (Nat.le_refl _))
        have HQ := Lib.hid (HQ.out.only_ ho hqz hq1)
        have HR := Lib.hid (HR.out.blk (ho.block _ (by omega) (.inl (Nat.lt_succ_self _))))
        have HB := Lib.hid (HB.out.trans (ho.below (by omega) |>.mono (Nat.le_succ _)))
        have hqz := Nat.lt_of_lt_of_le hqz ho.size
        clear hc ho y0
        have y1 := HQ.out.1 1 _ rfl
        rcases Bool.eq_false_or_eq_true y with hy | hy
        · subst hy
          go_wp2_with (go_at_call 109; refine (l1In_any _ _ _ _).mono ?_; rintro e w' ⟨rfl, rfl⟩)
          go_meet
          exact ⟨_, rfl, fun hh => by have := inB_iff.1 hh; omega, HO, HOA, HQ, HR, HB, hqz⟩
        · subst hy
          go_wp2_with fail
          go_meet
          exact ⟨false, rfl, fun hh => (by cases hh), HO, HOA, HQ, HR, HB, hqz⟩
      · go_wp2_with (go_at_call 65; refine HV.out.mono ?_; rintro e w' ⟨rfl, rfl⟩; rw [hr])
        go_meet
        exact ⟨false, rfl, fun hh => (by cases hh), HO, HOA, HQ, HR, HB, hqz⟩
    · go_wp2_with (go_at_call 65; refine HV.out.mono ?_; rintro e w' ⟨rfl, rfl⟩; rw [hr])
      go_meet
      exact ⟨false, rfl, fun hh => (by cases hh), HO, HOA, HQ, HR, HB, hqz⟩
  case rest =>
    clear HO HOA HQ HR HB HC hqz HU HUO
    obtain ⟨W, rfl⟩ : ∃ W, W = wc := ⟨_, rfl⟩
    obtain ⟨B, rfl, hBB, HO, HOA, HQ, HR, HBW, hqz⟩ := hcut
    go_upto_if 33 with fail
    go_cut [] (fun wx => ∃ (N : Option Addr) (nd : Nat) (a : Amd), Hid (wx.ownsRow (w.heap.size + 2) 9 1 (.slice O ss.length d) ss.length (strs ss)) ∧ Hid (wx.ownsRow (w.heap.size + 2) 9 1 (.slice N a.ws.length nd) a.ws.length (strs a.ws)) ∧ Hid (Fit a.ws) ∧ Hid (BoxF wx q [.int .i64 a.k, .int .i64 a.p, .int .i64 a.n, .slice N a.ws.length nd]) ∧ Hid (BoxF wx w.heap.size [.int .i64 0, .int .i64 0, .int .i64 0, .slice none 0 0]) ∧ Hid (Below w.heap.size w wx) ∧ q < wx.heap.size)
    case first =>
      rcases Bool.eq_false_or_eq_true B with hb | hb
      · obtain ⟨hi0, hi1⟩ := hBB hb
        subst hb
        obtain ⟨i, hi⟩ := Int.eq_ofNat_of_zero_le hi0
        have hil : i < ss.length := by omega
        rw [hi] at HQ
        obtain ⟨tad, rfl, hts⟩ := Cells.of_own HO.out i (.string ss[i]) (strs_get hil)
        obtain ⟨s, hs⟩ : ∃ s, Hid (ss[i] = s) := ⟨_, Lib.hid rfl⟩
        have HSZ := Lib.hid ((HS.out.fit (by omega)).2 _ (List.getElem_mem hil))
        rw [hs.out] at hts HSZ
        have y0 := HQ.out.1 0 _ rfl
        have y1 := HQ.out.1 1 _ rfl
        have y2 := HQ.out.1 2 _ rfl
        have y3 := HQ.out.1 3 _ rfl
        have yf := HQ.out.2
        have hrz : w.heap.size < W.heap.size := by omega
        have htq : tad.block ≠ q := HTB.out tad rfl
        have i1 : (i : Int) < (ss.length : Int) := by omega
        have i2 : (0 : Int) ≤ (i : Int) := by omega
        go_wp2_with fail
        refine wp_region_noPanic ?_
        refine wp_region_held_drew (S := (fun w' => Below w.heap.size w w' ∧ w'.cell? ⟨q, 1, none⟩ = some (.int .i64 (i : Int)) ∧ w'.cell? (tad.add i) = some (.string s))) (by kernel_rfl) ?_ (fun hHeld => ?_)
        · ((try dsimp only); exact ⟨HBW.out.trans ((Below.refl _ _).drew.mono HBW.out.size), y1, hts⟩)
        have HUD := Lib.hid ((Below.refl W.heap.size W).drew)
        have hud : W.heap.size = W.drew.heap.size := rfl
        generalize W.drew = ud at *
        refine take_yes (i := 0) (d := 34) (v := ?_) rfl rfl (by kernel_rfl) (by kernel_rfl) (by kernel_rfl) (fun _ _ _ h => h) (by kernel_rfl) ?_ hHeld ?_
        rotate_left
        · (intro w hSw; (try dsimp only at hSw); go_simp; try (with_reducible rfl))
        try simp only [Act.put, List.setIfInBounds_toArray, List.set_cons_zero, List.set_cons_succ]
        refine take_yes (i := 1) (d := 35) (v := ?_) rfl rfl (by kernel_rfl) (by kernel_rfl) (by kernel_rfl) (fun _ _ _ h => h) (by kernel_rfl) ?_ hHeld ?_
        rotate_left
        · (intro w hSw; (try dsimp only at hSw); go_simp; try (with_reducible rfl))
        try simp only [Act.put, List.setIfInBounds_toArray, List.set_cons_zero, List.set_cons_succ]
        refine take_yes (i := 2) (d := 36) (v := ?_) rfl rfl (by kernel_rfl) (by kernel_rfl) (by kernel_rfl) (fun _ _ _ h => h) (by kernel_rfl) ?_ hHeld ?_
        rotate_left
        · (intro w hSw; (try dsimp only at hSw); go_simp; try (with_reducible rfl))
        try simp only [Act.put, List.setIfInBounds_toArray, List.set_cons_zero, List.set_cons_succ]
        refine take_yes (i := 3) (d := 37) (v := ?_) rfl rfl (by kernel_rfl) (by kernel_rfl) (by kernel_rfl) (fun _ _ _ h => h) (by kernel_rfl) ?_ hHeld ?_
        rotate_left
        · (intro w hSw; (try dsimp only at hSw); go_simp; try (with_reducible rfl))
        try simp only [Act.put, List.setIfInBounds_toArray, List.set_cons_zero, List.set_cons_succ]
        refine take_yes (i := 4) (d := 38) (v := ?_) rfl rfl (by kernel_rfl) (by kernel_rfl) (by kernel_rfl) (fun _ _ _ h => h) (by kernel_rfl) ?_ hHeld ?_
        rotate_left
        · (intro w hSw; (try dsimp only at hSw); go_simp; try (with_reducible rfl))
        try simp only [Act.put, List.setIfInBounds_toArray, List.set_cons_zero, List.set_cons_succ]
        refine take_yes (i := 5) (d := 39) (v := ?_) rfl rfl (by kernel_rfl) (by kernel_rfl) (by kernel_rfl) (fun _ _ _ h => h) (by kernel_rfl) ?_ hHeld ?_
        rotate_left
        · (intro w hSw; (try dsimp only at hSw); go_simp; try (with_reducible rfl))
        try simp only [Act.put, List.setIfInBounds_toArray, List.set_cons_zero, List.set_cons_succ]
        refine take_yes (i := 6) (d := 40) (v := ?_) rfl rfl (by kernel_rfl) (by kernel_rfl) (by kernel_rfl) (fun _ _ _ h => h) (by kernel_rfl) ?_ hHeld ?_
        rotate_left
        · (intro w hSw; (try dsimp only at hSw); go_simp; try (with_reducible rfl))
        try simp only [Act.put, List.setIfInBounds_toArray, List.set_cons_zero, List.set_cons_succ]
        refine wpAnyH_ready (rs := [7]) (by kernel_rfl) (by simp) ?_
        refine AllReadyH.cons rfl (fun K hK => ?_) (AllReadyH.nil)
        try go_simp
        (first | refine hK.out _ _ ?_ (fun hHeld1 => ?_) | (go_wp2_with fail; refine hK.out _ _ ?_ (fun hHeld1 => ?_)))
        · ((try dsimp only); exact (fun hb => ⟨HBW.out.trans (hb.mono HBW.out.size), (hb.cell (World.block_lt_of_cell? _ _ y1)).trans y1, (hb.cell (World.block_lt_of_cell? _ _ hts)).trans hts⟩) (HUD.out.alloc (Nat.le_of_eq hud) (.cells #[.string s] 9)))
        clear hK K hHeld
        have hHeld := hHeld1
        clear hHeld1
        try simp only [Act.put, List.setIfInBounds_toArray, List.set_cons_zero, List.set_cons_succ]
        have HX5 := Lib.hid (show Below W.heap.size W (ud.alloc (.cells #[.string s] 9)) from HUD.out.alloc (Nat.le_of_eq hud) (.cells #[.string s] 9))
        have HQX := Lib.hid (HQ.out.below HX5.out hqz)
        have z0 := HQX.out.1 0 _ rfl
        have z1 := HQX.out.1 1 _ rfl
        have z2 := HQX.out.1 2 _ rfl
        have z3 := HQX.out.1 3 _ rfl
        have zf := HQX.out.2
        have hts5 := (HX5.out.cell (World.block_lt_of_cell? _ _ hts)).trans hts
        have HOW5 : Hid ((ud.alloc (.cells #[.string s] 9)).ownsRow W.heap.size 9 1 (.slice (some ⟨ud.heap.size, 0, none⟩) 1 1) 1 (strs [s])) := Lib.hid (World.ownsRow_lit ud #[.string s] 1 (Nat.le_of_eq hud) (by unfold maxLen; omega) (by rfl))
        have HO5 := Lib.hid (own_keep HO.out HX5.out)
        have HR5 := Lib.hid (HR.out.below HX5.out hrz)
        have hz5 := HX5.out.size
        have HBX := Lib.hid (HBW.out.trans (HX5.out.mono HBW.out.size))
        generalize ud.alloc (.cells #[.string s] 9) = W5 at *
        generalize ud.heap.size = gd at *
        have hHD := hHeld
        clear hHeld
        have hHeld := hHD
        clear hHD
        refine take_yes (i := 8) (d := 42) (v := ?_) rfl rfl (by kernel_rfl) (by kernel_rfl) (by kernel_rfl) (fun _ _ _ h => h) (by kernel_rfl) ?_ hHeld ?_
        rotate_left
        · (intro w hSw; (try dsimp only at hSw); go_simp; try (with_reducible rfl))
        try simp only [Act.put, List.setIfInBounds_toArray, List.set_cons_zero, List.set_cons_succ]
        refine wpAnyH_ready (rs := [9]) (by kernel_rfl) (by simp) ?_
        refine AllReadyH.cons rfl (fun K hK => ?_) (AllReadyH.nil)
        try go_simp
        have hst : Below (w.heap.size + 1) W5 ((((W5.setCell ⟨q, 0, none⟩ (.int .i64 3)).setCell ⟨q, 1, none⟩ (.int .i64 (i : Int))).setCell ⟨q, 2, none⟩ (.int .i64 1)).setCell ⟨q, 3, none⟩ (.slice (some ⟨gd, 0, none⟩) 1 1)) := by (refine Below.setCell (Below.setCell (Below.setCell (Below.setCell (Below.refl _ _) ?_ _) ?_ _) ?_ _) ?_ _ <;> exact Nat.le_of_succ_le hq1)
        have HSC := Lib.hid (show (((((W5.setCell ⟨q, 0, none⟩ (.int .i64 3)).setCell ⟨q, 1, none⟩ (.int .i64 (i : Int))).setCell ⟨q, 2, none⟩ (.int .i64 1)).setCell ⟨q, 3, none⟩ (.slice (some ⟨gd, 0, none⟩) 1 1))).cell? (tad.add i) = some (.string s) by (rw [cell_far (by rw [block_add]; exact htq), cell_far (by rw [block_add]; exact htq), cell_far (by rw [block_add]; exact htq), cell_far (by rw [block_add]; exact htq)]; exact hts5))
        have HST := Lib.hid hst
        have HQ5 := Lib.hid (HQX.out.set4 (.int .i64 3) (.int .i64 (i : Int)) (.int .i64 1) (.slice (some ⟨gd, 0, none⟩) 1 1))
        clear hst
        (first | refine hK.out _ _ ?_ (fun hHeld1 => ?_) | (go_wp2_with fail; refine hK.out _ _ ?_ (fun hHeld1 => ?_)))
        · ((try dsimp only); exact ⟨HBX.out.trans (HST.out.mono (Nat.le_succ _)), HQ5.out.1 1 _ rfl, HSC.out⟩)
        clear hK K hHeld
        have hHeld := hHeld1
        clear hHeld1
        try simp only [Act.put, List.setIfInBounds_toArray, List.set_cons_zero, List.set_cons_succ]
        refine wpAnyH_done (by kernel_rfl) ?_ _
        refine NoPanic.normal ?_
        clear hHeld
        go_wp2_with fail
        go_meet
        exact ⟨_, _, ⟨3, i, 1, [s]⟩, Lib.hid (own_off4 HO5.out (fun e => htq (Option.some.inj e)) _ _ _ _), Lib.hid (own_mono (own_off4 HOW5.out (fun e => Nat.lt_irrefl q (by have h9 : gd = q := Option.some.inj e; omega)) _ _ _ _) (by omega)), Lib.hid ⟨by simp, fun x hx => by simp at hx; subst hx; exact HSZ.out⟩, HQ5, Lib.hid ((((HR5.out.setO (by omega) _).setO (by omega) _).setO (by omega) _).setO (by omega) _), Lib.hid (HBX.out.trans (HST.out.mono (Nat.le_succ _))), by simp; omega⟩
      · subst hb
        go_wp2_with fail
        go_meet
        exact ⟨N, nd, a, HO, HOA, Lib.hid (HSA.out.fit (by omega)), HQ, HR, HBW, hqz⟩
    case rest =>
      clear HO HOA HQ HR HBW hqz hBB
      obtain ⟨W, rfl⟩ : ∃ W, W = wc := ⟨_, rfl⟩
      obtain ⟨N, nd, a, HO, HOA, HFA, HQ, HR, HBW, hqz⟩ := hcut
      have y0 := HQ.out.1 0 _ rfl
      have y1 := HQ.out.1 1 _ rfl
      have y2 := HQ.out.1 2 _ rfl
      have y3 := HQ.out.1 3 _ rfl
      have rf := HR.out.2
      have r0 := HR.out.1 0 _ rfl
      have r1 := HR.out.1 1 _ rfl
      have r2 := HR.out.1 2 _ rfl
      have r3 := HR.out.1 3 _ rfl
      have hqr : (⟨q, 0, none⟩ : Addr).block ≠ w.heap.size := by show q ≠ w.heap.size; omega
      go_wp2_with fail
      refine wp_region_noPanic ?_
      refine wp_region_held_drew (S := (fun w' => Below w.heap.size w w' ∧ w'.cell? ⟨q, 0, none⟩ = some (.int .i64 a.k) ∧ w'.cell? ⟨q, 1, none⟩ = some (.int .i64 a.p) ∧ w'.cell? ⟨q, 2, none⟩ = some (.int .i64 a.n) ∧ w'.cell? ⟨q, 3, none⟩ = some (.slice N a.ws.length nd))) (by kernel_rfl) ?_ (fun hHeld => ?_)
      · ((try dsimp only); exact ⟨HBW.out.trans ((Below.refl _ _).drew.mono HBW.out.size), y0, y1, y2, y3⟩)
      have HUD := Lib.hid ((Below.refl W.heap.size W).drew)
      have HBW := Lib.hid (HBW.out.trans (HUD.out.mono HBW.out.size))
      have HR := Lib.hid (HR.out.drew)
      have HO := Lib.hid (World.ownsRow.drew HO.out)
      have HOA := Lib.hid (World.ownsRow.drew HOA.out)
      have y0 := (HQ.out.drew).1 0 _ rfl
      have y1 := (HQ.out.drew).1 1 _ rfl
      have y2 := (HQ.out.drew).1 2 _ rfl
      have y3 := (HQ.out.drew).1 3 _ rfl
      have rf := HR.out.2
      have r0 := HR.out.1 0 _ rfl
      have r1 := HR.out.1 1 _ rfl
      have r2 := HR.out.1 2 _ rfl
      have r3 := HR.out.1 3 _ rfl
      clear HUD
      generalize W.drew = ud at *
      refine take_yes (i := 0) (d := 43) (v := ?_) rfl rfl (by kernel_rfl) (by kernel_rfl) (by kernel_rfl) (fun _ _ _ h => h) (by kernel_rfl) ?_ hHeld ?_
      rotate_left
      · (intro w hSw; (try dsimp only at hSw); go_simp; try (with_reducible rfl))
      try simp only [Act.put, List.setIfInBounds_toArray, List.set_cons_zero, List.set_cons_succ]
      refine take_yes (i := 1) (d := 44) (v := ?_) rfl rfl (by kernel_rfl) (by kernel_rfl) (by kernel_rfl) (fun _ _ _ h => h) (by kernel_rfl) ?_ hHeld ?_
      rotate_left
      · (intro w hSw; (try dsimp only at hSw); go_simp; try (with_reducible rfl))
      try simp only [Act.put, List.setIfInBounds_toArray, List.set_cons_zero, List.set_cons_succ]
      refine take_yes (i := 2) (d := 2) (v := ?_) rfl rfl (by kernel_rfl) (by kernel_rfl) (by kernel_rfl) (fun _ _ _ h => h) (by kernel_rfl) ?_ hHeld ?_
      rotate_left
      · (intro w hSw; (try dsimp only at hSw); go_simp; try (with_reducible rfl))
      try simp only [Act.put, List.setIfInBounds_toArray, List.set_cons_zero, List.set_cons_succ]
      have HFB := Lib.hid (show Below w.heap.size w ((((ud.setCell ⟨w.heap.size, 0, none⟩ (.int .i64 a.k)).setCell ⟨w.heap.size, 1, none⟩ (.int .i64 a.p)).setCell ⟨w.heap.size, 2, none⟩ (.int .i64 a.n)).setCell ⟨w.heap.size, 3, none⟩ (.slice N a.ws.length nd)) from HBW.out.trans (by (refine Below.setCell (Below.setCell (Below.setCell (Below.setCell (Below.refl w.heap.size ud) ?_ _) ?_ _) ?_ _) ?_ _) <;> exact Nat.le_refl _))
      refine wpAnyH_ready (rs := [3]) (by kernel_rfl) (by simp) ?_
      refine AllReadyH.cons rfl (fun K hK => ?_) (AllReadyH.nil)
      try go_simp
      (first | refine hK.out _ _ ?_ (fun hHeld1 => ?_) | (go_wp2_with fail; refine hK.out _ _ ?_ (fun hHeld1 => ?_)))
      · ((try dsimp only); exact ⟨HFB.out, (cell_far hqr).trans ((cell_far hqr).trans ((cell_far hqr).trans ((cell_far hqr).trans y0))), (cell_far hqr).trans ((cell_far hqr).trans ((cell_far hqr).trans ((cell_far hqr).trans y1))), (cell_far hqr).trans ((cell_far hqr).trans ((cell_far hqr).trans ((cell_far hqr).trans y2))), (cell_far hqr).trans ((cell_far hqr).trans ((cell_far hqr).trans ((cell_far hqr).trans y3)))⟩)
      clear hK K hHeld
      have hHeld := hHeld1
      clear hHeld1
      try simp only [Act.put, List.setIfInBounds_toArray, List.set_cons_zero, List.set_cons_succ]
      refine wpAnyH_done (by kernel_rfl) ?_ _
      refine NoPanic.normal ?_
      clear hHeld
      go_wp2
      have KS := HR.out.set4 (.int .i64 a.k) (.int .i64 a.p) (.int .i64 a.n) (.slice N a.ws.length nd)
      have k0 := KS.1 0 _ rfl
      have k1 := KS.1 1 _ rfl
      have k2 := KS.1 2 _ rfl
      have k3 := KS.1 3 _ rfl
      refine bodyPost_ret (v := .tuple #[.slice O ss.length d, .agg #[.int .i64 a.k, .int .i64 a.p, .int .i64 a.n, .slice N a.ws.length nd]]) (by simp [results, Try.results76, go_sem, k0, k1, k2, k3]) rfl ?_
      have ho1 := (own_off HO.out (only4 ud w.heap.size (.int .i64 a.k) (.int .i64 a.p) (.int .i64 a.n) (.slice N a.ws.length nd)) (by omega))
      have ho2 := (own_off HOA.out (only4 ud w.heap.size (.int .i64 a.k) (.int .i64 a.p) (.int .i64 a.n) (.slice N a.ws.length nd)) (by omega))
      exact ⟨O, N, d, nd, ss, a, rfl, ⟨own_mono ho1 (by omega), Under.own ho1, HS.out.fit (by omega)⟩, ⟨own_mono ho2 (by omega), Under.own ho2, HFA.out⟩, HFB.out⟩
set_option maxRecDepth 100000 in
set_option maxHeartbeats 4000000 in
theorem DrawSingleChange_any (A : Option Addr) (n c : Nat) (w : World) (h : BytesC w A n) (hn : n ≤ 65536) :
    Calls Try.prog 37 #[.slice A n c] w fun e w' => ∃ (O N : Option Addr) (d nd : Nat) (ss ts : List ByteArray), e = .returned (.tuple #[.slice O ss.length d, .slice N ts.length nd]) ∧ RdS w'.heap.size w' O d ss ∧ RdS w'.heap.size w' N nd ts ∧ Below w.heap.size w w' := by
  have HC := Lib.hid (Cur.new_ (c := c) h hn 94)
  have HB := Lib.hid (below1 w (.cells #[.slice A n c, .int .i64 0, .int .u64 0] 94))
  have hz : w.heap.size < (w.alloc (.cells #[.slice A n c, .int .i64 0, .int .u64 0] 94)).heap.size := by simp
  clear h
  go_enter Try.func37, Try.ntmps37
  go_upto_region 2 with fail
  generalize w.alloc (.cells #[.slice A n c, .int .i64 0, .int .u64 0] 94) = W0 at *
  go_wp2_with fail
  refine (text_any w.heap.size A n c 0 W0 HC.out (by omega)).mono ?_
  rintro e w1 ⟨O, d, ss, rfl, hsl, hss, own, hc, ho⟩
  have HS := Lib.hid hss
  have HO := Lib.hid (own_mono own (show w.heap.size + 1 ≤ W0.heap.size from hz))
  have HC := Lib.hid hc
  have HB := Lib.hid (HB.out.trans (ho.below (Nat.le_of_lt hz)))
  have hz := Nat.lt_of_lt_of_le hz ho.size
  clear hss own hc ho
  go_wp2_with fail
  refine (amendment_any O d ss.length w.heap.size A n c _ w1 HC.out (by omega) (by omega)).mono ?_
  rintro e w2 ⟨N, nd, a, rfl, hal, has, own, hc, ho⟩
  have HSA := Lib.hid has
  have HC := Lib.hid hc
  have HOA := Lib.hid own
  have HO := Lib.hid (own_off HO.out ho (Nat.le_refl _))
  have HB := Lib.hid (HB.out.trans (ho.below (Nat.le_of_lt hz)))
  have hz := Nat.lt_of_lt_of_le hz ho.size
  have HFS := Lib.hid (HS.out.fit (by omega))
  have HFA := Lib.hid (HSA.out.fit (by omega))
  clear has own hc ho
  go_wp2_with fail
  refine (sApplyAmendment_any O N d nd ss a w2 (Cells.of_own HO.out) (own_cap HO.out) HFS.out (Cells.of_own HOA.out) HFA.out).mono ?_
  rintro e w3 ⟨P, pd, rfl, own, hb⟩
  have HSP := Lib.hid (HS.out.app HSA.out)
  have HLP := Lib.hid (appL_len (ss := ss) (a := a))
  obtain ⟨ts, hts⟩ : ∃ x, Hid (appL ss a = x) := ⟨_, Lib.hid rfl⟩
  obtain ⟨ok, hok⟩ : ∃ x, Hid (canB ss a = x) := ⟨_, Lib.hid rfl⟩
  rw [hts.out] at own HSP HLP ⊢
  rw [hok.out]
  have HOP := Lib.hid (own_mono own (show w.heap.size + 1 ≤ w2.heap.size from hz))
  have HO := Lib.hid (own_keep HO.out hb)
  have HC := Lib.hid (HC.out.below hb)
  have HB := Lib.hid (after HB.out hb)
  have hz := Nat.lt_of_lt_of_le hz hb.size
  have HFP := Lib.hid (HSP.out.fit (by have := HLP.out; omega))
  clear own hb
  rcases Bool.eq_false_or_eq_true ok with hk | hk
  · subst hk
    go_wp2_with fail
    refine (one_any 4 (by omega) (by omega) w.heap.size A n c _ w3 HC.out (by omega)).mono ?_
    rintro e w4 ⟨⟨y, rfl⟩, hc, ho⟩
    have HC := Lib.hid hc
    have HO := Lib.hid (own_off HO.out ho (Nat.le_refl _))
    have HOP := Lib.hid (own_off HOP.out ho (Nat.le_refl _))
    have HB := Lib.hid (HB.out.trans (ho.below (Nat.le_of_lt hz)))
    have hz := Nat.lt_of_lt_of_le hz ho.size
    clear hc ho
    rcases Bool.eq_false_or_eq_true y with hy | hy
    · subst hy
      go_wp2_with fail
      refine (text_any w.heap.size A n c _ w4 HC.out (by omega)).mono ?_
      rintro e w5 ⟨Q, qd, us, rfl, hul, hus, own, hc, ho⟩
      have HO := Lib.hid (own_off HO.out ho (Nat.le_refl _))
      have HOQ := Lib.hid own
      have HB := Lib.hid (HB.out.trans (ho.below (Nat.le_of_lt hz)))
      have HFU := Lib.hid (hus.fit (by omega))
      clear hc ho own hus
      go_wp2
      go_ret2
      exact ⟨O, Q, d, qd, ss, us, rfl, ⟨own_cap HO.out, CellsB.own HO.out (Under.own HO.out), HFS.out⟩, ⟨own_cap HOQ.out, CellsB.own HOQ.out (Under.own HOQ.out), HFU.out⟩, HB.out⟩
    · subst hy
      go_wp2
      go_ret2
      exact ⟨O, P, d, pd, ss, ts, rfl, ⟨own_cap HO.out, CellsB.own HO.out (Under.own HO.out), HFS.out⟩, ⟨own_cap HOP.out, CellsB.own HOP.out (Under.own HOP.out), HFP.out⟩, HB.out⟩
  · subst hk
    go_wp2_with fail
    refine (text_any w.heap.size A n c _ w3 HC.out (by omega)).mono ?_
    rintro e w5 ⟨Q, qd, us, rfl, hul, hus, own, hc, ho⟩
    have HO := Lib.hid (own_off HO.out ho (Nat.le_refl _))
    have HOQ := Lib.hid own
    have HB := Lib.hid (HB.out.trans (ho.below (Nat.le_of_lt hz)))
    have HFU := Lib.hid (hus.fit (by omega))
    clear hc ho own hus
    go_wp2
    go_ret2
    exact ⟨O, Q, d, qd, ss, us, rfl, ⟨own_cap HO.out, CellsB.own HO.out (Under.own HO.out), HFS.out⟩, ⟨own_cap HOQ.out, CellsB.own HOQ.out (Under.own HOQ.out), HFU.out⟩, HB.out⟩
end Go.Proofs.Ytgchbimjgdoifaa
namespace Go.Proofs.Ytgchbimjgdoifaa
open Go.RowKit
set_option linter.unusedVariables false
set_option linter.unusedSimpArgs false
/-- A struct in a block that is there. -/
def BoxX (w : World) (q : Nat) (vs : List Value) : Prop := BoxF w q vs ∧ q < w.heap.size
theorem BoxX.step {w w' : World} {q : Nat} {vs : List Value} (h : BoxX w q vs) (hb : Below w.heap.size w w') : BoxX w' q vs := ⟨h.1.below hb h.2, Nat.lt_of_lt_of_le h.2 hb.size⟩
theorem BoxX.new (w : World) (vs : Array Value) (T : TypeId) : BoxX (w.alloc (.cells vs T)) w.heap.size vs.toList := ⟨BoxF.new' w vs T _ rfl, by simp⟩
theorem RdS.grow {w w' : World} {A : Option Addr} {c : Nat} {ss : List ByteArray} (h : RdS w.heap.size w A c ss) (hb : Below w.heap.size w w') : RdS w'.heap.size w' A c ss := RdS.step h hb
theorem OwS.rdX {lo : Nat} {w : World} {A : Option Addr} {c : Nat} {ss : List ByteArray} (h : OwS lo w.heap.size w A c ss) : RdS w.heap.size w A c ss := OwS.rd h
theorem BytesC.grow {w w' : World} {A : Option Addr} {n : Nat} (h : BytesC w A n) (hb : Below w.heap.size w w') : BytesC w' A n := h.block fun a _ hl => hb.block _ hl
theorem drew_exF {w : World} {m n : Nat} : ∃ k, (w.drewN m).drewN n = w.drewN k := ⟨m + n, World.drewN_drewN _ _ _⟩
theorem vBig_any (A : Option Addr) (n c : Nat) (w : World) : Calls Try.prog 22 #[.slice A n c] w fun e w' => e = .returned (.bool (decide (65536 < n))) ∧ Below w.heap.size w w' := by
  go_enter Try.func22, Try.ntmps22
  go_wp2
  go_ret
  exact ⟨ret_bool (by simp; try omega), Below.refl _ _⟩
set_option maxHeartbeats 1000000 in
theorem vTexts_same {B B' : Nat} {A A' : Option Addr} {c c' : Nat} {ss : List ByteArray} {w : World} (h : RdS B w A c ss) (h' : RdS B' w A' c' ss) :
    Calls Try.prog 26 #[.slice A ss.length c, .slice A' ss.length c'] w fun e w' => e = .returned (.bool true) ∧ Below w.heap.size w w' := by
  have ha := h.cells
  have hb := h'.cells
  have hn := h.2.2.1
  have hne : ((ss.length : Int) != (ss.length : Int)) = false := by simp
  clear h h'
  go_enter Try.func26, Try.ntmps26
  go_wp2
  go_loopw [5] (fun i wr => ∃ k : Nat, k ≤ ss.length ∧ i = .int .i64 k ∧ ∃ m, wr = w.drewN m) (fun i _ => ss.length - (intOf i).toNat)
  case atStart => exact ⟨0, Nat.zero_le _, rfl, 0, rfl⟩
  case round =>
    obtain ⟨k, hk, rfl, m, rfl⟩ := hrel
    by_cases hlt : k < ss.length
    · obtain ⟨a, rfl, hca⟩ := ha k (.string ss[k]) (strs_get hlt)
      obtain ⟨b, rfl, hcb⟩ := hb k (.string ss[k]) (strs_get hlt)
      have i1 : (k : Int) < (ss.length : Int) := by omega
      obtain ⟨s, hs⟩ : ∃ s, ss[k] = s := ⟨_, rfl⟩
      rw [hs] at hca hcb
      have hss := same_yes (rfl : s = s)
      clear hs
      go_wp2
      go_quiet (fail)
      go_wp2
      go_roundw
      case rel => exact ⟨k + 1, hlt, by go_num, by first | exact ⟨_, rfl⟩ | exact drew_exF⟩
      case measure => simp [intOf]; omega
    · obtain rfl : k = ss.length := by omega
      go_wp2
      go_ret
      exact ⟨rfl, below_drewN (Below.refl _ _) m⟩
end Go.Proofs.Ytgchbimjgdoifaa
namespace Go.Proofs.Ytgchbimjgdoifaa
open Go.RowKit
set_option linter.unusedVariables false
set_option linter.unusedSimpArgs false
theorem vAmendment_same {B B' : Nat} {A A' : Option Addr} {c c' : Nat} {a : Amd} {w : World} (h : RdS B w A c a.ws) (h' : RdS B' w A' c' a.ws) :
    Calls Try.prog 35 #[.agg #[.int .i64 a.k, .int .i64 a.p, .int .i64 a.n, .slice A a.ws.length c], .agg #[.int .i64 a.k, .int .i64 a.p, .int .i64 a.n, .slice A' a.ws.length c']] w fun e w' => e = .returned (.bool true) ∧ Below w.heap.size w w' := by
  have hb := below2 w (.cells #[.int .i64 a.k, .int .i64 a.p, .int .i64 a.n, .slice A a.ws.length c] 40) (.cells #[.int .i64 a.k, .int .i64 a.p, .int .i64 a.n, .slice A' a.ws.length c'] 40)
  have HX : Hid (∀ (X Y : Nat) (C C' : Option Addr) (d d' : Nat) (W : World), RdS X W C d a.ws → RdS Y W C' d' a.ws → Calls Try.prog 26 #[.slice C a.ws.length d, .slice C' a.ws.length d'] W fun e w' => e = .returned (.bool true) ∧ Below W.heap.size W w') := Lib.hid fun X Y C C' d d' W h1 h2 => vTexts_same h1 h2
  have H1 := Lib.hid (RdS.below (show RdS w.heap.size w A c a.ws from ⟨h.1, CellsB.of_cells (h.cells), h.2.2⟩) hb (Nat.le_refl _))
  have H2 := Lib.hid (RdS.below (show RdS w.heap.size w A' c' a.ws from ⟨h'.1, CellsB.of_cells (h'.cells), h'.2.2⟩) hb (Nat.le_refl _))
  have HB := Lib.hid hb
  have k1 : (a.k == a.k) = true := by simp
  have k2 : (a.p == a.p) = true := by simp
  have k3 : (a.n == a.n) = true := by simp
  clear h h' hb
  go_enter Try.func35, Try.ntmps35
  go_wp2_with fail
  refine (HX.out _ _ _ _ _ _ _ H1.out H2.out).mono ?_
  rintro e w1 ⟨rfl, hb⟩
  have HB1 := Lib.hid (HB.out.trans (hb.mono HB.out.size))
  clear hb
  go_wp2
  go_ret
  exact ⟨rfl, HB1.out⟩
end Go.Proofs.Ytgchbimjgdoifaa
namespace Go.Proofs.Ytgchbimjgdoifaa
open Go.RowKit
set_option linter.unusedVariables false
set_option linter.unusedSimpArgs false
theorem Rd.grow {α : Type} {K : Kd α} {w w' : World} {A : Option Addr} {c : Nat} {xs : List α} (h : Rd K w.heap.size w A c xs) (hb : Below w.heap.size w w') : Rd K w'.heap.size w' A c xs := ⟨h.1, (h.2.1.below hb (Nat.le_refl _)).up hb.size, h.2.2⟩
/-- Is a number in a list? -/
def hasI (l : List Int) (x : Int) : Bool := l.any (· == x)
theorem hasI_iff {l : List Int} {x : Int} : hasI l x = true ↔ x ∈ l := by unfold hasI; simp
set_option maxHeartbeats 1000000 in
theorem vHas_any (A : Option Addr) (c : Nat) (xs : List Int) (x : Int) (w : World) (ha : Cells w A (IntK.row xs)) (hn : xs.length ≤ 1048576) :
    Calls Try.prog 60 #[.slice A xs.length c, .int .i64 x] w fun e w' => e = .returned (.bool (hasI xs x)) ∧ w = w' := by
  go_enter Try.func60, Try.ntmps60
  go_wp2
  go_loop [5] (fun i => ∃ k : Nat, k ≤ xs.length ∧ i = .int .i64 k ∧ Hid (hasI xs x = hasI (xs.drop k) x)) (fun i => xs.length - (intOf i).toNat)
  case atStart => exact ⟨0, Nat.zero_le _, rfl, Lib.hid (by simp)⟩
  case round =>
    obtain ⟨k, hk, rfl, hq⟩ := hrel
    by_cases hlt : k < xs.length
    · obtain ⟨a, rfl, hca⟩ := int_at ha hlt
      have i1 : (k : Int) < (xs.length : Int) := by omega
      have HQ := Lib.hid (show hasI xs x = (xs[k] == x || hasI (xs.drop (k + 1)) x) by rw [hq.out, List.drop_eq_getElem_cons hlt]; rfl)
      obtain ⟨y, hy⟩ : ∃ y, Hid (xs[k] = y) := ⟨_, Lib.hid rfl⟩
      rw [hy.out] at hca HQ
      rcases Bool.eq_false_or_eq_true (y == x) with h1 | h1
      · have HR := Lib.hid (show hasI xs x = true by rw [HQ.out, h1]; rfl)
        clear hq HQ
        go_wp2
        go_ret
        exact ⟨ret_bool HR.out.symm, rfl⟩
      · have HR := Lib.hid (show hasI xs x = hasI (xs.drop (k + 1)) x by rw [HQ.out, h1]; rfl)
        clear hq HQ
        go_wp2
        go_round
        case rel => exact ⟨k + 1, hlt, by go_num, HR⟩
        case measure => simp [intOf]; omega
    · obtain rfl : k = xs.length := by omega
      have HR := Lib.hid (show hasI xs x = false by rw [hq.out, List.drop_length]; rfl)
      clear hq
      go_wp2
      go_ret
      exact ⟨ret_bool HR.out.symm, rfl⟩
set_option maxHeartbeats 1000000 in
theorem vInts_same {B B' : Nat} {A A' : Option Addr} {c c' : Nat} {xs : List Int} {w : World} (h : Rd IntK B w A c xs) (h' : Rd IntK B' w A' c' xs) :
    Calls Try.prog 57 #[.slice A xs.length c, .slice A' xs.length c'] w fun e w' => e = .returned (.bool true) ∧ Below w.heap.size w w' := by
  have ha := h.cells
  have hb := h'.cells
  have hn := h.2.2.1
  have hne : ((xs.length : Int) != (xs.length : Int)) = false := by simp
  clear h h'
  go_enter Try.func57, Try.ntmps57
  go_wp2
  go_loopw [5] (fun i wr => ∃ k : Nat, k ≤ xs.length ∧ i = .int .i64 k ∧ ∃ m, wr = w.drewN m) (fun i _ => xs.length - (intOf i).toNat)
  case atStart => exact ⟨0, Nat.zero_le _, rfl, 0, rfl⟩
  case round =>
    obtain ⟨k, hk, rfl, m, rfl⟩ := hrel
    by_cases hlt : k < xs.length
    · obtain ⟨a, rfl, hca⟩ := int_at ha hlt
      obtain ⟨b, rfl, hcb⟩ := int_at hb hlt
      have i1 : (k : Int) < (xs.length : Int) := by omega
      obtain ⟨s, hs⟩ : ∃ s, xs[k] = s := ⟨_, rfl⟩
      rw [hs] at hca hcb
      have hss : (s != s) = false := by simp
      clear hs
      go_wp2
      go_quiet (fail)
      go_wp2
      go_roundw
      case rel => exact ⟨k + 1, hlt, by go_num, by first | exact ⟨_, rfl⟩ | exact drew_exF⟩
      case measure => simp [intOf]; omega
    · obtain rfl : k = xs.length := by omega
      go_wp2
      go_ret
      exact ⟨rfl, below_drewN (Below.refl _ _) m⟩
end Go.Proofs.Ytgchbimjgdoifaa
namespace Go.Proofs.Ytgchbimjgdoifaa
open Go.RowKit
set_option linter.unusedVariables false
theorem words_step {ss : List ByteArray} {a : Amd} (h : canB ss a = true) : wordsB (amdL ss a) 0 20 = true := by
  unfold canB at h
  rw [Bool.and_eq_true, Bool.and_eq_true] at h
  obtain ⟨⟨h2, hv⟩, hf⟩ := h
  have h1 := fitsB_len hf hv
  have h3 := (vldA_range hv).2.2.2.2.2.2
  rw [wordsB_low, Bool.and_eq_true, List.all_eq_true] at h2
  rw [List.all_eq_true] at h3
  rw [wordsB_low, Bool.and_eq_true, decide_eq_true_eq, List.all_eq_true]
  refine ⟨by omega, fun s hs => ?_⟩
  rcases amdL_mem hs with h4 | h4
  · exact h2.2 s h4
  · exact h3 s h4
theorem canB_pts {ss : List ByteArray} {a : Amd} (h : canB ss a = true) : wordsB ss 0 20 = true ∧ vldA a = true ∧ a.p + a.n ≤ ss.length ∧ (ss.length : Int) - a.n + a.ws.length ≤ 20 ∧ cutW ss a.p a.n ≠ a.ws := by
  unfold canB at h
  rw [Bool.and_eq_true, Bool.and_eq_true] at h
  obtain ⟨⟨h1, h2⟩, h3⟩ := h
  unfold fitsB at h3
  rw [Bool.and_eq_true, Bool.and_eq_true, decide_eq_true_eq, decide_eq_true_eq] at h3
  exact ⟨h1, h2, h3.1.1, h3.1.2, by simpa using h3.2⟩
theorem canB_mk {ss : List ByteArray} {a : Amd} (h1 : wordsB ss 0 20 = true) (h2 : vldA a = true) (h3 : a.p + a.n ≤ ss.length) (h4 : (ss.length : Int) - a.n + a.ws.length ≤ 20) (h5 : cutW ss a.p a.n ≠ a.ws) : canB ss a = true := by
  unfold canB fitsB
  rw [h1, h2, decide_eq_true h3, decide_eq_true h4, decide_eq_false h5]; rfl
theorem all_words {ss : List ByteArray} (h : wordsB ss 0 20 = true) : ss.length ≤ 20 ∧ ∀ s ∈ ss, wordB s = true := by
  rw [wordsB_low, Bool.and_eq_true, decide_eq_true_eq, List.all_eq_true] at h
  exact ⟨by omega, h.2⟩
theorem wordsB_mk {ss : List ByteArray} {lo hi : Int} (h1 : lo ≤ (ss.length : Int)) (h2 : (ss.length : Int) ≤ hi) (h3 : ∀ s ∈ ss, wordB s = true) : wordsB ss lo hi = true := by
  unfold wordsB
  rw [inB_iff.2 ⟨h1, h2⟩, List.all_eq_true.2 h3]; rfl
/-- The inverse leads back. -/
theorem inv_law {ss : List ByteArray} {a : Amd} (h : canB ss a = true) : canB (amdL ss a) (invA ss a) = true ∧ amdL (amdL ss a) (invA ss a) = ss := by
  have hw := words_step h
  obtain ⟨h1, hv, h3, h4, h5⟩ := canB_pts h
  obtain ⟨hp0, hp1, hn0, hn1, hw5, hk, hws⟩ := vldA_range hv
  obtain ⟨k, p, n, ws⟩ := a
  simp only at *
  obtain ⟨p, rfl⟩ := Int.eq_ofNat_of_zero_le hp0
  obtain ⟨n, rfl⟩ := Int.eq_ofNat_of_zero_le hn0
  have q1 : ((p : Int) + n).toNat = p + n := by omega
  have hlp : (ss.take p).length = p := by simp; omega
  have hcl : (cutW ss p n).length = n := cutW_len (by omega)
  have hA : amdL ss ⟨k, p, n, ws⟩ = ss.take p ++ (ws ++ ss.drop (p + n)) := by simp [amdL, q1]
  have hcut : cutW (amdL ss ⟨k, p, n, ws⟩) p ws.length = ws := by
    rw [hA]
    unfold cutW
    rw [Int.toNat_natCast, Int.toNat_natCast, List.drop_append_of_le_length (by omega), List.drop_of_length_le (by omega), List.nil_append, List.take_append_of_le_length (by omega), List.take_of_length_le (by omega)]
  have hal : (amdL ss ⟨k, p, n, ws⟩).length = p + (ws.length + (ss.length - (p + n))) := by rw [hA]; simp; omega
  have hcw : ∀ s ∈ cutW ss p n, wordB s = true := fun s hs => (all_words h1).2 s (by unfold cutW at hs; exact List.mem_of_mem_drop (List.mem_of_mem_take hs))
  refine ⟨canB_mk hw ?_ ?_ ?_ ?_, ?_⟩
  · show vldA ⟨kindI (ws.length : Int) (cutW ss p n), p, ws.length, cutW ss p n⟩ = true
    have hin := inB_iff.2 ⟨hp0, hp1⟩
    rcases hk with ⟨_, hk2, hk3⟩ | ⟨_, hk2, hk3⟩ | ⟨_, hk2, hk3⟩
    · have hK : kindI (ws.length : Int) (cutW ss p n) = 2 := by unfold kindI; rw [hcl, if_neg (by omega), if_pos (by omega)]
      rw [hK]
      show (inB p 0 20 && (inB (ws.length : Int) 1 5 && ((cutW ss p n).length : Int) == 0)) = true
      rw [hin, hcl, inB_iff.2 ⟨by omega, by omega⟩]
      simp; omega
    · have hK : kindI (ws.length : Int) (cutW ss p n) = 1 := by unfold kindI; rw [if_pos (by omega)]
      rw [hK]
      show (inB p 0 20 && ((ws.length : Int) == 0 && wordsB (cutW ss p n) 1 5)) = true
      rw [hin, wordsB_mk (by rw [hcl]; omega) (by rw [hcl]; omega) hcw]
      simp
      exact List.eq_nil_of_length_eq_zero (by omega)
    · have hK : kindI (ws.length : Int) (cutW ss p n) = 3 := by unfold kindI; rw [hcl, if_neg (by omega), if_neg (by omega)]
      rw [hK]
      show (inB p 0 20 && (inB (ws.length : Int) 1 5 && wordsB (cutW ss p n) 1 5)) = true
      rw [hin, inB_iff.2 ⟨by omega, by omega⟩, wordsB_mk (by rw [hcl]; omega) (by rw [hcl]; omega) hcw]
      rfl
  · show (p : Int) + (ws.length : Int) ≤ _
    rw [hal]; omega
  · show ((amdL ss ⟨k, p, n, ws⟩).length : Int) - (ws.length : Int) + ((cutW ss p n).length : Int) ≤ 20
    have := (all_words h1).1
    rw [hal, hcl]; omega
  · show cutW (amdL ss ⟨k, p, n, ws⟩) p ws.length ≠ cutW ss p n
    rw [hcut]
    exact fun e => h5 e.symm
  · show (amdL ss ⟨k, p, n, ws⟩).take (p : Int).toNat ++ (cutW ss p n ++ (amdL ss ⟨k, p, n, ws⟩).drop ((p : Int) + (ws.length : Int)).toNat) = ss
    have q2 : ((p : Int) + (ws.length : Int)).toNat = p + ws.length := by omega
    rw [q2, Int.toNat_natCast, hA, List.take_append_of_le_length (by omega), List.take_of_length_le (by omega), ← List.append_assoc (ss.take p) ws, List.drop_append_of_le_length (by simp; omega), List.drop_of_length_le (by simp; omega), List.nil_append]
    unfold cutW
    rw [Int.toNat_natCast, Int.toNat_natCast]
    have e1 : (ss.drop p).take n ++ ss.drop (p + n) = ss.drop p := by
      rw [← List.drop_drop, List.take_append_drop]
    rw [e1, List.take_append_drop]
theorem runUp_spec (p : Nat → Bool) : ∀ (f k : Nat), k ≤ runUp p f k ∧ runUp p f k ≤ k + f ∧ (∀ i, k ≤ i → i < runUp p f k → p i = true) ∧ (runUp p f k < k + f → p (runUp p f k) = false)
  | 0, k => ⟨Nat.le_refl _, Nat.le_refl _, fun i h1 h2 => by simp [runUp] at h2; omega, fun h => by simp [runUp] at h⟩
  | f + 1, k => by
    rw [runUp]
    split
    · rename_i hp
      obtain ⟨h1, h2, h3, h4⟩ := runUp_spec p f (k + 1)
      refine ⟨by omega, by omega, fun i hi1 hi2 => ?_, fun h => h4 (by omega)⟩
      rcases Nat.eq_or_lt_of_le hi1 with e | e
      · subst e; exact hp
      · exact h3 i e hi2
    · rename_i hp
      exact ⟨Nat.le_refl _, by omega, fun i h1 h2 => by omega, fun _ => by simpa using hp⟩
theorem at_spec (ss ts : List ByteArray) : atOf ss ts ≤ ss.length ∧ atOf ss ts ≤ ts.length ∧ (∀ i, i < atOf ss ts → p1 ss ts i = true) ∧ p1 ss ts (atOf ss ts) = false := by
  obtain ⟨_, h2, h3, h4⟩ := runUp_spec (p1 ss ts) (ss.length + 1) 0
  have h5 : ∀ i, i < atOf ss ts → i < ss.length ∧ i < ts.length := fun i hi => by
    have := h3 i (Nat.zero_le _) hi
    unfold p1 at this
    rw [Bool.and_eq_true, Bool.and_eq_true, decide_eq_true_eq, decide_eq_true_eq] at this
    exact this.1
  have h6 : atOf ss ts ≤ ss.length := by
    rcases Nat.eq_zero_or_pos (atOf ss ts) with e | e
    · omega
    · have := h5 (atOf ss ts - 1) (by omega); omega
  have h7 : atOf ss ts ≤ ts.length := by
    rcases Nat.eq_zero_or_pos (atOf ss ts) with e | e
    · omega
    · have := h5 (atOf ss ts - 1) (by omega); omega
  exact ⟨h6, h7, fun i hi => h3 i (Nat.zero_le _) hi, h4 (by show atOf ss ts < _; omega)⟩
theorem en_spec (ss ts : List ByteArray) : atOf ss ts + enOf ss ts ≤ ss.length ∧ atOf ss ts + enOf ss ts ≤ ts.length ∧ (∀ e, e < enOf ss ts → p2 ss ts (atOf ss ts) e = true) ∧ p2 ss ts (atOf ss ts) (enOf ss ts) = false := by
  obtain ⟨_, h2, h3, h4⟩ := runUp_spec (p2 ss ts (atOf ss ts)) (ss.length + 1) 0
  have ha := at_spec ss ts
  have h5 : ∀ i, i < enOf ss ts → atOf ss ts + i < ss.length ∧ atOf ss ts + i < ts.length := fun i hi => by
    have := h3 i (Nat.zero_le _) hi
    unfold p2 at this
    rw [Bool.and_eq_true, Bool.and_eq_true, decide_eq_true_eq, decide_eq_true_eq] at this
    exact this.1
  have h6 : atOf ss ts + enOf ss ts ≤ ss.length ∧ atOf ss ts + enOf ss ts ≤ ts.length := by
    rcases Nat.eq_zero_or_pos (enOf ss ts) with e | e
    · omega
    · have := h5 (enOf ss ts - 1) (by omega); omega
  exact ⟨h6.1, h6.2, fun i hi => h3 i (Nat.zero_le _) hi, h4 (by show enOf ss ts < _; omega)⟩
theorem at_take (ss ts : List ByteArray) : ss.take (atOf ss ts) = ts.take (atOf ss ts) := by
  obtain ⟨h1, h2, h3, _⟩ := at_spec ss ts
  apply List.ext_getElem
  · simp; omega
  · intro i hi hi'
    have h4 : i < atOf ss ts := by simp at hi; omega
    have := h3 i h4
    rw [p1_in (by omega) (by omega), decide_eq_true_eq] at this
    simpa using this
theorem en_drop (ss ts : List ByteArray) : ss.drop (ss.length - enOf ss ts) = ts.drop (ts.length - enOf ss ts) := by
  obtain ⟨h1, h2, h3, _⟩ := en_spec ss ts
  apply List.ext_getElem
  · simp; omega
  · intro i hi hi'
    have h4 : i < enOf ss ts := by simp at hi; omega
    have := h3 (enOf ss ts - 1 - i) (by omega)
    rw [p2_in (by omega) (by omega), decide_eq_true_eq] at this
    rw [List.getElem_drop, List.getElem_drop]
    have e1 : ss.length - 1 - (enOf ss ts - 1 - i) = ss.length - enOf ss ts + i := by omega
    have e2 : ts.length - 1 - (enOf ss ts - 1 - i) = ts.length - enOf ss ts + i := by omega
    simpa only [e1, e2] using this
/-- The single change leads from the one text to the other. -/
theorem sg_law {ss ts : List ByteArray} (h : sgOk ss ts = true) : canB ss (sgA ss ts) = true ∧ amdL ss (sgA ss ts) = ts := by
  unfold sgOk at h
  rw [Bool.and_eq_true, Bool.and_eq_true, Bool.and_eq_true] at h
  obtain ⟨⟨⟨hs, ht⟩, hne⟩, hv⟩ := h
  have hne : ss ≠ ts := by simpa using hne
  obtain ⟨h1, h2, _, _⟩ := en_spec ss ts
  have ht20 := (all_words ht).1
  have q0 : ((ss.length : Int) - (enOf ss ts : Int) - (atOf ss ts : Int)).toNat = ss.length - enOf ss ts - atOf ss ts := by omega
  have q1 : ((atOf ss ts : Int) + ((ss.length : Int) - (enOf ss ts : Int) - (atOf ss ts : Int))).toNat = ss.length - enOf ss ts := by omega
  have hml : (midW ss ts).length = ts.length - enOf ss ts - atOf ss ts := by unfold midW; simp; omega
  have hcut : cutW ss (sgA ss ts).p (sgA ss ts).n = (ss.drop (atOf ss ts)).take (ss.length - enOf ss ts - atOf ss ts) := by
    show cutW ss (atOf ss ts : Int) ((ss.length : Int) - (enOf ss ts : Int) - (atOf ss ts : Int)) = _
    unfold cutW
    rw [q0, Int.toNat_natCast]
  have split : ∀ (l : List ByteArray) (a e : Nat), a + e ≤ l.length → l.take a ++ ((l.drop a).take (l.length - e - a) ++ l.drop (l.length - e)) = l := fun l a e hl => by
    have e1 : (l.drop a).take (l.length - e - a) ++ l.drop (l.length - e) = l.drop a := by
      have : l.drop (l.length - e) = (l.drop a).drop (l.length - e - a) := by rw [List.drop_drop]; congr 1; omega
      rw [this, List.take_append_drop]
    rw [e1, List.take_append_drop]
  have hap : amdL ss (sgA ss ts) = ts := by
    show ss.take (atOf ss ts : Int).toNat ++ (midW ss ts ++ ss.drop ((atOf ss ts : Int) + ((ss.length : Int) - (enOf ss ts : Int) - (atOf ss ts : Int))).toNat) = ts
    rw [q1, Int.toNat_natCast, at_take, en_drop]
    unfold midW
    exact split ts _ _ h2
  refine ⟨canB_mk hs hv ?_ ?_ ?_, hap⟩
  · show (atOf ss ts : Int) + ((ss.length : Int) - (enOf ss ts : Int) - (atOf ss ts : Int)) ≤ _
    omega
  · show (ss.length : Int) - ((ss.length : Int) - (enOf ss ts : Int) - (atOf ss ts : Int)) + ((midW ss ts).length : Int) ≤ 20
    rw [hml]; omega
  · intro he
    apply hne
    rw [hcut] at he
    have h9 := split ss (atOf ss ts) (enOf ss ts) h1
    rw [he] at h9
    rw [← h9, at_take, en_drop]
    exact split ts _ _ h2
/-- The single change takes away no more words than the amendment. -/
theorem sg_count {ss : List ByteArray} {a : Amd} (h : canB ss a = true) : (sgA ss (amdL ss a)).n ≤ a.n := by
  obtain ⟨h1, hv, h3, h4, h5⟩ := canB_pts h
  obtain ⟨hp0, hp1, hn0, hn1, hw5, hk, hws⟩ := vldA_range hv
  obtain ⟨k, p, n, ws⟩ := a
  simp only at *
  obtain ⟨p, rfl⟩ := Int.eq_ofNat_of_zero_le hp0
  obtain ⟨n, rfl⟩ := Int.eq_ofNat_of_zero_le hn0
  have q1 : ((p : Int) + n).toNat = p + n := by omega
  have hlp : (ss.take p).length = p := by simp; omega
  have hA : amdL ss ⟨k, p, n, ws⟩ = ss.take p ++ (ws ++ ss.drop (p + n)) := by simp [amdL, q1]
  show (ss.length : Int) - (enOf ss (amdL ss ⟨k, p, n, ws⟩) : Int) - (atOf ss (amdL ss ⟨k, p, n, ws⟩) : Int) ≤ n
  have hal : (amdL ss ⟨k, p, n, ws⟩).length = p + (ws.length + (ss.length - (p + n))) := by rw [hA]; simp; omega
  obtain ⟨a1, a2, a3, a4⟩ := at_spec ss (amdL ss ⟨k, p, n, ws⟩)
  obtain ⟨b1, b2, b3, b4⟩ := en_spec ss (amdL ss ⟨k, p, n, ws⟩)
  have hat : p ≤ atOf ss (amdL ss ⟨k, p, n, ws⟩) := by
    rcases Nat.lt_or_ge (atOf ss (amdL ss ⟨k, p, n, ws⟩)) p with hc | hc
    · exfalso
      generalize atOf ss (amdL ss ⟨k, p, n, ws⟩) = i at *
      rw [p1_in (by omega) (by omega)] at a4
      have := of_decide_eq_false a4
      apply this
      simp only [hA]
      rw [List.getElem_append_left (by omega), List.getElem_take]
    · exact hc
  generalize hi : atOf ss (amdL ss ⟨k, p, n, ws⟩) = i at *
  generalize he : enOf ss (amdL ss ⟨k, p, n, ws⟩) = e at *
  rcases Nat.lt_or_ge (i + e) ss.length with c1 | c1
  · rcases Nat.lt_or_ge (i + e) (p + (ws.length + (ss.length - (p + n)))) with c2 | c2
    · rcases Nat.lt_or_ge e (ss.length - (p + n)) with c3 | c3
      · exfalso
        rw [p2_in c1 (by omega)] at b4
        have := of_decide_eq_false b4
        apply this
        simp only [hal]
        simp only [hA]
        rw [List.getElem_append_right (by omega), List.getElem_append_right (by omega), List.getElem_drop]
        congr 1
        omega
      · omega
    · omega
  · omega
theorem appL_yes {ss : List ByteArray} {a : Amd} (h : canB ss a = true) : appL ss a = amdL ss a := by unfold appL; rw [h]; rfl
theorem invR_yes {ss : List ByteArray} {a : Amd} (h : canB ss a = true) : invR ss a = invA ss a := by unfold invR; rw [h]; rfl
theorem fa_one {ss : List ByteArray} {a : Amd} (h : canB ss a = true) : canB (appL ss a) (invR ss a) = true ∧ appL (appL ss a) (invR ss a) = ss ∧ wordsB (appL ss a) 0 20 = true ∧ (sgOk ss (appL ss a) = true → ¬ a.n < (sgR ss (appL ss a)).n) := by
  obtain ⟨h1, h2⟩ := inv_law h
  rw [appL_yes h, invR_yes h]
  refine ⟨h1, by rw [appL_yes h1, h2], words_step h, fun h3 => ?_⟩
  rw [sgR_yes h3]
  have := sg_count h
  omega
theorem fa_two {ss ts : List ByteArray} (h : sgOk ss ts = true) : canB ss (sgR ss ts) = true ∧ appL ss (sgR ss ts) = ts := by
  obtain ⟨h1, h2⟩ := sg_law h
  rw [sgR_yes h]
  exact ⟨h1, by rw [appL_yes h1, h2]⟩
theorem Fit.sg_ {ss ts : List ByteArray} (h : Fit ts) : Fit (sgR ss ts).ws := by
  unfold sgR
  split
  · refine ⟨?_, fun s hs => h.2 s (List.mem_of_mem_drop (List.mem_of_mem_take hs))⟩
    show (midW ss ts).length ≤ _
    unfold midW
    rw [List.length_take, List.length_drop]
    have := h.1
    omega
  · exact ⟨by simp [noA], fun s hs => by simp [noA] at hs⟩
end Go.Proofs.Ytgchbimjgdoifaa
namespace Go.Proofs.Ytgchbimjgdoifaa
open Go.RowKit
set_option linter.unusedVariables false
set_option linter.unusedSimpArgs false
theorem rd_own {lo : Nat} {w : World} {A : Option Addr} {c : Nat} {ss : List ByteArray} (h : w.ownsRow lo 9 1 (.slice A ss.length c) ss.length (strs ss)) (hf : Fit ss) : RdS w.heap.size w A c ss := ⟨own_cap h, CellsB.own h (Under.own h), hf⟩
set_option maxHeartbeats 1000000 in
theorem DrawApplyAmendment_any (A : Option Addr) (n c : Nat) (w : World) (h : BytesC w A n) (hn : n ≤ 65536) :
    Calls Try.prog 23 #[.slice A n c] w fun e w' => ∃ (O N : Option Addr) (d nd : Nat) (ss : List ByteArray) (a : Amd), e = .returned (.tuple #[.slice O ss.length d, .agg #[.int .i64 a.k, .int .i64 a.p, .int .i64 a.n, .slice N a.ws.length nd]]) ∧ RdS w'.heap.size w' O d ss ∧ RdS w'.heap.size w' N nd a.ws ∧ Below w.heap.size w w' := by
  have hb1 := below1 w (.cells #[.int .i64 0, .int .i64 0, .int .i64 0, .slice none 0 0] 40)
  have HR := Lib.hid (BoxF.new' w #[.int .i64 0, .int .i64 0, .int .i64 0, .slice none 0 0] 40 w.heap.size rfl)
  have HY := Lib.hid (h.grow hb1)
  have HB := Lib.hid hb1
  have hz : w.heap.size < (w.alloc (.cells #[.int .i64 0, .int .i64 0, .int .i64 0, .slice none 0 0] 40)).heap.size := by simp
  clear h hb1
  go_enter Try.func23, Try.ntmps23
  go_wp2_with fail
  generalize w.alloc (.cells #[.int .i64 0, .int .i64 0, .int .i64 0, .slice none 0 0] 40) = W0 at *
  refine (DrawFitsText_any A n c W0 HY.out hn).mono ?_
  rintro e w1 ⟨O, N, d, nd, ss, a, rfl, h1, h2, hb⟩
  have H1 := Lib.hid h1
  have H2 := Lib.hid h2
  have HR := Lib.hid (HR.out.below hb hz)
  have HB := Lib.hid (HB.out.trans (hb.mono HB.out.size))
  have rf := HR.out.2
  have r0 := HR.out.1 0 _ rfl
  have r1 := HR.out.1 1 _ rfl
  have r2 := HR.out.1 2 _ rfl
  have r3 := HR.out.1 3 _ rfl
  clear h1 h2 hb
  go_wp2
  have KS := HR.out.set4 (.int .i64 a.k) (.int .i64 a.p) (.int .i64 a.n) (.slice N a.ws.length nd)
  have k0 := KS.1 0 _ rfl
  have k1 := KS.1 1 _ rfl
  have k2 := KS.1 2 _ rfl
  have k3 := KS.1 3 _ rfl
  refine bodyPost_ret (v := .tuple #[.slice O ss.length d, .agg #[.int .i64 a.k, .int .i64 a.p, .int .i64 a.n, .slice N a.ws.length nd]]) (by simp [results, Try.results23, go_sem, k0, k1, k2, k3]) rfl ?_
  have hst : Below w.heap.size w1 ((((w1.setCell ⟨w.heap.size, 0, none⟩ (.int .i64 a.k)).setCell ⟨w.heap.size, 1, none⟩ (.int .i64 a.p)).setCell ⟨w.heap.size, 2, none⟩ (.int .i64 a.n)).setCell ⟨w.heap.size, 3, none⟩ (.slice N a.ws.length nd)) := by (refine Below.setCell (Below.setCell (Below.setCell (Below.setCell (Below.refl _ _) ?_ _) ?_ _) ?_ _) ?_ _) <;> exact Nat.le_refl _
  have o1 := (H1.out.only (only4 w1 w.heap.size (.int .i64 a.k) (.int .i64 a.p) (.int .i64 a.n) (.slice N a.ws.length nd)) (.inr hz)).1
  have o2 := (H2.out.only (only4 w1 w.heap.size (.int .i64 a.k) (.int .i64 a.p) (.int .i64 a.n) (.slice N a.ws.length nd)) (.inr hz)).1
  exact ⟨O, N, d, nd, ss, a, rfl, ⟨own_cap o1, CellsB.own o1 (Under.own o1), H1.out.2.2⟩, ⟨own_cap o2, CellsB.own o2 (Under.own o2), H2.out.2.2⟩, HB.out.trans hst⟩
end Go.Proofs.Ytgchbimjgdoifaa
