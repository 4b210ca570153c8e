/- The draws of words: one, of, words. Conditions: the ranges named. -/
import Derived.Test.YtgchbimjgdoifaaCu1
import Derived.Test.YtgchbimjgdoifaaInv
import Derived.Test.YtgchbimjgdoifaaAgr
namespace Go.Proofs.Ytgchbimjgdoifaa
open Go.RowKit
set_option linter.unusedVariables false
set_option linter.unusedSimpArgs false
theorem Cur.belowB {w0 w w' : World} {b B : Nat} {A : Option Addr} {n c m : Nat} (h0 : BytesC w0 A n) (h : Cur w b A n c m) (hb : Below B w w') (hB : w0.heap.size ≤ B) (hlt : b < B) : Cur w' b A n c m := by
  obtain ⟨⟨k, s, h1, h2, h2', hx⟩, h3, h4, h5, h6⟩ := h
  refine ⟨⟨k, s, h1, h2, h2', hx.blk (hb.block b hlt)⟩, Nat.lt_of_lt_of_le h3 hb.size, h4, ?_, h6⟩
  rcases Nat.eq_zero_or_pos n with e | e
  · subst e; exact fun i hi => absurd hi (by omega)
  · refine h5.block fun a ha hl => hb.block _ ?_
    obtain ⟨a', x, hA, _, _, hc⟩ := h0 0 e
    rw [ha] at hA
    obtain rfl := Option.some.inj hA
    have := World.block_lt_of_cell? _ _ hc
    rw [block_add] at this
    omega
theorem Only.of_belowB {lo hi B : Nat} {w0 w w' : World} (h : Only lo hi w0 w) (hb : Below B w w') (hB : w0.heap.size ≤ B) : Only lo hi w0 w' :=
  ⟨hb.os.trans h.os, hb.tape.trans h.tape, hb.output.trans h.output, Nat.le_trans h.size hb.size, fun k hk ho => (hb.block k (Nat.lt_of_lt_of_le hk hB)).trans (h.block k hk ho)⟩
/-- A number from 0 on, below k or 0. -/
theorem pickZ_any (k : Int) (hk : k ≤ 200) (b : Nat) (A : Option Addr) (n c m : Nat) (w : World) (h : Cur w b A n c m) (hm : m ≤ 1000000) :
    Calls Try.prog 114 #[.pointer (some ⟨b, 0, none⟩), .int .i64 k] w fun e w' => (∃ x : Nat, e = .returned (.int .i64 x) ∧ (x = 0 ∨ (x : Int) < k)) ∧ Cur w' b A n c (m + 1) ∧ Only b (b + 1) w w' := by
  by_cases h1 : k ≤ 1
  · have HC := Lib.hid (h.mono (Nat.le_succ m))
    clear h
    go_enter Try.func114, Try.ntmps114
    go_wp2
    go_ret
    exact ⟨⟨0, by first | rfl | simp, .inl rfl⟩, HC.out, Only.refl'⟩
  · obtain ⟨j, rfl⟩ : ∃ j : Nat, k = (j : Int) := ⟨k.toNat, by omega⟩
    exact (pick_any j (by omega) (by omega) b A n c m w h hm).mono fun e w' ⟨⟨x, he, hx⟩, hr⟩ => ⟨⟨x, he, .inr (by omega)⟩, hr⟩
theorem one_any (k : Nat) (hk1 : 2 ≤ k) (hk : k ≤ 200) (b : Nat) (A : Option Addr) (n c m : Nat) (w : World) (h : Cur w b A n c m) (hm : m ≤ 1000000) :
    Calls Try.prog 86 #[.pointer (some ⟨b, 0, none⟩), .int .i64 k] w fun e w' => (∃ x : Bool, e = .returned (.bool x)) ∧ Cur w' b A n c (m + 1) ∧ Only b (b + 1) w w' := by
  have H := Lib.hid h
  clear h
  go_enter Try.func86, Try.ntmps86
  go_wp2_with fail
  refine (pick_any k hk1 hk b A n c m _ H.out hm).mono ?_
  rintro e w1 ⟨⟨x, rfl, hx⟩, hc, ho⟩
  have HC := Lib.hid hc
  have HO := Lib.hid ho
  clear hc ho
  obtain ⟨z, hz⟩ : ∃ z, ((x : Int) == 0) = z := ⟨_, rfl⟩
  go_wp2
  go_ret
  exact ⟨⟨_, rfl⟩, HC.out, HO.out⟩
theorem of_any (xs : List ByteArray) (L : Option Addr) (lc : Nat) (h2 : 2 ≤ xs.length) (h200 : xs.length ≤ 200) (b : Nat) (A : Option Addr) (n c m : Nat) (w : World) (h : Cur w b A n c m) (hm : m ≤ 1000000) (hL : Cells w L (strs xs)) (hoff : ∀ a, L = some a → a.block ≠ b) :
    Calls Try.prog 115 #[.pointer (some ⟨b, 0, none⟩), .slice L xs.length lc] w fun e w' => (∃ x : ByteArray, e = .returned (.string x) ∧ x ∈ xs) ∧ Cur w' b A n c (m + 1) ∧ Only b (b + 1) w w' := by
  have H := Lib.hid h
  have HL := Lib.hid hL
  have HF := Lib.hid hoff
  clear h hL hoff
  go_enter Try.func115, Try.ntmps115
  go_wp2_with fail
  refine (pick_any xs.length h2 h200 b A n c m _ H.out hm).mono ?_
  rintro e w1 ⟨⟨j, rfl, hj⟩, hc, ho⟩
  have HC := Lib.hid hc
  have HO := Lib.hid ho
  obtain ⟨a, hLa, hcj⟩ := (HL.out.block2 (w' := w1) (fun a ha hl => ho.block _ hl (by have := HF.out a ha; omega))) j (.string xs[j]) (strs_get hj)
  have HM := Lib.hid (List.getElem_mem hj)
  obtain ⟨x, hx⟩ : ∃ x, xs[j] = x := ⟨_, rfl⟩
  rw [hx] at hcj HM
  have i1 : (j : Int) < (xs.length : Int) := by omega
  subst hLa
  clear hc ho hx
  go_wp2
  go_ret
  exact ⟨⟨x, rfl, HM.out⟩, HC.out, HO.out⟩
/-- Words of at most 11 bytes. -/
def Short (ss : List ByteArray) : Prop := ∀ s ∈ ss, s.size ≤ 11
theorem Short.snoc {ss : List ByteArray} {s : ByteArray} (h : Short ss) (hs : s.size ≤ 11) : Short (ss ++ [s]) := fun x hx => by
  rcases List.mem_append.1 hx with h1 | h1
  · exact h x h1
  · simp at h1; subst h1; exact hs
theorem Short.fit {ss : List ByteArray} (h : Short ss) (hn : ss.length ≤ 1000) : Fit ss := ⟨by omega, fun s hs => Nat.le_trans (h s hs) (by unfold maxLen; omega)⟩
def wd8 : List ByteArray := [⟨#[116, 104, 101]⟩, ⟨#[102, 101, 101]⟩, ⟨#[105, 115]⟩, ⟨#[116, 101, 110]⟩, ⟨#[115, 104, 97, 108, 108]⟩, ⟨#[110, 111, 116]⟩, ⟨#[98, 101]⟩, ⟨#[112, 97, 105, 100]⟩]
theorem wd8_short : ∀ s ∈ wd8, s.size ≤ 11 := by
  intro s hs
  simp only [wd8, List.mem_cons, List.not_mem_nil, or_false] at hs
  rcases hs with rfl | rfl | rfl | rfl | rfl | rfl | rfl | rfl <;> decide
set_option maxHeartbeats 2000000 in
theorem words_any (k : Nat) (hk1 : 1 ≤ k) (hk : k ≤ 100) (b : Nat) (A : Option Addr) (n c m : Nat) (w : World) (h : Cur w b A n c m) (hm : m ≤ 900000) :
    Calls Try.prog 89 #[.pointer (some ⟨b, 0, none⟩), .int .i64 k] w fun e w' => ∃ (O : Option Addr) (d : Nat) (ss : List ByteArray), e = .returned (.slice O ss.length d) ∧ ss.length ≤ k ∧ Short ss ∧ w'.ownsRow w.heap.size 9 1 (.slice O ss.length d) ss.length (strs ss) ∧ Cur w' b A n c (m + 1 + k) ∧ Only b (b + 1) w w' := by
  have HB0 := Lib.hid h.bytes
  have hlt := h.lt
  have HC := Lib.hid (h.below (below1 w (.cells #[] 9)))
  have HO := Lib.hid (own_nil_lit w w.heap.size w.heap.size 9 1 rfl (Nat.le_refl _))
  have HN := Lib.hid (show Only b (b + 1) w (w.alloc (.cells #[] 9)) from Only.of_below (below1 w _))
  have hz : b < (w.alloc (.cells #[] 9)).heap.size := by simp; omega
  clear h
  go_enter Try.func89, Try.ntmps89
  go_upto_region 2 with fail
  generalize w.alloc (.cells #[] 9) = W at *
  have q1 : IntKind.i64.wrap ((k : Int) + 1) = ((k + 1 : Nat) : Int) := by rw [IntKind.wrap_i64]; omega
  go_wp2_with (go_at_call 114; refine (pick_any (k + 1) (by omega) (by omega) b A n c m W HC.out (by omega)).mono ?_; rintro e w1 ⟨⟨x, rfl, hx⟩, hc, ho⟩; have HC := Lib.hid hc; have HO := Lib.hid (own_off HO.out ho (by omega)); have HN := Lib.hid (HN.out.trans ho); clear hc ho)
  go_loopw [5, 6] (fun u i wr => ∃ (j : Nat) (ss : List ByteArray) (O : Option Addr) (oc : Nat), i = .int .i64 j ∧ u = .slice O ss.length oc ∧ ss.length + j ≤ k ∧ Hid (Short ss) ∧ Hid (wr.ownsRow w.heap.size 9 1 (.slice O ss.length oc) ss.length (strs ss)) ∧ Hid (Cur wr b A n c (m + 1 + ss.length)) ∧ Hid (Only b (b + 1) w wr)) (fun _ i _ => (intOf i).toNat)
  case atStart => exact ⟨x, [], _, _, rfl, rfl, by simp; omega, Lib.hid (fun s hs => by simp at hs), HO, HC, HN⟩
  case round =>
    clear HO HC HN
    obtain ⟨wq, hwq⟩ : ∃ x : World, x = wr := ⟨_, rfl⟩
    subst hwq
    obtain ⟨j, ss, O, oc, rfl, rfl, hjk, HS, HO, HC, HN⟩ := hrel
    have hwz := HN.out.size
    rcases Nat.eq_zero_or_pos j with h0 | h0
    · subst h0
      go_wp2
      go_ret
      exact ⟨O, oc, ss, rfl, by omega, HS.out, HO.out, HC.out.mono (by omega), HN.out⟩
    · have i0 : (0 : Int) < (j : Int) := by omega
      have q2 : IntKind.i64.wrap ((j : Int) - 1) = ((j - 1 : Nat) : Int) := by rw [IntKind.wrap_i64]; omega
      have hb8 := below1 wq (.cells (strs wd8).toArray 9)
      have HL8 := Lib.hid (cells_arr wq (strs wd8).toArray 9 wq.heap.size rfl)
      have HC8 := Lib.hid (HC.out.below hb8)
      have HO8 := Lib.hid (own_keep HO.out hb8)
      have HN8 := Lib.hid (HN.out.trans (Only.of_below hb8))
      have hne : wq.heap.size ≠ b := by omega
      clear HO HC HN hb8
      go_wp2_with fail
      refine (of_any wd8 (some ⟨wq.heap.size, 0, none⟩) 8 (by decide) (by decide) b A n c (m + 1 + ss.length) (wq.alloc (.cells (strs wd8).toArray 9)) HC8.out (by omega) HL8.out (fun a ha => by obtain rfl := Option.some.inj ha; exact hne)).mono ?_
      rintro e w2 ⟨⟨s, rfl, hs⟩, hc, ho⟩
      have HSS := Lib.hid (wd8_short s hs)
      have HC2 := Lib.hid hc
      have HO2 := Lib.hid (own_off HO8.out ho (by omega))
      have HN2 := Lib.hid (HN8.out.trans ho)
      have hz2 := HN2.out.size
      clear hc ho hs HC8 HO8 HN8
      go_wp2_with (at_builtin; go_must (refine list_append_gr elStr _ rfl _ _ rfl w.heap.size O _ oc ss.length 1 1 (strs ss) (strs [s]) rfl rfl rfl (own_alloc HO2.out _) (cells_arr _ #[.string s] _ _ rfl) strs_one (by simp; omega) (by omega) ?_); intro O3 d3 w3 own hb hg; have HO3 := Lib.hid own; have HB3 := Lib.hid (((below1 w2 (.cells #[.string s] 9)).mono hz2).trans hb); clear own hb hg)
      go_roundw
      case rel => exact ⟨j - 1, ss ++ [s], O3, d3, by go_num, by simp, by simp; omega, Lib.hid (HS.out.snoc HSS.out), by rw [List.length_append, List.length_singleton, strs_append]; exact HO3, Lib.hid ((HC2.out.belowB HB0.out HB3.out (Nat.le_refl _) hlt).mono (by simp; omega)), Lib.hid (HN2.out.of_belowB HB3.out (Nat.le_refl _))⟩
      case measure => (first | (simp [intOf]; done) | (simp [intOf]; omega))
end Go.Proofs.Ytgchbimjgdoifaa
