/- The draw of a text among some, of a word. Conditions: the ranges named. -/
import Derived.Test.YtajfbiihlfccnaaDoorDr0
import Derived.Test.YtajfbiihlfccnaaDoorStrs
import Derived.Deep.DrawnRows
import Derived.Deep.Cut
import Derived.Deep.CutBlock
import Derived.Deep.CutRange
import Derived.Deep.DeepCutAuto
import Derived.Deep.MidRow
namespace Go.Proofs.YtajfbiihlfccnaaDoor
open Go.RowKit
set_option linter.unusedVariables false
set_option linter.unusedSimpArgs false
attribute [local go_sem ↓] Go.wp_at_zero Go.wp_at_succ
theorem of_any (xs : List ByteArray) (L : Option Addr) (lc : Nat) (h2 : 2 ≤ xs.length) (h200 : xs.length ≤ 200) (b : Nat) (A : Option Addr) (n c m : Nat) (w : World) (h : Cur w b A n c m) (hm : m ≤ 1000000) (hL : Cells w L (StrK.row xs)) (hoff : ∀ a, L = some a → a.block ≠ b) :
    Calls Tryd.prog 68 #[.pointer (some ⟨b, 0, none⟩), .slice L xs.length lc] w fun e w' => (∃ x : ByteArray, e = .returned (.string x) ∧ x ∈ xs) ∧ Cur w' b A n c (m + 1) ∧ Only b (b + 1) w w' := by
  have H := Lib.hid h
  have HL := Lib.hid hL
  have HF := Lib.hid hoff
  clear h hL hoff
  go_enter Tryd.func68, Tryd.ntmps68
  go_wp2_with fail
  refine (pick_any xs.length h2 h200 b A n c m _ H.out hm).mono ?_
  rintro e w1 ⟨⟨j, rfl, hj⟩, hc, ho⟩
  have HC := Lib.hid hc
  have HO := Lib.hid ho
  obtain ⟨a, hLa, hcj⟩ := str_at (HL.out.block2 (w' := w1) (fun a ha hl => ho.block _ hl (by have := HF.out a ha; omega))) hj
  have HM := Lib.hid (List.getElem_mem hj)
  obtain ⟨x, hx⟩ : ∃ x, xs[j] = x := ⟨_, rfl⟩
  rw [hx] at hcj HM
  have i1 : (j : Int) < (xs.length : Int) := by omega
  subst hLa
  clear hc ho hx
  go_wp2_with (go_ret; exact ⟨⟨x, rfl, HM.out⟩, HC.out, HO.out⟩)
theorem lit_cellsS (w : World) (xs : List ByteArray) (T : TypeId) (g : Nat) (hg : g = w.heap.size) : Cells (w.alloc (.cells (xs.map Value.string).toArray T)) (some ⟨g, 0, none⟩) (StrK.row xs) := fun i u hi => by
  subst hg
  rw [strK_row] at hi
  refine ⟨_, rfl, ?_⟩
  rw [add_head]
  exact (BoxL.new w _ T).2 i u (by simpa using hi)
def wd10 : List ByteArray := [⟨#[109, 97, 105, 110]⟩, ⟨#[116, 97, 98, 108, 101]⟩, ⟨#[97, 100, 106, 111, 117, 114, 110]⟩, ⟨#[97, 109, 101, 110, 100]⟩, ⟨#[114, 101, 99, 101, 115, 115]⟩, ⟨#[114, 101, 102, 101, 114]⟩, ⟨#[108, 105, 109, 105, 116]⟩, ⟨#[99, 97, 108, 108]⟩, ⟨#[97]⟩, ⟨#[98, 121, 108, 97, 119, 115]⟩]
def wd5 : List ByteArray := [⟨#[]⟩, ⟨#[97, 98, 99, 100, 101, 102, 103, 104, 105, 106]⟩, ⟨#[97, 98, 99, 100, 101, 102, 103, 104, 105, 106, 107]⟩, ⟨#[65]⟩, ⟨#[97, 32, 98]⟩]
theorem wd10_short : ∀ s ∈ wd10, s.size ≤ 11 := by
  intro s hs
  simp only [wd10, List.mem_cons, List.not_mem_nil, or_false] at hs
  rcases hs with rfl | rfl | rfl | rfl | rfl | rfl | rfl | rfl | rfl | rfl <;> decide
theorem wd5_short : ∀ s ∈ wd5, s.size ≤ 11 := by
  intro s hs
  simp only [wd5, List.mem_cons, List.not_mem_nil, or_false] at hs
  rcases hs with rfl | rfl | rfl | rfl | rfl <;> decide
theorem word_any (b : Nat) (A : Option Addr) (n c m : Nat) (w : World) (h : Cur w b A n c m) (hm : m ≤ 900000) :
    Calls Tryd.prog 89 #[.pointer (some ⟨b, 0, none⟩)] w fun e w' => (∃ x : ByteArray, e = .returned (.string x) ∧ x.size ≤ 11) ∧ Cur w' b A n c (m + 1) ∧ Only b (b + 1) w w' := by
  have hb0 := h.lt
  have S := Lib.hid (Std.start h)
  clear h
  go_enter Tryd.func89, Tryd.ntmps89
  have HL := Lib.hid (lit_cellsS w wd10 9 w.heap.size rfl)
  have HLb : w.heap.size ≠ b := by have := S.out.bw; omega
  have hbl := below1 w (.cells (wd10.map Value.string).toArray 9)
  replace S := Lib.hid (S.out.call hbl)
  clear hbl
  go_wp2_with fail
  refine (of_any wd10 (some ⟨w.heap.size, 0, none⟩) 10 (by decide) (by decide) b A n c _ _ S.out.cur (by omega) HL.out (fun a ha => by obtain rfl := Option.some.inj ha; exact HLb)).mono ?_
  rintro e v1 ⟨⟨x, rfl, hx⟩, hc, ho⟩
  replace S := Lib.hid (S.out.draw hc ho)
  replace hx := wd10_short x hx
  clear hc ho HL HLb
  have HX := Lib.hid hx
  clear hx
  go_wp2_with (go_ret; exact ⟨⟨x, rfl, HX.out⟩, S.out.cur, S.out.on⟩)
end Go.Proofs.YtajfbiihlfccnaaDoor
