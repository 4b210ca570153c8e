/- append onto a row of the call's own, and what it leaves alone. No program is named here. Conditions: the ranges named. -/
import Derived.Test.YtajfbiihlfccnaaDoorApc
import Derived.Test.YtajfbiihlfccnaaDoorSetc2
namespace Go.Proofs.YtajfbiihlfccnaaDoor
open Go.RowKit
set_option linter.unusedVariables false
/-! ### append, and what it leaves alone -/
def NotIn (O : Option Addr) (b : Nat) : Prop := ∀ a, O = some a → a.block ≠ b
theorem NotIn.own {O : Option Addr} {n d b : Nat} (h : NotIn O b) : (Value.slice O n d).ownBlock ≠ some b := by
  cases O with
  | none => simp [Value.ownBlock]
  | some a => simp only [Value.ownBlock, ne_eq, Option.some.injEq]; exact h a rfl
theorem append_sep {P : Program} {T E : TypeId} {size bytes : Nat} (el : ElT P T E size bytes) (w : World) (ty : TypeId) (base : Nat) (O : Option Addr) (ad : Addr) (oc n m c : Nat) (xs news : List Value) (hown : w.ownsRow base E size (.slice O n oc) n xs) (hl : news.length = m * size) (hx : Cells w (some ad) news) (h1 : ∀ u ∈ news, u.oneCell' = true) (hb : base ≤ w.heap.size) (h63 : n + m ≤ 1100000) :
    ∃ (O' : Option Addr) (d : Nat) (w' : World), (Builtin.append_ #[T, T] ty #[.slice O n oc, .slice (some ad) m c]).run P w = .ok (.slice O' (n + m) d) w' ∧ w'.ownsRow base E size (.slice O' (n + m) d) (n + m) (xs ++ news) ∧ Below base w w' ∧ w.heap.size ≤ w'.heap.size ∧ ∀ b, b < w.heap.size → NotIn O b → w'.heap[b]? = w.heap[b]? ∧ NotIn O' b := by
  obtain ⟨ht, ⟨i, z, hi, hz0, hz1, hz2, hzc⟩, hp, hs⟩ := el
  have hby : (n + m) * bytes ≤ 140737488355328 := by
    have h2 : (n + m) * bytes ≤ 1100000 * 1000 := Nat.mul_le_mul h63 hs
    omega
  obtain ⟨v', w', hrun, h2, h3, _, h5⟩ := run_append_own_at (P := P) w base T ty E i _ size bytes ht hi hz0 hz1 hz2 hzc hp _ n xs hown ad m c news hl (fun j u hj => by
    obtain ⟨ad', h, hc⟩ := hx j u hj
    cases h; exact hc) h1 (by unfold maxLen; omega) hby hb
  have hv : ∃ O' d, v' = .slice O' (n + m) d := by
    rcases h2.2 with ⟨h6, h7⟩ | ⟨g, cap, cur, h6, _⟩
    · exact ⟨none, 0, by rw [h6, h7]⟩
    · exact ⟨_, _, h6⟩
  obtain ⟨O', d, rfl⟩ := hv
  refine ⟨O', d, w', hrun, h2, below_of_grownBy h3 hb (fun g hg => (hown.lt g hg).1), h3.size, fun b hlt hno => ⟨h3.block b hlt hno.own.symm, fun a ha e => ?_⟩⟩
  subst ha
  have e1 : (Value.slice (some a) (n + m) d).ownBlock = some b := by simp [Value.ownBlock, e]
  rw [e1] at h5
  rcases h5 with h5 | h5
  · exact hno.own h5.symm
  · simp only [Option.some.injEq] at h5; omega
theorem list_append_sep {P : Program} {T E : TypeId} {size bytes : Nat} (el : ElT P T E size bytes) (w : World) {ops : Array Oper} {rest : List Oper} {o : Oper} {a : Act} {Q : Exit → Act → World → Prop} (hgd : o.guard = none) (s x : Operand)
    (ho : o.op = .call { callee := .builtin .append, args := #[s, x], argTypes := #[T, T] }) (base : Nat) (O : Option Addr) (ad : Addr) (oc n m c : Nat) (xs news : List Value) (hs : a.eval s = .slice O n oc) (hx : a.eval x = .slice (some ad) m c) (hl : news.length = m * size) (hown : w.ownsRow base E size (.slice O n oc) n xs) (hc : Cells w (some ad) news) (h1 : ∀ u ∈ news, u.oneCell' = true) (hb : base ≤ w.heap.size) (h63 : n + m ≤ 1100000)
    (h : ∀ (O' : Option Addr) (d : Nat) (w' : World), w'.ownsRow base E size (.slice O' (n + m) d) (n + m) (xs ++ news) → Below base w w' → w.heap.size ≤ w'.heap.size → (∀ b, b < w.heap.size → NotIn O b → w'.heap[b]? = w.heap[b]? ∧ NotIn O' b) → wpList P ops Q rest (a.put o.dst (.slice O' (n + m) d)) w') :
    wpList P ops Q (o :: rest) a w := by
  obtain ⟨O', d, w', hrun, g1, g2, g3, g4⟩ := append_sep el w o.type base O ad oc n m c xs news hown hl hc h1 hb h63
  exact Lib.wpList_append_run w hgd s x _ _ ho _ _ hs hx _ _ hrun (h O' d w' g1 g2 g3 g4)
theorem BoxF.block {w w' : World} {b : Nat} {vs : List Value} (h : BoxF w b vs) (hb : w'.heap[b]? = w.heap[b]?) : BoxF w' b vs :=
  ⟨fun i v hi => (World.cell?_of_block (a := ⟨b, i, none⟩) hb).trans (h.1 i v hi), fun i => (World.frozen?_of_block (a := ⟨b, i, none⟩) hb).trans (h.2 i)⟩
theorem Cells.block {w w' : World} {A : Option Addr} {xs : List Value} (h : Cells w A xs) (hb : ∀ a, A = some a → a.block < w.heap.size → w'.heap[a.block]? = w.heap[a.block]?) : Cells w' A xs := fun i u hi => by
  obtain ⟨ad, hA, hc⟩ := h i u hi
  have hl := World.block_lt_of_cell? _ _ hc
  rw [block_add] at hl
  exact ⟨ad, hA, (World.cell?_of_block (a := ad.add i) (by rw [block_add]; exact hb ad hA hl)).trans hc⟩
theorem own_other {w : World} {b k base n d E size : Nat} {O : Option Addr} {xs : List Value} (h : w.ownsRow base E size (.slice O n d) n xs) (hq : NotIn O b) (v : Value) : (w.setCell ⟨b, k, none⟩ v).ownsRow base E size (.slice O n d) n xs := ownsRow_setCell_other h hq.own v
end Go.Proofs.YtajfbiihlfccnaaDoor
