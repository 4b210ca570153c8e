/- append onto a row of the call's own, with the word that nothing else has turned. No program is named here. Conditions: the ranges named. -/
import Derived.Test.YtnnphhhjkhoglaaGreatDoorApc
import Derived.Test.YtnnphhhjkhoglaaGreatDoorSetc2
namespace Go.Proofs.YtnnphhhjkhoglaaGreatDoor
open Go.RowKit
set_option linter.unusedVariables false
theorem cells_arr (w : World) (vs : Array Value) (t : TypeId) (g : Nat) (hg : g = w.heap.size) : Cells (w.alloc (.cells vs t)) (some ⟨g, 0, none⟩) vs.toList := by
  subst hg
  intro i u hi
  refine ⟨_, rfl, ?_⟩
  rw [add_head, cell_of_row _ _ i vs t (0, 0) (heap_alloc_new w _)]
  simpa using hi
theorem list_append_gr {P : Program} {T E : TypeId} {size bytes : Nat} (el : ElT P T E size bytes) (w : World) {ops : Array Oper} {rest : List Oper} {o : Oper} {a : Act} {Q : Exit → Act → World → Prop} (hgd : o.guard = none) (s x : Operand)
    (ho : o.op = .call { callee := .builtin .append, args := #[s, x], argTypes := #[T, T] }) (base : Nat) (O A : Option Addr) (oc n m c : Nat) (xs news : List Value) (hs : a.eval s = .slice O n oc) (hx : a.eval x = .slice A m c) (hl : news.length = m * size) (hown : w.ownsRow base E size (.slice O n oc) n xs) (hc : Cells w A news) (h1 : ∀ u ∈ news, u.oneCell' = true) (hb : base ≤ w.heap.size) (h63 : n + m ≤ 1100000)
    (h : ∀ (O' : Option Addr) (d : Nat) (w' : World), w'.ownsRow base E size (.slice O' (n + m) d) (n + m) (xs ++ news) → Below base w w' → w.grownBy w' (Value.slice O n oc).ownBlock → wpList P ops Q rest (a.put o.dst (.slice O' (n + m) d)) w') :
    wpList P ops Q (o :: rest) a w := by
  obtain ⟨O', d, w', hrun, g1, g2, g3⟩ := append_own el w o.type base O A oc n m c xs news hown hl hc h1 hb h63
  exact Lib.wpList_append_run w hgd s x _ _ ho _ _ hs hx _ _ hrun (h O' d w' g1 g2 g3)
theorem step_append_gr {P : Program} {T E : TypeId} {size bytes : Nat} (el : ElT P T E size bytes) {ops : Array Oper} {o : Oper} {a : Act} {K : Act → World → Prop} {Q : Exit → Act → World → Prop} {X : Prop} (w : World) (hgd : o.guard = none) (s x : Operand)
    (ho : o.op = .call { callee := .builtin .append, args := #[s, x], argTypes := #[T, T] }) (base : Nat) (O A : Option Addr) (oc n m c : Nat) (xs news : List Value) (hs : a.eval s = .slice O n oc) (hx : a.eval x = .slice A m c) (hl : news.length = m * size) (hown : w.ownsRow base E size (.slice O n oc) n xs) (hc : Cells w A news) (h1 : ∀ u ∈ news, u.oneCell' = true) (hb : base ≤ w.heap.size) (h63 : n + m ≤ 1100000)
    (h : ∀ (O' : Option Addr) (d : Nat) (w' : World), w'.ownsRow base E size (.slice O' (n + m) d) (n + m) (xs ++ news) → Below base w w' → w.grownBy w' (Value.slice O n oc).ownBlock → K (a.put o.dst (.slice O' (n + m) d)) w') :
    if Region.wanted o (yielded ops a.tmps) = true then Oper.wp P o a w K Q else X := by
  have hw : Region.wanted o (yielded ops a.tmps) = true := by simp [Region.wanted, hgd]
  rw [if_pos hw]
  obtain ⟨O', d, w', hrun, g1, g2, g3⟩ := append_own el w o.type base O A oc n m c xs news hown hl hc h1 hb h63
  exact Lib.wp_append_run w s x _ _ ho _ _ hs hx _ _ hrun (h O' d w' g1 g2 g3)
end Go.Proofs.YtnnphhhjkhoglaaGreatDoor
