/- append of cells that are read onto a row of the call's own, whatever the element: at a plain operation and at a step of a region that draws its order. No program is named here. Conditions: the ranges named. -/
import Derived.Test.YtnnphhhjkhoglaaGreatDoorCell
import Derived.Lib.AppendZerosOnto
import Derived.Lib.SliceRun
import Derived.Maps.AppendAt
namespace Go.Proofs.YtnnphhhjkhoglaaGreatDoor
open Go.RowKit
set_option linter.unusedVariables false
/-- T is the type of the slices of E, an element of which takes so many cells and bytes. -/
structure ElT (P : Program) (T E : TypeId) (size bytes : Nat) : Prop where
  ht : P.underlying T = some (.slice E)
  info : ∃ (i : TypeInfo) (z : Value), P.info? E = some i ∧ i.zero = some z ∧ i.size = size ∧ i.bytes = bytes ∧ z.cells.size = size
  pos : 0 < size
  small : bytes ≤ 1000
theorem ElT.mk' {P : Program} {T E : TypeId} {size bytes : Nat} {z : Value} (ht : P.underlying T = some (.slice E)) (h : (P.info? E).map (fun i => (i.zero, i.size, i.bytes)) = some (some z, size, bytes)) (hz : z.cells.size = size) (hp : 0 < size) (hs : bytes ≤ 1000) : ElT P T E size bytes := by
  obtain ⟨i, hi, h0, h1, h2⟩ := info_parts h
  exact ⟨ht, ⟨i, z, hi, h0, h1, h2, hz⟩, hp, hs⟩
theorem append_empty_run {P : Program} (w : World) (base : Nat) (t ty e : TypeId) (i : TypeInfo) (size : Nat) (ht : P.underlying t = some (.slice e)) (hi : P.info? e = some i) (v : Value) (n : Nat) (xs : List Value) (hown : w.ownsRow base e size v n xs) (c : Nat) :
    (Builtin.append_ #[t, t] ty #[v, .slice none 0 c]).run P w = .ok v w := by
  rcases hown.2 with ⟨rfl, rfl⟩ | ⟨g, cap, cur, rfl, _, _, hnc, _⟩
  · simp [Builtin.append_, run_underlying ht, sizeOf, typeInfo, hi, Builtin.lenOf, Builtin.firstCells]
  · simp [Builtin.append_, run_underlying ht, sizeOf, typeInfo, hi, Builtin.lenOf, Builtin.firstCells, hnc, storeCells]
section
variable {P : Program} {T E : TypeId} {size bytes : Nat}
theorem append_own (el : ElT P T E size bytes) (w : World) (ty : TypeId) (base : Nat) (O A : Option Addr) (oc n m c : Nat) (xs news : List Value) (hown : w.ownsRow base E size (.slice O n oc) n xs) (hl : news.length = m * size) (hx : Cells w A news) (h1 : ∀ u ∈ news, u.oneCell' = true) (hb : base ≤ w.heap.size) (h63 : n + m ≤ 1100000) :
    ∃ (O' : Option Addr) (d : Nat) (w' : World), (Builtin.append_ #[T, T] ty #[.slice O n oc, .slice A m c]).run P w = .ok (.slice O' (n + m) d) w' ∧ w'.ownsRow base E size (.slice O' (n + m) d) (n + m) (xs ++ news) ∧ Below base w w' ∧ w.grownBy w' (Value.slice O n oc).ownBlock := by
  obtain ⟨ht, ⟨i, z, hi, hz0, hz1, hz2, hzc⟩, hp, hs⟩ := el
  cases A with
  | none =>
    have h0 : news = [] := by
      cases news with
      | nil => rfl
      | cons s r => obtain ⟨ad, h, _⟩ := hx 0 s (by simp); cases h
    subst h0
    have hm : m = 0 := by
      rcases Nat.eq_zero_or_pos m with h | h
      · exact h
      · have := Nat.mul_pos h hp; simp at hl; omega
    subst hm
    exact ⟨O, oc, w, append_empty_run w base _ _ _ i size ht hi _ n xs hown c, by simpa using hown, Below.refl _ _, World.grownBy.refl w _⟩
  | some ad =>
    have hby : (n + m) * bytes ≤ 140737488355328 := by
      have h2 : (n + m) * bytes ≤ 1100000 * 1000 := Nat.mul_le_mul h63 hs
      omega
    obtain ⟨v', w', hrun, h2, h3, _, h5⟩ := run_append_own_at (P := P) w base T ty E i _ size bytes ht hi hz0 hz1 hz2 hzc hp _ n xs hown ad m c news hl (fun j u hj => by
      obtain ⟨ad', h, hc⟩ := hx j u hj
      cases h; exact hc) h1 (by unfold maxLen; omega) hby hb
    have hv : ∃ O' d, v' = .slice O' (n + m) d := by
      rcases h2.2 with ⟨h6, h7⟩ | ⟨g, cap, cur, h6, _⟩
      · exact ⟨none, 0, by rw [h6, h7]⟩
      · exact ⟨_, _, h6⟩
    obtain ⟨O', d, rfl⟩ := hv
    exact ⟨O', d, w', hrun, h2, below_of_grownBy h3 hb (fun g hg => (hown.lt g hg).1), h3⟩
theorem step_append (el : ElT P T E size bytes) {ops : Array Oper} {o : Oper} {a : Act} {K : Act → World → Prop} {Q : Exit → Act → World → Prop} {X : Prop} (w : World) (hgd : o.guard = none) (s x : Operand)
    (ho : o.op = .call { callee := .builtin .append, args := #[s, x], argTypes := #[T, T] }) (base : Nat) (O A : Option Addr) (oc n m c : Nat) (xs news : List Value) (hs : a.eval s = .slice O n oc) (hx : a.eval x = .slice A m c) (hl : news.length = m * size) (hown : w.ownsRow base E size (.slice O n oc) n xs) (hc : Cells w A news) (h1 : ∀ u ∈ news, u.oneCell' = true) (hb : base ≤ w.heap.size) (h63 : n + m ≤ 1100000)
    (h : ∀ (O' : Option Addr) (d : Nat) (w' : World), w'.ownsRow base E size (.slice O' (n + m) d) (n + m) (xs ++ news) → Below base w w' → K (a.put o.dst (.slice O' (n + m) d)) w') :
    if Region.wanted o (yielded ops a.tmps) = true then Oper.wp P o a w K Q else X := by
  have hw : Region.wanted o (yielded ops a.tmps) = true := by simp [Region.wanted, hgd]
  rw [if_pos hw]
  obtain ⟨O', d, w', hrun, g1, g2, _⟩ := append_own el w o.type base O A oc n m c xs news hown hl hc h1 hb h63
  exact Lib.wp_append_run w s x _ _ ho _ _ hs hx _ _ hrun (h O' d w' g1 g2)
theorem list_append (el : ElT P T E size bytes) (w : World) {ops : Array Oper} {rest : List Oper} {o : Oper} {a : Act} {Q : Exit → Act → World → Prop} (hgd : o.guard = none) (s x : Operand)
    (ho : o.op = .call { callee := .builtin .append, args := #[s, x], argTypes := #[T, T] }) (base : Nat) (O A : Option Addr) (oc n m c : Nat) (xs news : List Value) (hs : a.eval s = .slice O n oc) (hx : a.eval x = .slice A m c) (hl : news.length = m * size) (hown : w.ownsRow base E size (.slice O n oc) n xs) (hc : Cells w A news) (h1 : ∀ u ∈ news, u.oneCell' = true) (hb : base ≤ w.heap.size) (h63 : n + m ≤ 1100000)
    (h : ∀ (O' : Option Addr) (d : Nat) (w' : World), w'.ownsRow base E size (.slice O' (n + m) d) (n + m) (xs ++ news) → Below base w w' → wpList P ops Q rest (a.put o.dst (.slice O' (n + m) d)) w') :
    wpList P ops Q (o :: rest) a w := by
  obtain ⟨O', d, w', hrun, g1, g2, _⟩ := append_own el w o.type base O A oc n m c xs news hown hl hc h1 hb h63
  exact Lib.wpList_append_run w hgd s x _ _ ho _ _ hs hx _ _ hrun (h O' d w' g1 g2)
end
/-! ### append of a copy: onto a literal of no elements -/
section
variable {P : Program} {T E : TypeId} {size bytes : Nat}
theorem append_lit (el : ElT P T E size bytes) (w : World) (ty : TypeId) (base g : Nat) (A : Option Addr) (m c : Nat) (news : List Value) (hown : w.ownsRow base E size (.slice (some ⟨g, 0, none⟩) 0 0) 0 []) (hl : news.length = m * size) (hx : Cells w A news) (h1 : ∀ u ∈ news, u.oneCell' = true) (hb : base ≤ w.heap.size) (h63 : m ≤ 1100000) :
    ∃ (O' : Option Addr) (d : Nat) (w' : World), (Builtin.append_ #[T, T] ty #[.slice (some ⟨g, 0, none⟩) 0 0, .slice A m c]).run P w = .ok (.slice O' m d) w' ∧ w'.ownsRow base E size (.slice O' m d) m news ∧ Below w.heap.size w w' ∧ (∀ b, b ≠ g → b < w.heap.size → (Value.slice O' m d).ownBlock ≠ some b) := by
  have el' := el
  obtain ⟨ht, ⟨i, z, hi, hz0, hz1, hz2, hzc⟩, hp, hs⟩ := el
  rcases Nat.eq_zero_or_pos m with h0 | h0
  · subst h0
    have hnil : news = [] := List.eq_nil_of_length_eq_zero (by rw [hl]; simp)
    subst hnil
    have hrun : ∃ w', (Builtin.append_ #[T, T] ty #[.slice (some ⟨g, 0, none⟩) 0 0, .slice A 0 c]).run P w = .ok (.slice (some ⟨g, 0, none⟩) 0 0) w' ∧ w' = w := by
      refine ⟨_, ?_, rfl⟩
      cases A with
      | none => exact append_empty_run w base _ _ _ i size ht hi _ 0 [] hown c
      | some ad =>
        simp [Builtin.append_, run_underlying ht, sizeOf, typeInfo, hi, Builtin.lenOf, Builtin.firstCells, storeCells, loadCells, loadCellsFrom]
    obtain ⟨w', hr, rfl⟩ := hrun
    exact ⟨_, _, _, hr, hown, Below.refl _ _, fun b hb hl => by simp [Value.ownBlock]; exact fun e => hb e.symm⟩
  · obtain ⟨O', d, w', hrun, g1, g2, g3⟩ := append_own el' w ty base (some ⟨g, 0, none⟩) A 0 0 m c [] news hown hl hx h1 hb (by omega)
    simp only [Nat.zero_add, List.nil_append] at hrun g1
    cases A with
    | none =>
      exfalso
      cases news with
      | nil => have := Nat.mul_pos h0 hp; simp at hl; omega
      | cons s r => obtain ⟨ad, h, _⟩ := hx 0 s (by simp); cases h
    | some ad =>
      have hby : m * bytes ≤ 140737488355328 := by
        have h2 : m * bytes ≤ 1100000 * 1000 := Nat.mul_le_mul h63 hs
        omega
      have hr := run_append_grow (P := P) w T ty E i z ht hi hz0 ⟨g, 0, none⟩ 0 0 [] (by simp) (by simp) ad m c news (by rw [hl, hz1]) (fun j u hj => by
        obtain ⟨ad', h, hc⟩ := hx j u hj
        cases h; exact hc) (by omega) (by omega) (by rw [Nat.zero_add, hz2]; exact growslice_fits (by omega) (by omega))
      rw [hrun] at hr
      have hw : w' = _ := (Result.ok.inj hr).2
      have hv : Value.slice O' m d = _ := (Result.ok.inj hr).1
      refine ⟨O', d, w', hrun, g1, ?_, fun b hb hl => ?_⟩
      · rw [hw]
        exact (Below.refl _ _).drew.alloc (Nat.le_refl _) _
      · rw [hv]; simp [Value.ownBlock]; omega
theorem step_append_lit (el : ElT P T E size bytes) {ops : Array Oper} {o : Oper} {a : Act} {K : Act → World → Prop} {Q : Exit → Act → World → Prop} {X : Prop} (w : World) (hgd : o.guard = none) (s x : Operand)
    (ho : o.op = .call { callee := .builtin .append, args := #[s, x], argTypes := #[T, T] }) (base g : Nat) (A : Option Addr) (m c : Nat) (news : List Value) (hs : a.eval s = .slice (some ⟨g, 0, none⟩) 0 0) (hx : a.eval x = .slice A m c) (hl : news.length = m * size) (hown : w.ownsRow base E size (.slice (some ⟨g, 0, none⟩) 0 0) 0 []) (hc : Cells w A news) (h1 : ∀ u ∈ news, u.oneCell' = true) (hb : base ≤ w.heap.size) (h63 : m ≤ 1100000)
    (h : ∀ (O' : Option Addr) (d : Nat) (w' : World), w'.ownsRow base E size (.slice O' m d) m news → Below w.heap.size w w' → (∀ b, b ≠ g → b < w.heap.size → (Value.slice O' m d).ownBlock ≠ some b) → K (a.put o.dst (.slice O' m d)) w') :
    if Region.wanted o (yielded ops a.tmps) = true then Oper.wp P o a w K Q else X := by
  have hw : Region.wanted o (yielded ops a.tmps) = true := by simp [Region.wanted, hgd]
  rw [if_pos hw]
  obtain ⟨O', d, w', hrun, g1, g2, g3⟩ := append_lit el w o.type base g A m c news hown hl hc h1 hb h63
  exact Lib.wp_append_run w s x _ _ ho _ _ hs hx _ _ hrun (h O' d w' g1 g2 g3)
theorem list_append_lit (el : ElT P T E size bytes) (w : World) {ops : Array Oper} {rest : List Oper} {o : Oper} {a : Act} {Q : Exit → Act → World → Prop} (hgd : o.guard = none) (s x : Operand)
    (ho : o.op = .call { callee := .builtin .append, args := #[s, x], argTypes := #[T, T] }) (base g : Nat) (A : Option Addr) (m c : Nat) (news : List Value) (hs : a.eval s = .slice (some ⟨g, 0, none⟩) 0 0) (hx : a.eval x = .slice A m c) (hl : news.length = m * size) (hown : w.ownsRow base E size (.slice (some ⟨g, 0, none⟩) 0 0) 0 []) (hc : Cells w A news) (h1 : ∀ u ∈ news, u.oneCell' = true) (hb : base ≤ w.heap.size) (h63 : m ≤ 1100000)
    (h : ∀ (O' : Option Addr) (d : Nat) (w' : World), w'.ownsRow base E size (.slice O' m d) m news → Below w.heap.size w w' → (∀ b, b ≠ g → b < w.heap.size → (Value.slice O' m d).ownBlock ≠ some b) → wpList P ops Q rest (a.put o.dst (.slice O' m d)) w') :
    wpList P ops Q (o :: rest) a w := by
  obtain ⟨O', d, w', hrun, g1, g2, g3⟩ := append_lit el w o.type base g A m c news hown hl hc h1 hb h63
  exact Lib.wpList_append_run w hgd s x _ _ ho _ _ hs hx _ _ hrun (h O' d w' g1 g2 g3)
end
/-- A literal of no elements. -/
theorem own_nil_lit (w : World) (base g : Nat) (E : TypeId) (size : Nat) (hg : g = w.heap.size) (hb : base ≤ w.heap.size) : (w.alloc (.cells #[] E)).ownsRow base E size (.slice (some ⟨g, 0, none⟩) 0 0) 0 [] := by
  subst hg
  exact World.ownsRow_lit w #[] 0 hb (by simp) (by simp)
theorem own_nil_lit_d (w : World) (base g : Nat) (E : TypeId) (size : Nat) (hg : g = w.heap.size) (hb : base ≤ w.heap.size) : (w.alloc (.cells #[] E)).drew.ownsRow base E size (.slice (some ⟨g, 0, none⟩) 0 0) 0 [] := (own_nil_lit w base g E size hg hb).drew
theorem own_nil_lit_a (w : World) (base g : Nat) (E : TypeId) (size : Nat) (o : Obj) (hg : g = w.heap.size) (hb : base ≤ w.heap.size) : ((w.alloc (.cells #[] E)).alloc o).ownsRow base E size (.slice (some ⟨g, 0, none⟩) 0 0) 0 [] := own_keep (own_nil_lit w base g E size hg hb) ((Below.refl _ _).alloc (Nat.le_refl _) _)
theorem own_nil_lit_ad (w : World) (base g : Nat) (E : TypeId) (size : Nat) (o : Obj) (hg : g = w.heap.size) (hb : base ≤ w.heap.size) : ((w.alloc (.cells #[] E)).alloc o).drew.ownsRow base E size (.slice (some ⟨g, 0, none⟩) 0 0) 0 [] := (own_nil_lit_a w base g E size o hg hb).drew
end Go.Proofs.YtnnphhhjkhoglaaGreatDoor
