/- ApplyTogether in the program. Conditions: the ranges named. -/
import Derived.Test.YtgchbimjgdoifaaTg1
import Derived.Test.YtgchbimjgdoifaaDk8
import Derived.Test.YtgchbimjgdoifaaOb3
namespace Go.Proofs.Ytgchbimjgdoifaa
open Go.RowKit
set_option linter.unusedVariables false
set_option linter.unusedSimpArgs false
theorem elStr : ElT Try.prog 22 9 1 16 := ElT.mk' Try.underlying22 infoStr rfl (by omega) (by omega)
theorem strs_len1 (ss : List ByteArray) : (strs ss).length = ss.length * 1 := by simp [strs]
theorem str_at {w : World} {A : Option Addr} {ss : List ByteArray} (h : Cells w A (strs ss)) {i : Nat} (hi : i < ss.length) : ∃ ad, A = some ad ∧ w.cell? (ad.add i) = some (.string ss[i]) := h i _ (by unfold strs; rw [List.getElem?_map, List.getElem?_eq_getElem hi]; rfl)
/-- append onto a row of the call's own, of a slice that may be nil, and what it leaves alone. -/
theorem list_append_opt {P : Program} {T E : TypeId} {size bytes : Nat} (el : ElT P T E size bytes) (w : World) {ops : Array Oper} {rest : List Oper} {o : Oper} {a : Act} {Q : Exit → Act → World → Prop} (hgd : o.guard = none) (s x : Operand)
    (ho : o.op = .call { callee := .builtin .append, args := #[s, x], argTypes := #[T, T] }) (base : Nat) (O A : Option Addr) (oc n m c : Nat) (xs news : List Value) (hs : a.eval s = .slice O n oc) (hx : a.eval x = .slice A m c) (hl : news.length = m * size) (hown : w.ownsRow base E size (.slice O n oc) n xs) (hc : Cells w A news) (h1 : ∀ u ∈ news, u.oneCell' = true) (hb : base ≤ w.heap.size) (h63 : n + m ≤ 1100000)
    (h : ∀ (O' : Option Addr) (d : Nat) (w' : World), w'.ownsRow base E size (.slice O' (n + m) d) (n + m) (xs ++ news) → Below base w w' → w.heap.size ≤ w'.heap.size → (∀ b, b < w.heap.size → NotIn O b → w'.heap[b]? = w.heap[b]? ∧ NotIn O' b) → wpList P ops Q rest (a.put o.dst (.slice O' (n + m) d)) w') :
    wpList P ops Q (o :: rest) a w := by
  cases A with
  | some ad => exact list_append_sep el w hgd s x ho base O ad oc n m c xs news hs hx hl hown hc h1 hb h63 h
  | none =>
    have h0 : news = [] := by
      cases news with
      | nil => rfl
      | cons s r => obtain ⟨ad, h, _⟩ := hc 0 s (by simp); cases h
    subst h0
    have hm : m = 0 := by
      rcases Nat.eq_zero_or_pos m with h | h
      · exact h
      · have := Nat.mul_pos h el.pos; simp at hl; omega
    subst hm
    obtain ⟨ht, ⟨i, z, hi, _⟩, _⟩ := el
    exact Lib.wpList_append_run w hgd s x _ _ ho _ _ hs hx _ _ (append_empty_run w base _ _ _ i size ht hi _ n xs hown c) (h O oc w (by simpa using hown) (Below.refl _ _) (Nat.le_refl _) fun b hb hn => ⟨rfl, hn⟩)
theorem ToLBS.none_ {w w' : World} {xs : List ByteArray} {ok : Bool} (hx : xs = []) (ho : ok = false) (hb : Below w.heap.size w w') : ∃ (A : Option Addr) (c : Nat), Ending.returned (.tuple #[.slice none 0 0, .bool false]) = .returned (.tuple #[.slice A xs.length c, .bool ok]) ∧ OwS w.heap.size w'.heap.size w' A c xs ∧ Below w.heap.size w w' := by
  subst hx ho
  exact ⟨none, 0, rfl, ⟨⟨by simp [strs], .inl ⟨rfl, rfl⟩⟩, (fun a h => (by cases h)), by simp, (fun x h => (by simp at h))⟩, hb⟩
/-- A call that returns a list of words of its own and a Bool. -/
theorem ToSB.own_ {w w' : World} {xs ys : List ByteArray} {ok ok' : Bool} {O : Option Addr} {n oc : Nat} (h : w'.ownsRow w.heap.size 9 1 (.slice O n oc) n (strs ys)) (hx : xs = ys) (hn : n = ys.length) (hf : Fit ys) (ho : ok = ok') (hb : Below w.heap.size w w') : ToSB w xs ok (.returned (.tuple #[.slice O n oc, .bool ok'])) w' := by
  subst hx ho hn
  exact ⟨O, oc, rfl, OwS.mk h hf, hb⟩
theorem atP_yes {ps : List Prp} {m k : Nat} {p : Prp} (hk : k < ps.length) (hp : ps[k] = p) (h : p.a.p = (m : Int)) : atP ps m (k + 1) = atP ps m k ++ p.a.ws := by subst hp; rw [atP, getP hk, if_pos h]
theorem atP_no {ps : List Prp} {m k : Nat} {p : Prp} (hk : k < ps.length) (hp : ps[k] = p) (h : ¬ p.a.p = (m : Int)) : atP ps m (k + 1) = atP ps m k := by subst hp; rw [atP, getP hk, if_neg h, List.append_nil]
theorem stkB_step {ps : List Prp} {m k : Nat} {p : Prp} (hk : k < ps.length) (hp : ps[k] = p) : stkB ps m (k + 1) = (stkB ps m k || inB m p.a.p (p.a.p + p.a.n - 1)) := by subst hp; rw [stkB, getP hk]
theorem stkB_step0 {ss : List ByteArray} {ps : List Prp} {m : Nat} : ∀ st0 : Bool, ((m : Int) == (ss.length : Int)) = st0 → m ≤ ss.length → (st0 || stkB ps m ps.length) = true → togK ss ps (m + 1) = togK ss ps m ++ atP ps m ps.length := by
  intro st0 h0 hm h
  rw [togK]
  cases hs : stkB ps m ps.length with
  | true => simp
  | false =>
    rw [hs, Bool.or_false] at h
    rw [h] at h0
    have h1 : m = ss.length := by simp only [beq_iff_eq] at h0; omega
    rw [if_neg (by simp), List.getElem?_eq_none (by omega)]
    simp
theorem stkB_step1 {ss : List ByteArray} {ps : List Prp} {m : Nat} {st0 : Bool} (h0 : ((m : Int) == (ss.length : Int)) = st0) (hm : m ≤ ss.length) (h : (st0 || stkB ps m ps.length) = false) : ∃ hl : m < ss.length, togK ss ps (m + 1) = togK ss ps m ++ atP ps m ps.length ++ [ss[m]] := by
  rw [Bool.or_eq_false_iff] at h
  rw [h.1] at h0
  have h1 : ¬ m = ss.length := by
    intro e
    subst e
    simp at h0
  refine ⟨by omega, ?_⟩
  rw [togK, h.2, if_neg (by simp), List.getElem?_eq_getElem (by omega)]
  rfl
theorem cells_one (w : World) (v : Value) (t : TypeId) (g : Nat) (hg : g = w.heap.size) : Cells (w.alloc (.cells #[v] t)) (some ⟨g, 0, none⟩) [v] := by
  subst hg
  intro i u hi
  refine ⟨_, rfl, ?_⟩
  rw [add_head, cell_of_row _ _ i #[v] t (0, 0) (heap_alloc_new w _)]
  simpa using hi
end Go.Proofs.Ytgchbimjgdoifaa
