/- A share set in a floor that lies in a box. Conditions: the ranges named. -/
import Derived.Test.YtbpikbcnpmplfaaSs1
import Derived.Test.YtbpikbcnpmplfaaInsShare
import Derived.Test.YtbpikbcnpmplfaaSetc2
namespace Go.Proofs.Ytbpikbcnpmplfaa
open Go.RowKit
set_option linter.unusedVariables false
set_option linter.unusedSimpArgs false
/-- The block b holds cells of the type T. -/
def Ty (w : World) (b : Nat) (T : TypeId) : Prop := ∃ cs fr, w.heap[b]? = some (.cells cs T fr)
theorem Ty.lt {w : World} {b : Nat} {T : TypeId} (h : Ty w b T) : b < w.heap.size := by
  obtain ⟨cs, fr, h⟩ := h
  rcases Nat.lt_or_ge b w.heap.size with h1 | h1
  · exact h1
  · rw [Array.getElem?_eq_none h1] at h; cases h
theorem Ty.below {w w' : World} {b B : Nat} {T : TypeId} (h : Ty w b T) (hb : Below B w w') (hB : b < B) : Ty w' b T := by
  obtain ⟨cs, fr, h⟩ := h
  exact ⟨cs, fr, (hb.block b hB).trans h⟩
theorem Ty.set {w : World} {b : Nat} {T : TypeId} (h : Ty w b T) (p : Addr) (u : Value) : Ty (w.setCell p u) b T := by
  obtain ⟨cs, fr, h⟩ := h
  by_cases hp : b = p.block
  · subst hp
    refine ⟨if p.spot.isSome then cs else cs.setIfInBounds p.off u, fr, ?_⟩
    simp only [World.setCell, Array.getElem?_modify, if_pos, h, Option.map_some]
  · exact ⟨cs, fr, (heap_setCell_other w p b u hp).trans h⟩
theorem Ty.off {w : World} {b : Nat} {T : TypeId} (h : Ty w b T) {lo e size n c : Nat} {A : Option Addr} {xs : List Value} (ho : w.ownsRow lo e size (.slice A n c) n xs) (hne : e ≠ T) : (Value.slice A n c).ownBlock ≠ some b := by
  obtain ⟨cs, fr, h⟩ := h
  exact own_off_type ho h hne
/-- Two rows of different types lie apart. -/
theorem own_apart {w : World} {lo e size n c lo' e' size' n' c' : Nat} {A A' : Option Addr} {xs xs' : List Value} (h : w.ownsRow lo e size (.slice A n c) n xs) (h' : w.ownsRow lo' e' size' (.slice A' n' c') n' xs') (hne : e ≠ e') : ∀ g, (Value.slice A n c).ownBlock = some g → (Value.slice A' n' c').ownBlock ≠ some g := fun g h1 h2 => by
  obtain ⟨_, h3 | ⟨g', cap, cur, hv, _, hg, _⟩⟩ := h'
  · rw [h3.1] at h2; cases h2
  · rw [hv] at h2
    obtain rfl : g' = g := by simpa [Value.ownBlock] using h2
    exact own_off_type h hg hne h1
theorem BoxF.blk2 {w w' : World} {b : Nat} {vs : List Value} (h : BoxF w b vs) (hb : w'.heap[b]? = w.heap[b]?) : BoxF w' b vs :=
  ⟨fun i v hi => (World.cell?_of_block (a := ⟨b, i, none⟩) hb).trans (h.1 i v hi), fun i => by have := h.2 i; simp only [World.frozen?] at this ⊢; rw [hb]; exact this⟩
/-- Only the block b, a row's and what is new have turned. -/
structure Two (w w' : World) (b : Nat) (row : Option Nat) : Prop where
  os : w'.os = w.os
  tape : w'.tape = w.tape
  output : w'.output = w.output
  size : w.heap.size ≤ w'.heap.size
  block : ∀ k, k < w.heap.size → k ≠ b → some k ≠ row → w'.heap[k]? = w.heap[k]?
theorem Two.grown {w w1 w' : World} {b : Nat} {row row' : Option Nat} (h : Two w w1 b row) (g : w1.grownBy w' row') (hr : row' = row ∨ (∃ q, row' = some q ∧ w.heap.size ≤ q) ∨ row' = none ∨ row' = some b) : Two w w' b row :=
  ⟨g.os.trans h.os, g.tape.trans h.tape, g.output.trans h.output, Nat.le_trans h.size g.size, fun k hk h1 h2 => (g.block k (Nat.lt_of_lt_of_le hk h.size) (by
    rcases hr with rfl | ⟨q, rfl, hq⟩ | rfl | rfl
    · exact h2
    · simp; omega
    · simp
    · simpa using h1)).trans (h.block k hk h1 h2)⟩
theorem Two.refl (w : World) (b : Nat) (row : Option Nat) : Two w w b row := ⟨rfl, rfl, rfl, Nat.le_refl _, fun _ _ _ _ => rfl⟩
theorem Two.set {w w1 : World} {b : Nat} {row : Option Nat} (h : Two w w1 b row) (i : Nat) (u : Value) : Two w (w1.setCell ⟨b, i, none⟩ u) b row :=
  ⟨h.os, h.tape, h.output, by simpa using h.size, fun k hk h1 h2 => (heap_setCell_other w1 ⟨b, i, none⟩ k u h1).trans (h.block k hk h1 h2)⟩
theorem Two.drew {w w1 : World} {b : Nat} {row : Option Nat} (h : Two w w1 b row) : Two w w1.drew b row := ⟨h.os, h.tape, h.output, h.size, h.block⟩
theorem Two.of_below {w w' : World} {b : Nat} {row : Option Nat} (h : Below w.heap.size w w') : Two w w' b row := ⟨h.os, h.tape, h.output, h.size, fun k hk _ _ => h.block k hk⟩
theorem Two.trans {w w1 w' : World} {b : Nat} {row row' : Option Nat} (h : Two w w1 b row) (g : Two w1 w' b row') (hr : row' = row ∨ (∃ q, row' = some q ∧ w.heap.size ≤ q) ∨ row' = none) : Two w w' b row :=
  ⟨g.os.trans h.os, g.tape.trans h.tape, g.output.trans h.output, Nat.le_trans h.size g.size, fun k hk h1 h2 => (g.block k (Nat.lt_of_lt_of_le hk h.size) h1 (by
    rcases hr with rfl | ⟨q, rfl, hq⟩ | rfl
    · exact h2
    · simp; omega
    · simp)).trans (h.block k hk h1 h2)⟩
theorem Two.below {w w' : World} {b : Nat} {row : Option Nat} (h : Two w w' b row) {B : Nat} (hb : B ≤ b) (hr : ∀ q, row = some q → B ≤ q) (hB : B ≤ w.heap.size) : Below B w w' :=
  ⟨h.os, h.tape, h.output, h.size, fun k hk => h.block k (by omega) (by omega) (fun e => by have := hr k e.symm; omega)⟩
theorem Two.row {w w' : World} {b : Nat} {row : Option Nat} (h : Two w w' b row) {lo e size n c : Nat} {A : Option Addr} {xs : List Value} (ho : w.ownsRow lo e size (.slice A n c) n xs) (h1 : (Value.slice A n c).ownBlock ≠ some b) (h2 : ∀ g, (Value.slice A n c).ownBlock = some g → row ≠ some g) : w'.ownsRow lo e size (.slice A n c) n xs := by
  have hl := ho.lt
  obtain ⟨a1, a2⟩ := ho
  refine ⟨a1, ?_⟩
  rcases a2 with a2 | ⟨g, cap, cur, hv, hg, hh, r⟩
  · exact .inl a2
  · refine .inr ⟨g, cap, cur, hv, hg, ?_, r⟩
    rw [hv] at h1 h2
    refine (h.block g ?_ (fun e => h1 (by rw [e]; rfl)) (fun e => h2 g rfl e.symm)).trans hh
    rcases Nat.lt_or_ge g w.heap.size with h3 | h3
    · exact h3
    · rw [Array.getElem?_eq_none h3] at hh; cases hh
theorem row_setL {α : Type} (K : Kd α) {xs : List α} {k : Nat} (h : k < xs.length) (x : α) : setL (K.row xs) (k * K.sz) (K.enc x) = K.row (xs.take k ++ x :: xs.drop (k + 1)) := by
  have e1 : K.row xs = K.row (xs.take k) ++ (K.enc xs[k] ++ K.row (xs.drop (k + 1))) := by
    rw [← Kd.row_one, ← Kd.row_append, ← Kd.row_append]
    congr 1
    rw [show [xs[k]] ++ xs.drop (k + 1) = xs.drop k from (List.drop_eq_getElem_cons h).symm, List.take_append_drop]
  have e2 : (K.row (xs.take k)).length = k * K.sz := by rw [Kd.row_len, List.length_take, Nat.min_eq_left (Nat.le_of_lt h)]
  rw [e1, ← e2, setL_append _ _ _ (by rw [K.len, K.len]), Kd.row_append, show x :: xs.drop (k + 1) = [x] ++ xs.drop (k + 1) from rfl, Kd.row_append, Kd.row_one]
theorem BoxF.far {w : World} {b : Nat} {vs : List Value} (h : BoxF w b vs) (p : Addr) (u : Value) (hne : b ≠ p.block) : BoxF (w.setCell p u) b vs := BoxF.blk2 h (heap_setCell_other w p b u hne)
theorem BoxF.two {w w' : World} {b c : Nat} {row : Option Nat} {vs : List Value} (h : BoxF w b vs) (hlt : b < w.heap.size) (ht : Two w w' c row) (h1 : b ≠ c) (h2 : some b ≠ row) : BoxF w' b vs := BoxF.blk2 h (ht.block b hlt h1 h2)
/-- One share goes into a row of the call's own. -/
theorem insShare_any (base : Nat) (O : Option Addr) (n oc i vb : Nat) (xs : List Shr) (x : Shr) (w : World) (hn : n = xs.length) (own : w.ownsRow base 43 3 (.slice O n oc) n (ShareK.row xs)) (hi : i ≤ n) (hv : w.heap[vb]? = some (.cells (ShareK.enc x).toArray 43 (0, 0))) (hne : (Value.slice O n oc).ownBlock ≠ some vb) (hm : n ≤ 1000000) (hb0 : base ≤ w.heap.size) :
    Calls Try.prog 86 #[.slice O n oc, .int .i64 i, .slice (some ⟨vb, 0, none⟩) 1 1] w (InsShare base w O n oc (xs.take i ++ x :: xs.drop i)) := by
  rcases Nat.lt_or_ge i n with h | h
  · obtain ⟨g, cap, hvv, _, _⟩ := own.form (by omega)
    obtain ⟨rfl, _, rfl⟩ : O = some ⟨g, 0, none⟩ ∧ n = n ∧ oc = cap := (by simpa using hvv)
    rcases Nat.lt_or_ge oc (n + 1) with hr | hr
    · exact insShare_grow base g n oc i vb xs x w hn own h hr hv hm hb0
    · exact insShare_shift base g n oc i vb xs x w hn own h hr hv (fun e => hne (by rw [e]; rfl)) hm
  · obtain rfl : i = n := by omega
    exact insShare_end base O i oc vb xs x w hn own (by omega) (fun j u hj => ⟨_, rfl, by rw [add_head]; exact (cell_of_row w vb j _ _ _ hv).trans (by simpa using hj)⟩) hb0
end Go.Proofs.Ytbpikbcnpmplfaa
