/- Words for the walks of draws: the cursor and what has turned, boxed structs, numbers drawn. Conditions: the ranges named. -/
import Derived.Test.YtnnphhhjkhoglaaDoorCu1
import Derived.Test.YtnnphhhjkhoglaaDoorSetc2
import Derived.Test.YtnnphhhjkhoglaaDoorAgr
import Derived.Deep.MidRow
import Derived.Test.YtnnphhhjkhoglaaDoorTy
namespace Go.Proofs.YtnnphhhjkhoglaaDoor
open Go.RowKit
set_option linter.unusedVariables false
set_option linter.unusedSimpArgs false
theorem lit_cellsI (w : World) (xs : List Int) (T : TypeId) (g : Nat) (hg : g = w.heap.size) : Cells (w.alloc (.cells (xs.map (Value.int .i64)).toArray T)) (some ⟨g, 0, none⟩) (IntK.row xs) := fun i u hi => by
  subst hg
  rw [intK_row] at hi
  refine ⟨_, rfl, ?_⟩
  rw [add_head]
  exact (BoxL.new w _ T).2 i u (by simpa using hi)
theorem Cur.belowB {w0 w w' : World} {b B : Nat} {A : Option Addr} {n c m : Nat} (h0 : BytesC w0 A n) (h : Cur w b A n c m) (hb : Below B w w') (hB : w0.heap.size ≤ B) (hlt : b < B) : Cur w' b A n c m := by
  obtain ⟨⟨k, s, h1, h2, h2', hx⟩, h3, h4, h5, h6⟩ := h
  refine ⟨⟨k, s, h1, h2, h2', hx.blk (hb.block b hlt)⟩, Nat.lt_of_lt_of_le h3 hb.size, h4, ?_, h6⟩
  rcases Nat.eq_zero_or_pos n with e | e
  · subst e; exact fun i hi => absurd hi (by omega)
  · refine h5.block fun a ha hl => hb.block _ ?_
    obtain ⟨a', x, hA, _, _, hc⟩ := h0 0 e
    rw [ha] at hA
    obtain rfl := Option.some.inj hA
    have := World.block_lt_of_cell? _ _ hc
    rw [block_add] at this
    omega
theorem Only.of_belowB {lo hi B : Nat} {w0 w w' : World} (h : Only lo hi w0 w) (hb : Below B w w') (hB : w0.heap.size ≤ B) : Only lo hi w0 w' :=
  ⟨hb.os.trans h.os, hb.tape.trans h.tape, hb.output.trans h.output, Nat.le_trans h.size hb.size, fun k hk ho => (hb.block k (Nat.lt_of_lt_of_le hk hB)).trans (h.block k hk ho)⟩
/-- The state of a draw: since w0 only the cursor in block b, and what is new, has turned; m bytes at most have been read. -/
structure Std (w0 w : World) (b : Nat) (A : Option Addr) (n c m : Nat) : Prop where
  cur : Cur w b A n c m
  on : Only b (b + 1) w0 w
  by0 : BytesC w0 A n
  lt : b < w0.heap.size
section
variable {w0 w w' : World} {b : Nat} {A : Option Addr} {n c m m' : Nat}
theorem Std.start (h : Cur w b A n c m) : Std w w b A n c m := ⟨h, Only.refl', h.bytes, h.lt⟩
theorem Std.call (h : Std w0 w b A n c m) (hb : Below w.heap.size w w') : Std w0 w' b A n c m := ⟨h.cur.below hb, h.on.trans (Only.of_below hb), h.by0, h.lt⟩
theorem Std.callB {B : Nat} (h : Std w0 w b A n c m) (hb : Below B w w') (hB : w0.heap.size ≤ B) : Std w0 w' b A n c m := ⟨h.cur.belowB h.by0 hb hB (Nat.lt_of_lt_of_le h.lt hB), h.on.of_belowB hb hB, h.by0, h.lt⟩
theorem Std.draw (h : Std w0 w b A n c m) (hc : Cur w' b A n c m') (ho : Only b (b + 1) w w') : Std w0 w' b A n c m' := ⟨hc, h.on.trans ho, h.by0, h.lt⟩
theorem Std.set (h : Std w0 w b A n c m) (p : Addr) (hp : w0.heap.size ≤ p.block) (v : Value) : Std w0 (w.setCell p v) b A n c m := h.callB ((Below.refl _ _).setCell hp v) (Nat.le_refl _)
theorem Std.alloc (h : Std w0 w b A n c m) (o : Obj) : Std w0 (w.alloc o) b A n c m := h.call (below1 w o)
theorem Std.mono (h : Std w0 w b A n c m) (hm : m ≤ m') : Std w0 w b A n c m' := ⟨h.cur.mono hm, h.on, h.by0, h.lt⟩
theorem Std.sz (h : Std w0 w b A n c m) : w0.heap.size ≤ w.heap.size := h.on.size
theorem Std.bw (h : Std w0 w b A n c m) : b < w.heap.size := Nat.lt_of_lt_of_le h.lt h.on.size
end
/-- A boxed struct of the type T. -/
structure BT (w : World) (q : Nat) (T : TypeId) (vs : List Value) : Prop where
  box : BoxF w q vs
  ty : Ty w q T
section
variable {w w' : World} {q b : Nat} {T : TypeId} {vs : List Value}
theorem BT.new (w : World) (vs : Array Value) (T : TypeId) (g : Nat) (hg : g = w.heap.size) : BT (w.alloc (.cells vs T)) g T vs.toList := ⟨BoxF.new' w vs T g hg, by subst hg; exact ⟨_, _, heap_alloc_new w _⟩⟩
theorem BT.lt (h : BT w q T vs) : q < w.heap.size := h.ty.lt
theorem BT.call (h : BT w q T vs) (hb : Below w.heap.size w w') : BT w' q T vs := ⟨h.box.below hb h.lt, h.ty.below hb h.lt⟩
theorem BT.callB {B : Nat} (h : BT w q T vs) (hb : Below B w w') (hq : q < B) : BT w' q T vs := ⟨h.box.below hb hq, h.ty.below hb hq⟩
theorem BT.draw (h : BT w q T vs) (ho : Only b (b + 1) w w') (hq : q ≠ b) : BT w' q T vs := by
  have hk := ho.block q h.lt (by omega)
  obtain ⟨cs, fr, ht⟩ := h.ty
  exact ⟨h.box.blk hk, ⟨cs, fr, hk.trans ht⟩⟩
theorem BT.far (h : BT w q T vs) (p : Addr) (u : Value) (hne : q ≠ p.block) : BT (w.setCell p u) q T vs := ⟨h.box.blk (heap_setCell_other w p q u hne), h.ty.set p u⟩
theorem BT.set (h : BT w q T vs) (k : Nat) (hk : k < vs.length) (u : Value) : BT (w.setCell ⟨q, k, none⟩ u) q T (vs.set k u) := ⟨h.box.set hk u, h.ty.set _ u⟩
theorem BT.alloc (h : BT w q T vs) (o : Obj) : BT (w.alloc o) q T vs := h.call (below1 w o)
end
/-- A row that the call has made, in memory from lo on. -/
def OwD {α : Type} (K : Kd α) (e : TypeId) (lo : Nat) (w : World) (A : Option Addr) (c : Nat) (xs : List α) : Prop := Ow K e lo w.heap.size w A c xs
section
variable {α : Type} {K : Kd α} {e lo b q : Nat} {w w' : World} {A : Option Addr} {c : Nat} {xs : List α} {T : TypeId}
theorem OwD.call (h : OwD K e lo w A c xs) (hb : Below w.heap.size w w') : OwD K e lo w' A c xs := (Ow.below h hb (Nat.le_refl _)).high hb.size
theorem OwD.draw (h : OwD K e lo w A c xs) (ho : Only b (b + 1) w w') (hb : b < lo) : OwD K e lo w' A c xs := (Ow.only h ho (.inr hb)).high ho.size
theorem OwD.set (h : OwD K e lo w A c xs) (ht : Ty w q T) (hne : e ≠ T) (k : Nat) (u : Value) : OwD K e lo (w.setCell ⟨q, k, none⟩ u) A c xs := ⟨ownsRow_setCell_other h.1 (by obtain ⟨cs, fr, hx⟩ := ht; exact own_off_type h.1 hx hne) u, h.2.1.mono (by simp), h.2.2⟩
theorem OwD.rd (h : OwD K e lo w A c xs) : Rd K w.heap.size w A c xs := Ow.rd h
theorem OwD.low {lo' : Nat} (h : OwD K e lo w A c xs) (hl : lo' ≤ lo) : OwD K e lo' w A c xs := Ow.low h hl
theorem OwD.alloc (h : OwD K e lo w A c xs) (o : Obj) : OwD K e lo (w.alloc o) A c xs := h.call (below1 w o)
end
/-! At the head of a draw: the cursor is made. -/
theorem Cur.new_ {w : World} {A : Option Addr} {n c : Nat} (h : BytesC w A n) (hn : n ≤ 65536) (T : TypeId) : Cur (w.alloc (.cells #[.slice A n c, .int .i64 0, .int .u64 0] T)) w.heap.size A n c 0 := by
  refine ⟨⟨0, 0, Nat.le_refl _, Int.le_refl _, by omega, BoxF.new' w _ _ _ rfl⟩, by simp, fun a ha hn0 => ?_, h.block fun a _ hl => (below1 w _).block _ hl, hn⟩
  obtain ⟨a', x, hA, _, _, hc⟩ := h 0 hn0
  rw [ha] at hA
  obtain rfl := Option.some.inj hA
  have := World.block_lt_of_cell? _ _ hc
  rw [block_add] at this
  omega
theorem BytesC.below_ {w w' : World} {A : Option Addr} {n : Nat} (h : BytesC w A n) (hb : Below w.heap.size w w') : BytesC w' A n := h.block fun a _ hl => hb.block _ hl
theorem below_of_only {B b : Nat} {w0 w w' : World} (h : Below B w0 w) (ho : Only b (b + 1) w w') (hb : B ≤ b) (hs : B ≤ w.heap.size) : Below B w0 w' :=
  ⟨ho.os.trans h.os, ho.tape.trans h.tape, ho.output.trans h.output, Nat.le_trans h.size ho.size, fun k hk => (ho.block k (Nat.lt_of_lt_of_le hk hs) (.inl (Nat.lt_of_lt_of_le hk hb))).trans (h.block k hk)⟩
/-- The state at the head of a draw: the cursor lies in the new block b. -/
structure Tst (w0 w : World) (b : Nat) (A : Option Addr) (n c m : Nat) : Prop where
  cur : Cur w b A n c m
  on : Below w0.heap.size w0 w
  by0 : BytesC w0 A n
  ge : w0.heap.size ≤ b
section
variable {w0 w w' : World} {b : Nat} {A : Option Addr} {n c m m' : Nat}
theorem Tst.sz (h : Tst w0 w b A n c m) : w0.heap.size ≤ w.heap.size := h.on.size
theorem Tst.bw (h : Tst w0 w b A n c m) : b < w.heap.size := h.cur.lt
theorem Tst.call (h : Tst w0 w b A n c m) (hb : Below w.heap.size w w') : Tst w0 w' b A n c m := ⟨h.cur.below hb, h.on.trans (hb.mono h.sz), h.by0, h.ge⟩
theorem Tst.draw (h : Tst w0 w b A n c m) (hc : Cur w' b A n c m') (ho : Only b (b + 1) w w') : Tst w0 w' b A n c m' := ⟨hc, below_of_only h.on ho h.ge h.sz, h.by0, h.ge⟩
theorem Tst.alloc (h : Tst w0 w b A n c m) (o : Obj) : Tst w0 (w.alloc o) b A n c m := h.call (below1 w o)
theorem Tst.set (h : Tst w0 w b A n c m) (p : Addr) (hp : w0.heap.size ≤ p.block ∧ p.block ≠ b) (v : Value) : Tst w0 (w.setCell p v) b A n c m := by
  refine ⟨?_, h.on.setCell hp.1 v, h.by0, h.ge⟩
  obtain ⟨⟨k, s, g1, g2, g3, hx⟩, h3, h4, h5, h6⟩ := h.cur
  refine ⟨⟨k, s, g1, g2, g3, hx.blk (Below.heap_setCell _ _ _ _ (fun e => hp.2 e.symm))⟩, by simpa using h3, h4, ?_, h6⟩
  rcases Nat.eq_zero_or_pos n with e | e
  · subst e; exact fun i hi => absurd hi (by omega)
  · refine h5.block fun a ha _ => Below.heap_setCell _ _ _ _ ?_
    obtain ⟨a', x, hA, _, _, hc⟩ := h.by0 0 e
    rw [ha] at hA
    obtain rfl := Option.some.inj hA
    have := World.block_lt_of_cell? _ _ hc
    rw [block_add] at this
    omega
theorem Tst.puts {q : Nat} (h : Tst w0 w b A n c m) (hq : w0.heap.size ≤ q ∧ q ≠ b) : ∀ (o : Nat) (vs : List Value), Tst w0 (w.setCells q o vs) b A n c m := by
  intro o vs
  induction vs generalizing o w with
  | nil => exact h
  | cons v vs ih => exact ih (h.set ⟨q, o, none⟩ hq v) (o + 1)
end
/-! Many cells stored at once. -/
section
variable {w0 w : World} {q b : Nat} {A : Option Addr} {n c m : Nat}
theorem Std.puts (h : Std w0 w b A n c m) (hq : w0.heap.size ≤ q) : ∀ (o : Nat) (vs : List Value), Std w0 (w.setCells q o vs) b A n c m := by
  intro o vs
  induction vs generalizing o w with
  | nil => exact h
  | cons v vs ih => exact ih (h.set ⟨q, o, none⟩ hq v) (o + 1)
theorem heap_puts (w : World) (g k : Nat) (hne : k ≠ g) : ∀ (o : Nat) (vs : List Value), (w.setCells g o vs).heap[k]? = w.heap[k]? := by
  intro o vs
  induction vs generalizing o w with
  | nil => rfl
  | cons v vs ih => exact (ih (w.setCell ⟨g, o, none⟩ v) (o + 1)).trans (heap_setCell_other w ⟨g, o, none⟩ k v hne)
theorem Ty.puts {T : TypeId} (h : Ty w b T) (g : Nat) : ∀ (o : Nat) (vs : List Value), Ty (w.setCells g o vs) b T := by
  intro o vs
  induction vs generalizing o w with
  | nil => exact h
  | cons v vs ih => exact ih (h.set _ v) (o + 1)
theorem BT.putsfar {T : TypeId} {vs : List Value} (h : BT w q T vs) (g : Nat) (hne : q ≠ g) (o : Nat) (us : List Value) : BT (w.setCells g o us) q T vs :=
  ⟨h.box.blk (heap_puts w g q hne o us), h.ty.puts g o us⟩
theorem BT.there {T : TypeId} {vs : List Value} (h : BT w q T vs) : w.there q 0 vs.length := fun j hj => ⟨by rw [Nat.zero_add, h.box.1 j _ (List.getElem?_eq_getElem hj)]; rfl, by rw [Nat.zero_add]; exact h.box.2 j⟩
theorem BT.rng {T : TypeId} {vs : List Value} (h : BT w q T vs) : w.rangeAt q 0 vs := fun j v hv => by rw [Nat.zero_add]; exact h.box.1 j v hv
theorem BT.puts {T : TypeId} {vs : List Value} (h : BT w q T vs) (us : List Value) (hl : us.length = vs.length) : BT (w.setCells q 0 us) q T us := by
  refine ⟨⟨fun i v hi => ?_, fun i => ?_⟩, h.ty.puts q 0 us⟩
  · have hlt : i < us.length := (List.getElem?_eq_some_iff.1 hi).1
    have h1 := World.cell?_setCells_in q us 0 w (fun j hj => (h.there j (by omega)).1) i hlt
    rw [Nat.zero_add] at h1
    rw [h1, ← hi, List.getElem?_eq_getElem hlt]
  · rw [World.frozen?_setCells]; exact h.box.2 i
theorem OwD.puts {α : Type} {K : Kd α} {e lo : Nat} {P : Option Addr} {d : Nat} {xs : List α} {T : TypeId} (h : OwD K e lo w P d xs) (ht : Ty w q T) (hne : e ≠ T) : ∀ (o : Nat) (vs : List Value), OwD K e lo (w.setCells q o vs) P d xs := by
  intro o vs
  induction vs generalizing o w with
  | nil => exact h
  | cons v vs ih => exact ih (h.set ht hne o v) (ht.set _ v) (o + 1)
end
/-! An append onto a row of another type. -/
section
variable {w w' w0 : World} {base E size n oc : Nat} {O : Option Addr} {xs : List Value}
theorem grown_block {b : Nat} {cs : Array Value} {T : TypeId} {fr : Nat × Nat} (h : w.heap[b]? = some (.cells cs T fr)) (ho : w.ownsRow base E size (.slice O n oc) n xs) (hne : E ≠ T) (hg : w.grownBy w' (Value.slice O n oc).ownBlock) : w'.heap[b]? = w.heap[b]? := by
  have hl : b < w.heap.size := by
    rcases Nat.lt_or_ge b w.heap.size with h1 | h1
    · exact h1
    · rw [Array.getElem?_eq_none h1] at h; cases h
  exact hg.block b hl (fun e => own_off_type ho h hne e.symm)
theorem BT.grow {q : Nat} {T : TypeId} {vs : List Value} (h : BT w q T vs) (ho : w.ownsRow base E size (.slice O n oc) n xs) (hne : E ≠ T) (hg : w.grownBy w' (Value.slice O n oc).ownBlock) : BT w' q T vs := by
  obtain ⟨cs, fr, ht⟩ := h.ty
  have hk := grown_block ht ho hne hg
  exact ⟨h.box.blk hk, ⟨cs, fr, hk.trans ht⟩⟩
theorem OwD.grow {α : Type} {K : Kd α} {e lo : Nat} {A : Option Addr} {c : Nat} {ys : List α} (h : OwD K e lo w A c ys) (ho : w.ownsRow base E size (.slice O n oc) n xs) (hne : E ≠ e) (hg : w.grownBy w' (Value.slice O n oc).ownBlock) : OwD K e lo w' A c ys :=
  ⟨h.1.kept hg (own_two ho h.1 hne), h.2.1.mono hg.size, h.2.2⟩
theorem Std.grow {b : Nat} {A : Option Addr} {k c m : Nat} (h : Std w0 w b A k c m) (ho : w.ownsRow base E size (.slice O n oc) n xs) (hB : w0.heap.size ≤ base) (hg : w.grownBy w' (Value.slice O n oc).ownBlock) : Std w0 w' b A k c m :=
  h.callB (B := w0.heap.size) (below_of_grownBy hg h.sz (fun g e => Nat.le_trans hB (ho.lt g e).1)) (Nat.le_refl _)
end
end Go.Proofs.YtnnphhhjkhoglaaDoor
