/- Pieces of texts, as the library cuts them; what the library reads. Conditions: the ranges named. -/
import Derived.Test.YtnnphhhjkhoglaaDoorPt2
import Derived.Test.YtnnphhhjkhoglaaDoorCut1
import Derived.Test.YtnnphhhjkhoglaaDoorDr0
import Derived.Lib.SplitLaws
namespace Go.Proofs.YtnnphhhjkhoglaaDoor
open Go.RowKit
set_option linter.unusedVariables false
set_option linter.unusedSimpArgs false
theorem piece_len {c : UInt8} : ∀ {l cur x : List UInt8}, x ∈ spF c cur l → x.length ≤ cur.length + l.length
  | [], cur, x, h => by
    rw [spF] at h
    have := List.mem_singleton.1 h
    subst this
    simp
  | b :: t, cur, x, h => by
    rw [spF] at h
    split at h
    · rcases List.mem_cons.1 h with rfl | h
      · omega
      · have := piece_len h; simp at this ⊢; omega
    · have := piece_len h; simp at this ⊢; omega
theorem spl_mem {c : UInt8} {l x : List UInt8} (h : x ∈ spl c l) : x.length ≤ l.length := by
  have := piece_len h
  simpa using this
theorem spl_pos (c : UInt8) (l : List UInt8) : 1 ≤ (spl c l).length := by
  have := spl_ne (c := c) (l := l) (cur := [])
  rcases Nat.eq_zero_or_pos (spl c l).length with h0 | h0
  · exact absurd (List.eq_nil_of_length_eq_zero h0) this
  · exact h0
theorem bar_list (l : List UInt8) : (bar l).data.toList = l := by simp [bar]
theorem bar_size (l : List UInt8) : (bar l).size = l.length := by unfold bar ByteArray.size; simp
theorem getD_bar {ls : List (List UInt8)} (i : Nat) : (ls.map bar).getD i ByteArray.empty = bar (ls.getD i []) := by
  rw [List.getD_eq_getElem?_getD, List.getElem?_map, List.getD_eq_getElem?_getD]
  cases ls[i]? <;> rfl
theorem keep_cell {w w' : World} {a : Addr} {v : Value} (hb : Below w.heap.size w w') (h : w.cell? a = some v) : w'.cell? a = some v := (hb.cell (World.block_lt_of_cell? w a h)).trans h
/-- What the library's searches read: MaxLen. -/
def Mx (w : World) : Prop := ∃ m : Int, w.cell? ⟨1, 0, none⟩ = some (.int .i64 m)
theorem Mx.below {w w' : World} (h : Mx w) (hb : Below w.heap.size w w') : Mx w' := by
  obtain ⟨m, hm⟩ := h
  exact ⟨m, keep_cell hb hm⟩
theorem data_inj {xs ys : List ByteArray} (h : xs.map (·.data.toList) = ys.map (·.data.toList)) : xs = ys := by
  induction xs generalizing ys with
  | nil => cases ys with
    | nil => rfl
    | cons y ys => simp at h
  | cons x xs ih => cases ys with
    | nil => simp at h
    | cons y ys =>
      simp only [List.map_cons, List.cons.injEq] at h
      rw [ih h.2, ByteArray.ext (Array.ext' h.1)]
theorem splitB_pcs (c : UInt8) (s : ByteArray) : Go.Lib.splitB ⟨#[c]⟩ 0 (Go.Lib.countB s ⟨#[c]⟩) s = pcs c s := by
  apply data_inj
  rw [Go.Lib.splitB_data]
  show Go.Lib.splitK [c] 0 (Go.Lib.count s.data.toList [c]) s.data.toList = _
  rw [splitK_spl c _ _ (Nat.le_refl _)]
  unfold pcs
  rw [List.map_map]
  conv => lhs; rw [← List.map_id (spl c s.data.toList)]
  apply List.map_congr_left
  intro l _
  simp [bar]
theorem own_lit (w : World) (xs : List ByteArray) (hx : xs.length ≤ maxLen) : (w.alloc (.cells (xs.map Value.string).toArray 9)).ownsRow w.heap.size 9 1 (.slice (some ⟨w.heap.size, 0, none⟩) xs.length xs.length) xs.length (StrK.row xs) := by
  have h := World.ownsRow_lit w (xs.map Value.string).toArray (e := 9) (size := 1) (base := w.heap.size) xs.length (Nat.le_refl _) hx (by simp)
  rw [strK_row]
  simpa using h
/-- A row of texts of a call's own, however long. -/
def OwP (lo : Nat) (w : World) (O : Option Addr) (oc : Nat) (ps : List ByteArray) : Prop := w.ownsRow lo 9 1 (.slice O ps.length oc) ps.length (StrK.row ps) ∧ ∀ x ∈ ps, x.size ≤ maxLen
theorem OwP.call {lo : Nat} {w w' : World} {O : Option Addr} {oc : Nat} {ps : List ByteArray} (h : OwP lo w O oc ps) (hb : Below w.heap.size w w') : OwP lo w' O oc ps := ⟨own_keep h.1 hb, h.2⟩
theorem OwP.owd {lo : Nat} {w : World} {O : Option Addr} {oc : Nat} {ps : List ByteArray} (h : OwP lo w O oc ps) (hl : ps.length ≤ 1048576) : OwD StrK 9 lo w O oc ps := Ow.mk h.1 hl h.2
/-- A list of texts that a call hands back: a row of its own. -/
def PcsL (w : World) (ls : List (List UInt8)) : Ending → World → Prop := fun e w' => ∃ (O : Option Addr) (oc : Nat) (ps : List ByteArray), e = .returned (.slice O ps.length oc) ∧ ps = ls.map bar ∧ OwP w.heap.size w' O oc ps ∧ Below w.heap.size w w'
theorem pcsL_of {w : World} {c : UInt8} {s : ByteArray} (hs : s.size ≤ 1048576) {f : FuncId} {args : Array Value} (h : Calls Tryd.prog f args w (Pcs w (pcs c s))) : Calls Tryd.prog f args w (PcsL w (spl c s.data.toList)) := by
  have hl : s.data.toList.length = s.size := Array.length_toList
  refine h.mono fun e w' ⟨O, oc, he, own, hb⟩ => ⟨O, oc, pcs c s, he, rfl, ⟨own, fun x hx => ?_⟩, hb⟩
  unfold pcs at hx
  obtain ⟨l, hm, rfl⟩ := List.mem_map.1 hx
  have := spl_mem hm
  rw [bar_size]
  unfold maxLen
  omega
theorem splitL_any (c : UInt8) (s : ByteArray) (w : World) (hs : s.size ≤ 1048576) (h : Mx w) : Calls Tryd.prog 11 #[.string s, .string ⟨#[c]⟩] w (PcsL w (spl c s.data.toList)) := by
  refine pcsL_of hs ?_
  obtain ⟨m, hm⟩ := h
  refine (Tryd.strings_Split s ⟨#[c]⟩ m w (by omega) hm (by show 1 ≤ 1; omega)).mono ?_
  rintro e w' ⟨rfl, rfl⟩
  have hl : Go.Lib.countB s ⟨#[c]⟩ + 1 = (pcs c s).length := by
    rw [← splitB_pcs, Go.Lib.splitB_all ⟨#[c]⟩ (by show 1 ≤ 1; omega) 0 _ s rfl]
  rw [splitB_pcs, hl]
  exact ⟨_, _, rfl, own_lit w _ (by have h1 := spl_len c s.data.toList []; have h2 : s.data.toList.length = s.size := Array.length_toList; unfold pcs maxLen; rw [List.length_map]; unfold spl; omega), below1 _ _⟩
theorem l1SplitL_any (c : UInt8) (s : ByteArray) (w : World) (hs : s.size ≤ 1048576) : Calls Tryd.prog 19 #[.string s, .int .u8 c.toNat] w (PcsL w (spl c s.data.toList)) := pcsL_of hs (l1Split_any s c w hs)
theorem spl_len_count (c : UInt8) : ∀ (l cur : List UInt8), (spF c cur l).length = l.count c + 1
  | [], cur => by simp [spF]
  | b :: t, cur => by
    rw [spF]
    by_cases h : b = c
    · rw [if_pos h, List.length_cons, spl_len_count c t [], List.count_cons, h]; simp
    · rw [if_neg h, spl_len_count c t _, List.count_cons]; simp [h]
/-- The cells of a list of texts. -/
theorem str_cell {w : World} {O : Option Addr} {oc lo : Nat} {ps : List ByteArray} {ls : List (List UInt8)} (h : OwP lo w O oc ps) (hp : ps = ls.map bar) {k : Nat} (hk : k < ls.length) : ∃ g, O = some ⟨g, 0, none⟩ ∧ w.cell? ⟨g, k, none⟩ = some (.string (bar ls[k])) := by
  have hk2 : k < ps.length := by rw [hp, List.length_map]; exact hk
  obtain ⟨ad, hA, hc⟩ := str_at (Cells.of_own h.1) hk2
  have he : ps[k] = bar ls[k] := by subst hp; simp
  rw [he] at hc
  rcases h.1.2 with ⟨h1, h2⟩ | ⟨g, cap, cur, h1, _⟩
  · omega
  · injection h1 with h1
    subst h1
    cases hA
    rw [add_head] at hc
    exact ⟨g, rfl, hc⟩
end Go.Proofs.YtnnphhhjkhoglaaDoor
