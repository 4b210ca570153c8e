/- Sections in rows of a call's own; lists that are checked. Conditions: the ranges named. -/
import Derived.Test.YtifahgdalgjgfaaSe4
import Derived.Test.YtifahgdalgjgfaaIb
import Derived.Test.YtifahgdalgjgfaaAgr
namespace Go.Proofs.Ytifahgdalgjgfaa
open Go.RowKit
set_option linter.unusedVariables false
set_option linter.unusedSimpArgs false
theorem elSection : ElT Try.prog 68 78 2 24 := ElT.mk' Try.underlying68 infoSection rfl (by omega) (by omega)
theorem section_one {xs : List Sec} : ∀ u ∈ SectionK.row xs, u.oneCell' = true := fun u hu => by
  obtain ⟨x, _, h⟩ := List.mem_flatMap.1 hu
  simp only [SectionK, List.mem_cons, List.not_mem_nil, or_false] at h
  rcases h with rfl | rfl <;> rfl
theorem takeS {α : Type} (K : Kd α) {w : World} {A : Option Addr} {xs : List α} {n : Nat} (h : Cells w A (K.row xs)) : Cells w A (K.row (xs.take n)) := fun i u hu => by
  refine h i u ?_
  rw [Kd.row_take, List.getElem?_take] at hu
  split at hu
  · exact hu
  · cases hu
theorem dropS {α : Type} (K : Kd α) {w : World} {A Q : Option Addr} {xs : List α} {n : Nat} (h : Cells w A (K.row xs)) (hQ : n < xs.length → Q = A.map (·.add (n * K.sz))) : Cells w Q (K.row (xs.drop n)) := fun i u hu => by
  have hi : n < xs.length := by
    rcases Nat.lt_or_ge n xs.length with h1 | h1
    · exact h1
    · rw [List.drop_eq_nil_of_le h1] at hu; simp [Kd.row] at hu
  rw [Kd.row_drop, List.getElem?_drop] at hu
  obtain ⟨ad, hO, hc⟩ := h _ u hu
  subst hO
  exact ⟨ad.add (n * K.sz), hQ hi, by rw [add_add']; exact hc⟩
theorem tolb_none {α : Type} {K : Kd α} {e : TypeId} {w w' : World} {xs : List α} {ok : Bool} (hx : xs = []) (ho : ok = false) (hb : Below w.heap.size w w') : ToLB K e w xs ok (.returned (.tuple #[.slice none 0 0, .bool false])) w' := by
  subst hx ho
  exact ⟨none, 0, rfl, ⟨World.ownsRow_nil _ _ _ _, (fun a ha => by cases ha), by simp, by simp⟩, hb⟩
theorem tolb_own {α : Type} {K : Kd α} {e : TypeId} {w w' : World} {xs ys : List α} {ok ok' : Bool} {O : Option Addr} {n oc : Nat} (h : w'.ownsRow w.heap.size e K.sz (.slice O n oc) n (K.row ys)) (hx : xs = ys) (hn : n = ys.length) (hm : ys.length ≤ 1048576) (hf : ∀ x ∈ ys, K.fit x) (ho : ok = ok') (hb : Below w.heap.size w w') : ToLB K e w xs ok (.returned (.tuple #[.slice O n oc, .bool ok'])) w' := by
  subst hx ho hn
  exact ⟨O, oc, rfl, Ow.mk h hm hf, hb⟩
theorem bmonoS {w W : World} {o : Obj} (h : Below (w.alloc o).heap.size (w.alloc o) W) : Below w.heap.size w W := ((Below.refl _ _).alloc (Nat.le_refl _) _).trans (h.mono (by simp))
/-- A list that is checked. -/
def ckL (ys : List Sec) : List Sec := if docB ys = true then ys else []
theorem asDocument_any (base : Nat) (O : Option Addr) (oc : Nat) (ys : List Sec) (n : Nat) (w : World) (hn : n = ys.length) (h : w.ownsRow base 78 2 (.slice O n oc) n (SectionK.row ys)) (hm : ys.length ≤ 1048576) (hf : ∀ x ∈ ys, SectionK.fit x) (hb0 : base ≤ w.heap.size) :
    Calls Try.prog 116 #[.slice O n oc] w fun e w' => ∃ (P : Option Addr) (m p : Nat), e = .returned (.tuple #[.slice P m p, .bool (docB ys)]) ∧ m = (ckL ys).length ∧ w'.ownsRow base 78 2 (.slice P m p) m (SectionK.row (ckL ys)) ∧ Below w.heap.size w w' := by
  have H := Lib.hid h
  have HF := Lib.hid hf
  have HN := Lib.hid hn
  clear h hf hn
  go_enter Try.func116, Try.ntmps116
  go_wp2_with fail
  refine (by have h := IsDocument_any O oc ys w (Cells.of_own H.out) hm HF.out; rw [← HN.out] at h; exact h : Calls Try.prog 57 #[.slice O n oc] w fun e w' => e = .returned (.bool (docB ys)) ∧ Below w.heap.size w w').mono ?_
  rintro e w1 ⟨rfl, hb⟩
  have HO := Lib.hid (own_keep H.out hb)
  have HB := Lib.hid hb
  clear hb
  rcases Bool.eq_false_or_eq_true (docB ys) with hd | hd
  · have HD := Lib.hid (show ckL ys = ys ∧ docB ys = true from ⟨by unfold ckL; rw [if_pos hd], hd⟩)
    rw [hd]
    clear hd
    go_wp2
    go_ret2
    exact ⟨O, n, oc, by rw [HD.out.2]; rfl, by rw [HD.out.1]; exact HN.out, by rw [HD.out.1]; exact HO.out, HB.out⟩
  · have HD := Lib.hid (show ckL ys = [] ∧ docB ys = false from ⟨by unfold ckL; rw [hd]; rfl, hd⟩)
    rw [hd]
    clear hd
    go_wp2
    go_ret2
    exact ⟨none, 0, 0, by rw [HD.out.2]; rfl, by rw [HD.out.1]; rfl, by rw [HD.out.1]; exact World.ownsRow_nil _ _ _ _, HB.out⟩
theorem l6Checked_any (base : Nat) (O : Option Addr) (oc : Nat) (ys : List Sec) (n : Nat) (w : World) (hn : n = ys.length) (h : w.ownsRow base 78 2 (.slice O n oc) n (SectionK.row ys)) (hm : ys.length ≤ 1048576) (hf : ∀ x ∈ ys, SectionK.fit x) (hb0 : base ≤ w.heap.size) :
    Calls Try.prog 119 #[.slice O n oc] w fun e w' => ∃ (P : Option Addr) (m p : Nat), e = .returned (.tuple #[.slice P m p, .bool (docB ys)]) ∧ m = (ckL ys).length ∧ w'.ownsRow base 78 2 (.slice P m p) m (SectionK.row (ckL ys)) ∧ Below w.heap.size w w' := by
  have H := Lib.hid h
  have HF := Lib.hid hf
  have HN := Lib.hid hn
  clear h hf hn
  go_enter Try.func119, Try.ntmps119
  go_wp2_with fail
  refine (by have h := l6Good_any O oc ys w (Cells.of_own H.out) hm HF.out; rw [← HN.out] at h; exact h : Calls Try.prog 118 #[.slice O n oc] w fun e w' => e = .returned (.bool (docB ys)) ∧ ∃ m, w' = w.drewN m).mono ?_
  rintro e w1 ⟨rfl, hb⟩
  have hb := below_drews (Below.refl w.heap.size w) hb
  have HO := Lib.hid (own_keep H.out hb)
  have HB := Lib.hid hb
  clear hb
  rcases Bool.eq_false_or_eq_true (docB ys) with hd | hd
  · have HD := Lib.hid (show ckL ys = ys ∧ docB ys = true from ⟨by unfold ckL; rw [if_pos hd], hd⟩)
    rw [hd]
    clear hd
    go_wp2
    go_ret2
    exact ⟨O, n, oc, by rw [HD.out.2]; rfl, by rw [HD.out.1]; exact HN.out, by rw [HD.out.1]; exact HO.out, HB.out⟩
  · have HD := Lib.hid (show ckL ys = [] ∧ docB ys = false from ⟨by unfold ckL; rw [hd]; rfl, hd⟩)
    have HS := Lib.hid (Nat.le_trans hb0 HB.out.size)
    rw [hd]
    clear hd
    go_wp2
    go_ret2
    exact ⟨some ⟨w1.heap.size, 0, none⟩, 0, 0, by rw [HD.out.2]; rfl, by rw [HD.out.1]; rfl, by rw [HD.out.1]; exact own_nil_lit _ _ _ _ _ rfl HS.out, HB.out.trans (((Below.refl _ _).alloc (Nat.le_refl _) _).mono HB.out.size)⟩
end Go.Proofs.Ytifahgdalgjgfaa
