/- Copies of floors, in the program and in the reference. Conditions: the ranges named. -/
import Derived.Test.YtbpikbcnpmplfaaFlX
import Derived.Test.YtbpikbcnpmplfaaApc
import Derived.Test.YtbpikbcnpmplfaaSetc2
import Derived.Deep.DrawnRows
namespace Go.Proofs.Ytbpikbcnpmplfaa
open Go.RowKit
set_option linter.unusedVariables false

theorem elInt : ElT Try.prog 22 3 1 8 := ElT.mk' Try.underlying22 infoInt rfl (by omega) (by omega)
theorem elShare : ElT Try.prog 27 43 3 24 := ElT.mk' Try.underlying27 infoShare rfl (by omega) (by omega)
theorem int_one {xs : List Int} : ∀ u ∈ IntK.row xs, u.oneCell' = true := fun u hu => by
  rw [intK_row] at hu
  obtain ⟨x, _, rfl⟩ := List.mem_map.1 hu
  rfl
theorem share_one {xs : List Shr} : ∀ u ∈ ShareK.row xs, u.oneCell' = true := fun u hu => by
  obtain ⟨x, _, h⟩ := List.mem_flatMap.1 hu
  simp only [ShareK, List.mem_cons, List.not_mem_nil, or_false] at h
  rcases h with rfl | rfl | rfl <;> rfl
theorem copyInts_any (A : Option Addr) (c : Nat) (xs : List Int) (w : World) (h : Cells w A (IntK.row xs)) (hn : xs.length ≤ 1048576) : Calls Try.prog 82 #[.slice A xs.length c] w (ToL IntK 3 w xs) := by
  have H := Lib.hid h
  clear h
  go_enter Try.func82, Try.ntmps82
  go_wp2_with (at_builtin; refine list_append_lit elInt _ rfl _ _ rfl w.heap.size _ A _ _ (IntK.row xs) rfl rfl (IntK.row_len xs) (own_nil_lit _ _ _ _ _ (by simp) (by simp)) (H.out.alloc_ _) int_one (by simp) (by omega) ?_; intro O d w1 own hb hq; have HO := Lib.hid own; have HB := Lib.hid (after (w := w) (by go_grown) hb); clear own hb hq)
  go_ret
  exact ⟨O, d, rfl, Ow.mk HO.out hn (fun _ _ => trivial), HB.out⟩
theorem l1Own_any (A : Option Addr) (c : Nat) (xs : List Int) (w : World) (h : Cells w A (IntK.row xs)) (hn : xs.length ≤ 1048576) : Calls Try.prog 93 #[.slice A xs.length c] w (ToL IntK 3 w xs) := by
  have H := Lib.hid h
  clear h
  go_enter Try.func93, Try.ntmps93
  go_wp2_with (at_builtin; refine list_append_lit elInt _ rfl _ _ rfl w.heap.size _ A _ _ (IntK.row xs) rfl rfl (IntK.row_len xs) (own_nil_lit _ _ _ _ _ (by simp) (by simp)) (H.out.alloc_ _) int_one (by simp) (by omega) ?_; intro O d w1 own hb hq; have HO := Lib.hid own; have HB := Lib.hid (after (w := w) (by go_grown) hb); clear own hb hq)
  go_ret
  exact ⟨O, d, rfl, Ow.mk HO.out hn (fun _ _ => trivial), HB.out⟩
theorem cell_far2 {w : World} {p q : Addr} {v : Value} {o : Obj} (hne : q.block ≠ p.block) (hl : q.block < w.heap.size) : ((w.setCell p v).alloc o).cell? q = w.cell? q := by
  rw [World.cell?_alloc_lt _ _ _ (by simpa using hl)]
  exact World.cell?_of_block (Below.heap_setCell w p v _ hne)
/-- A call that returns a floor of its own. -/
def MkF (w : World) (f : Flr) (e : Ending) (w' : World) : Prop := ∃ (A : Option Addr) (c : Nat) (D : Option Addr) (d : Nat), e = .returned (.agg #[.int .i64 f.t, .int .i64 f.s, .int .i64 f.sp, .slice A f.wt.length c, .slice D f.sh.length d]) ∧ Ow IntK 3 w.heap.size w'.heap.size w' A c f.wt ∧ Ow ShareK 43 w.heap.size w'.heap.size w' D d f.sh ∧ Below w.heap.size w w'
set_option maxHeartbeats 1000000 in
theorem newFloor_any (A D : Option Addr) (c d : Nat) (f : Flr) (w : World) (ha : Cells w A (IntK.row f.wt)) (hn : f.wt.length ≤ 1048576) (hd : Cells w D (ShareK.row f.sh)) (hm : f.sh.length ≤ 1048576) : Calls Try.prog 48 #[.agg #[.int .i64 f.t, .int .i64 f.s, .int .i64 f.sp, .slice A f.wt.length c, .slice D f.sh.length d]] w (MkF w f) := by
  go_enter Try.func48, Try.ntmps48
  go_wp2_with fail
  refine (copyInts_any A c f.wt _ ((ha.alloc_ _).alloc_ _) hn).mono ?_
  rintro e w1 ⟨A1, c1, rfl, o1, hb⟩
  obtain ⟨hc, hfz⟩ := bcell hb
  have hB := Lib.hid (after (w := w) (by go_grown) hb)
  have hz : w.heap.size + 1 < w1.heap.size := by have := hb.size; simp at this; omega
  have hz0 : w.heap.size < w1.heap.size := by omega
  have h0 := fun o => hc w.heap.size o (by simp; omega)
  have h1 := fun o => hc (w.heap.size + 1) o (by simp)
  have f0 := fun o => hfz w.heap.size o (by simp; omega)
  have f1 := fun o => hfz (w.heap.size + 1) o (by simp)
  have HO := Lib.hid (o1.low (lo' := w.heap.size + 2) (by simp))
  have HD := Lib.hid (hd.below (w' := (w1.setCell ⟨w.heap.size, 3, none⟩ (.slice A1 f.wt.length c1)).alloc (.cells #[] 43)) (by have := hB.out; go_grown))
  clear hc hfz hb ha hd o1
  go_wp2_with (at_builtin; go_must (refine list_append_lit elShare _ rfl _ _ rfl w1.heap.size w1.heap.size D _ _ (ShareK.row f.sh) rfl rfl (ShareK.row_len _) (own_nil_lit _ _ _ _ _ (by simp) (by simp)) HD.out share_one (by simp) (by omega) ?_); intro O d' w2 own hb hq; obtain ⟨hc, hfz⟩ := bcell hb; have g0 := fun o => hc w.heap.size o (by simp; omega); have g1 := fun o => hc (w.heap.size + 1) o (by simp; omega); have k0 := fun o => hfz w.heap.size o (by simp; omega); have k1 := fun o => hfz (w.heap.size + 1) o (by simp; omega); have y1 := fun o => ((g1 o).trans (cell_far2 (by simp) (by simp; omega))).trans (h1 o); clear g1 h1; have HB2 := Lib.hid hb; have HB3 := Lib.hid (after (w := w) (by have := hB.out; go_grown) hb); have HP := Lib.hid own; have hz2 : w1.heap.size ≤ w2.heap.size := (by have := hb.size; simp at this; omega); have hz3 : w.heap.size < w2.heap.size := (by omega); have hz4 : w.heap.size + 1 < w2.heap.size := (by omega); clear own hb hq hc hfz)
  refine bodyPost_ret (v := .agg #[.int .i64 f.t, .int .i64 f.s, .int .i64 f.sp, .slice A1 f.wt.length c1, .slice O f.sh.length d']) (by simp [results, Try.results48, go_sem, y1]) rfl ?_
  have hP := Ow.mk HP.out hm (fun _ _ => trivial)
  refine ⟨A1, c1, O, d', rfl, ((HO.out.stay ?_).low (by omega)).high (by simp; omega), ((hP.stay ?_).low (by omega)).high (by simp), ?_⟩
  · repeat (refine Keep.set ?_ (.inl (by simp; try omega)) _)
    refine Keep.below ?_ HB2.out (by simp)
    exact (Keep.set Keep.rfl_ (.inl (by simp)) _).alloc (by simp) _
  · repeat (refine Keep.set ?_ (.inl (by simp; omega)) _)
    exact Keep.rfl_
  · have := HB3.out
    go_grown
end Go.Proofs.Ytbpikbcnpmplfaa
