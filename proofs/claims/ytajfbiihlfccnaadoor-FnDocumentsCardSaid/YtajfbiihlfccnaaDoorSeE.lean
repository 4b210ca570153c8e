/- The draws of the laws on documents. Conditions: the ranges named. -/
import Derived.Test.YtajfbiihlfccnaaDoorSeD
import Derived.Test.YtajfbiihlfccnaaDoorLst
namespace Go.Proofs.YtajfbiihlfccnaaDoor
open Go.RowKit
set_option linter.unusedVariables false
set_option linter.unusedSimpArgs false
attribute [local go_sem ↓] Go.wp_at_zero Go.wp_at_succ
/-- What a draw of a document leaves. -/
def DrS (w : World) (P : Option Addr) (p : Nat) (xs : List Sec) (w' : World) : Prop := OwD SectionK 51 w.heap.size w' P p xs ∧ xs.length ≤ 20 ∧ Below w.heap.size w w'
theorem OwD.putsN {α : Type} {K : Kd α} {e lo c : Nat} {O : Option Addr} {xs : List α} (q : Nat) (hq : q < lo) : ∀ {w : World}, OwD K e lo w O c xs → ∀ (o : Nat) (vs : List Value), OwD K e lo (w.setCells q o vs) O c xs := by
  intro w h o vs
  induction vs generalizing o w with
  | nil => exact h
  | cons v vs ih => exact ih ⟨ownsRow_setCell_other h.1 (fun e9 => absurd (h.1.lt _ e9).1 (by show ¬ lo ≤ q; omega)) v, h.2.1.mono (by simp), h.2.2⟩ (o + 1)
theorem tmp2_cell {fn : Func} {p u t : Tmp} {ty : TypeId} (h : fn.results = #[.tmp u, .tmp t, .cell p ty]) (tmps : Array Value) (P : Program) (w : World) :
    (results fn tmps).run P w = ((asAddr (tmps.getD p undef)).run P w).andThen fun a w1 => ((loadVar ty a).run P w1).andThen fun v w2 => .ok (.tuple #[tmps.getD u undef, tmps.getD t undef, v]) w2 := by
  simp only [results, h]
  simp [Sem.run_bind, Result.andThen]
theorem sectionOf_any (P : Option Addr) (p k : Nat) (hk : k ≤ 20) (b : Nat) (A : Option Addr) (n c m : Nat) (w : World) (h : Cur w b A n c m) (hm : m ≤ 900000) :
    Calls Tryd.prog 62 #[.pointer (some ⟨b, 0, none⟩), .slice P k p] w fun e w' => (∃ x : Int, e = .returned (.int .i64 x)) ∧ Cur w' b A n c (m + 2) ∧ Only b (b + 1) w w' := by
  have hb0 := h.lt
  have S := Lib.hid (Std.start h)
  have qk : IntKind.i64.wrap ((k : Int) + 1) = (k : Int) + 1 := by rw [IntKind.wrap_i64]; omega
  clear h
  go_enter Tryd.func62, Tryd.ntmps62
  go_wp2_with fail
  refine (pickZ_any ((k : Int) + 1) (by omega) b A n c _ _ S.out.cur (by omega)).mono ?_
  rintro e v1 ⟨⟨y, rfl, hy⟩, hc, ho⟩
  replace S := Lib.hid (S.out.draw hc ho)
  clear hc ho 
  go_wp2_with fail
  refine (pick_any 20 (by omega) (by omega) b A n c _ _ S.out.cur (by omega)).mono ?_
  rintro e v2 ⟨⟨t, rfl, ht⟩, hc, ho⟩
  replace S := Lib.hid (S.out.draw hc ho)
  clear hc ho 
  go_wp2_with (go_ret; exact ⟨⟨_, rfl⟩, S.out.cur, S.out.on⟩)
set_option maxRecDepth 100000 in
set_option maxHeartbeats 4000000 in
theorem DrawSectionNumber_any (A : Option Addr) (n c : Nat) (w : World) (h : BytesC w A n) (hn : n ≤ 65536) :
    Calls Tryd.prog 27 #[.slice A n c] w fun e w' => ∃ (P : Option Addr) (p : Nat) (xs : List Sec) (i : Int), e = .returned (.tuple #[.slice P xs.length p, .int .i64 i]) ∧ DrS w P p xs w' := by
  have S := Lib.hid (Tst.mk (Cur.new_ (c := c) h hn 66) (below1 w _) h (Nat.le_refl _))
  have hb0 : w.heap.size < (w.alloc (.cells #[.slice A n c, .int .i64 0, .int .u64 0] 66)).heap.size := by simp
  clear h
  go_enter Tryd.func27, Tryd.ntmps27
  go_upto_region 2 with fail
  generalize (w.alloc (.cells #[.slice A n c, .int .i64 0, .int .u64 0] 66)) = v1 at *
  go_wp2_with fail
  refine (document_any w.heap.size A n c _ _ S.out.cur (by omega)).mono ?_
  rintro e v2 ⟨P, p, xs, rfl, hxl, o1, hc, ho⟩
  replace S := Lib.hid (S.out.draw hc ho)
  have RR := Lib.hid o1
  clear hc ho o1
  go_wp2_with fail
  refine (sectionOf_any P p xs.length hxl w.heap.size A n c _ _ S.out.cur (by omega)).mono ?_
  rintro e v3 ⟨⟨i, rfl⟩, hc, ho⟩
  replace S := Lib.hid (S.out.draw hc ho)
  replace RR := Lib.hid (RR.out.draw ho (by omega))
  clear hc ho 
  go_wp2_with (refine bodyPost_ret (v := .tuple #[.slice P xs.length p, .int .i64 i]) (by simp [results, Tryd.results27, go_sem]) rfl ?_; exact ⟨P, p, xs, i, rfl, RR.out.low (by omega), hxl, S.out.on⟩)
end Go.Proofs.YtajfbiihlfccnaaDoor
