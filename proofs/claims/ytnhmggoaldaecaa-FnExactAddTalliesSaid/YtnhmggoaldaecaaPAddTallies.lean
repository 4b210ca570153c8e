/- The statement FnExactAddTalliesSaid of the given rows: for every input the law returns true and leaves what it was handed as it was. Conditions: none. -/
import Derived.Test.YtnhmggoaldaecaaRows
import Derived.Test.YtnhmggoaldaecaaVtAdd
import Derived.ProofKit
import Derived.OpenShut
import Derived.ShutString
import Derived.Carry
import Derived.Lib.SmallJoins
namespace Go.Proofs.Ytnhmggoaldaecaa.fnExactAddTallies
open Go.ChangeShapes Go.WideShapes Go.ChangeAt Go.RowKit Go.Joins
open Go.ChangeMaps (open_string shut_string)
set_option linter.unusedVariables false

theorem own : ownKnob Try.prog.godebug = none := by kernel_rfl
theorem laidOut : laidOutB Try.prog = true := by kernel_rfl
set_option maxRecDepth 100000 in
theorem lifted (os : Os) (started : os.Started) (H : Type) (enc : TypeId × Value → H) :
    ReturnsInHanded {} Try.checked os 4 .any (Rows.fnExactAddTalliesSpec.pre6 enc Try.prog Try.f4 Rows.fnExactAddTalliesRow.domain false) (Rows.fnExactAddTalliesSpec.post enc Try.prog Try.f4 false true false false) := by
  refine returnsInHanded_of_change (C := Try.checked) own started (by kernel_rfl) Try.func4
    (ChangeSpec.witness6 (enc := enc) (C := Try.checked) false ⟨#[], #[.agg #[.int .i64 0, .int .i64 0, .int .i64 0], .agg #[.int .i64 0, .int .i64 0, .int .i64 0]], []⟩ 8 (by kernel_rfl) (by kernel_rfl) (by kernel_rfl) (by kernel_rfl)) ?_
  intro W base args ds gs before hval0 hW hcnd hsz
  have hval : ∀ (j : Nat) t v, Try.f4.params[j]? = some t → args[j]? = some v → Value.okWide Try.prog W .any base t v := hval0
  have hW' := hW
  obtain ⟨p, q, hA0, hV, rfl, hfz, hnd⟩ := hW
  have hA : DataW.TrodAll enc Try.prog W 0 (fun _ => true) true Try.f4.params.toList args.toList ds p := hA0
  rw [Try.params4] at hA hval
  obtain ⟨v0, vs0, d0, ds0, p0, q0, hargs, rfl, rfl, h0, r0⟩ := trodAll_cons hA
  obtain ⟨v1, vs1, d1, ds1, p1, q1, rfl, rfl, rfl, h1, r1⟩ := trodAll_cons r0
  obtain ⟨rfl, rfl, rfl⟩ := trodAll_nil r1
  obtain rfl : args = #[v0, v1] := by cases args; simp_all
  obtain ⟨rfl, rfl⟩ := trodVars_none hV
  have k0 := h0
  have lt0 : ∀ x ∈ p0, x.block < W.heap.size := by obtain ⟨m, hm⟩ := k0; exact DataW.trod_lt m _ _ _ hm
  obtain ⟨c0, e0, g0, x0, y0, z0, m0, rfl, hd0, hp0, hx0, hy0, hz0⟩ := open_agg3 Try.underlying23 (by kernel_rfl) (by kernel_rfl) (hval 0 23 v0 rfl rfl) h0
  obtain ⟨cn0, ce0, cq0, cw0⟩ := DataW.trod_int Try.underlying3 hx0
  simp at ce0
  subst ce0
  obtain ⟨en0, ee0, eq0, ew0⟩ := DataW.trod_int Try.underlying3 hy0
  simp at ee0
  subst ee0
  obtain ⟨gn0, ge0, gq0, gw0⟩ := DataW.trod_int Try.underlying3 hz0
  simp at ge0
  subst ge0
  have k1 := h1
  have lt1 : ∀ x ∈ p1, x.block < W.heap.size := by obtain ⟨m, hm⟩ := k1; exact DataW.trod_lt m _ _ _ hm
  obtain ⟨c1, e1, g1, x1, y1, z1, m1, rfl, hd1, hp1, hx1, hy1, hz1⟩ := open_agg3 Try.underlying23 (by kernel_rfl) (by kernel_rfl) (hval 1 23 v1 rfl rfl) h1
  obtain ⟨cn1, ce1, cq1, cw1⟩ := DataW.trod_int Try.underlying3 hx1
  simp at ce1
  subst ce1
  obtain ⟨en1, ee1, eq1, ew1⟩ := DataW.trod_int Try.underlying3 hy1
  simp at ee1
  subst ee1
  obtain ⟨gn1, ge1, gq1, gw1⟩ := DataW.trod_int Try.underlying3 hz1
  simp at ge1
  subst ge1
  clear hA0 hval0
  refine (walk cn0 en0 gn0 cw0 ew0 gw0 cn1 en1 gn1 cw1 ew1 gw1 W).mono fun e W' ⟨he, bel⟩ => ?_
  subst he
  exact ⟨_, rfl, _, _, _, [], _, [], hW', trodAll_mk1 (shut_bool Try.underlying4 _), (trodAll_cons_mk (Below.trod laidOut (by kernel_rfl) (of_decide_eq_true (by kernel_rfl)) k0 bel lt0) (trodAll_cons_mk (Below.trod laidOut (by kernel_rfl) (of_decide_eq_true (by kernel_rfl)) k1 bel lt1) trodAll_mk0)), rfl, bel.frame _, fun h => by cases h⟩
theorem over : Rows.fnExactAddTalliesRow.holds Try.pinned (OpenSpec.ofChange Rows.fnExactAddTalliesSpec) :=
  OpenClaim.holds_of_wide 4 Try.f4 rfl rfl rfl rfl rfl rfl rfl ⟨rfl, rfl, rfl, rfl, rfl⟩ rfl rfl rfl rfl rfl (by kernel_rfl) Try.func4 (by kernel_rfl)
    (of_decide_eq_true (by kernel_rfl)) (by unfold Func.isWrapper; first | (rw [if_pos (by decide +kernel)]; kernel_rfl) | (rw [if_neg (by decide +kernel)]; exact ⟨rfl, rfl⟩))
    (fun os started H enc _ => lifted os started H enc)
/-- The statement. -/
theorem proved : Rows.FnExactAddTalliesSaid := over
#print axioms proved
end Go.Proofs.Ytnhmggoaldaecaa.fnExactAddTallies
