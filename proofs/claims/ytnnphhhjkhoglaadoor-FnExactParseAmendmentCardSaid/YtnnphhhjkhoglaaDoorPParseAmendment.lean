/- The statement FnExactParseAmendmentSaid of the given rows: for every input the law returns true and leaves what it was handed as it was. Conditions: none. -/
import Derived.Test.YtnnphhhjkhoglaaDoorCards
import Derived.Test.YtnnphhhjkhoglaaDoorTie
import Derived.Deep.DeepHandedRow
import Derived.Lib.LaidTab
import Derived.LaidMore
import Derived.Test.YtnnphhhjkhoglaaDoorLParseAmendment
import Derived.ProofKit
import Derived.OpenVars
import Derived.ChangeVars
import Derived.OpenShut
import Derived.ShutString
import Derived.Carry
import Derived.Stop.LaidErr
import Derived.Lib.SmallJoins
namespace Go.Proofs.YtnnphhhjkhoglaaDoor.fnExactParseAmendment
open Go.ChangeShapes Go.WideShapes Go.ChangeAt Go.RowKit Go.Joins
open Go.ChangeMaps (open_string shut_string)
set_option linter.unusedVariables false

theorem own : ownKnob Tryd.prog.godebug = none := by kernel_rfl
theorem laidOut : laidOutB Tryd.prog = true := by kernel_rfl
theorem gTab : Tryd.prog.globalNamed "internal/strconv.uint64pow10" = some 6 := by kernel_rfl
theorem gTabType : (Tryd.prog.globals[6]?).map (·.type) = some 105 := by kernel_rfl
theorem tabData : (Rows.laid_internal_strconv_uint64pow10 : DataW Unit) = Go.Lib.tabData .u64 Go.Lib.pow10Tab := by kernel_rfl
theorem tab_of {W : World} (h : laidMetH Tryd.prog Rows.fnExactParseAmendmentRow.laid W) : Tab W := by
  refine Go.Lib.tabBelow_of_tabIs ?_
  have h' : laidMet Tryd.prog Rows.fnExactParseAmendmentRow.laid W := h
  obtain ⟨ps, ⟨g0, t0, cs0, f0, p0, q0, hg0, ht0, hv0, hd0, ⟨g1, t1, cs1, f1, p1, q1, hg1, ht1, hv1, hd1, ⟨g2, t2, cs2, f2, p2, q2, hg2, ht2, hv2, hd2, _, _⟩, _⟩, _⟩, _⟩ := h'
  obtain rfl := Option.some.inj (gTab.symm.trans hg2)
  obtain rfl := Option.some.inj (gTabType.symm.trans ht2)
  unfold Go.Lib.TabIs
  rw [hv2]
  have hd3 := hd2
  rw [tabData] at hd3
  rw [← Go.Lib.cells_of_tab Tryd.underlying105 Tryd.underlying81 (by kernel_rfl) (by kernel_rfl) hd3]
theorem gES : Tryd.prog.globalNamed "strconv.ErrSyntax" = some 2 := by kernel_rfl
theorem gESType : (Tryd.prog.globals[2]?).map (·.type) = some 45 := by kernel_rfl
theorem gER : Tryd.prog.globalNamed "strconv.ErrRange" = some 3 := by kernel_rfl
theorem gERType : (Tryd.prog.globals[3]?).map (·.type) = some 45 := by kernel_rfl
theorem starE : "*" ++ "errors.errorString" = "*errors.errorString" := by decide
theorem rowE (u : TypeId) (h : Tryd.prog.typeName? 3 u = some "*errors.errorString") : u = 101 :=
  typeName_ptr_named (nm := "errors.errorString") (by rw [starE]; kernel_rfl) (by kernel_rfl) (by decide) u (by rw [starE]; exact h)
theorem cellsE : Tryd.prog.cellsOf 103 = 1 := by kernel_rfl
theorem cellsS : Tryd.prog.cellsOf 9 = 1 := by kernel_rfl
theorem cx_of {W : World} (hs : W.ShapedOpen Tryd.prog) (h : laidMetH Tryd.prog Rows.fnExactParseAmendmentRow.laid W) : Cx W := by
  have h' : laidMet Tryd.prog Rows.fnExactParseAmendmentRow.laid W := h
  refine ⟨tab_of h, ?_, ?_, ?_⟩
  · exact Tryd.laysM146.s1_3 W hs
  · obtain ⟨a0, s0, hv0, -, -, -⟩ := laid_sentinel (h'.tail.tail.tail.tail.tail) gES gESType Tryd.underlying45 rowE Tryd.underlying101 Tryd.underlying103 rfl rfl Tryd.underlying9 cellsE cellsS
    exact ⟨_, by have h0 := World.var?_cell gES hv0 0; simpa using h0, Or.inr ⟨_, _, rfl⟩⟩
  · obtain ⟨a0, s0, hv0, -, -, -⟩ := laid_sentinel (h'.tail.tail.tail.tail) gER gERType Tryd.underlying45 rowE Tryd.underlying101 Tryd.underlying103 rfl rfl Tryd.underlying9 cellsE cellsS
    exact ⟨_, by have h0 := World.var?_cell gER hv0 0; simpa using h0, Or.inr ⟨_, _, rfl⟩⟩
theorem gWd : Tryd.prog.globalNamed "loop.example/g00909/impl.amendWords" = some 0 := by kernel_rfl
theorem gWdType : (Tryd.prog.globals[0]?).map (·.type) = some 36 := by kernel_rfl
theorem c9 : Tryd.prog.cellsOf 9 = 1 := by kernel_rfl
theorem c60 : Tryd.prog.cellsOf 36 = 4 := by kernel_rfl
set_option maxRecDepth 100000 in
theorem wds_of {W : World} (h : laidMetH Tryd.prog Rows.fnExactParseAmendmentRow.laid W) : Wds4 W := by
  have h' : laidMet Tryd.prog Rows.fnExactParseAmendmentRow.laid W := h
  obtain ⟨ps, ⟨g3, t3, cs3, f3, p3, q3, hg3, ht3, hv3, hd3, _, _⟩, _⟩ := h'.tail.tail.tail.tail.tail.tail
  clear h' h
  obtain rfl := Option.some.inj (gWd.symm.trans hg3)
  obtain rfl := Option.some.inj (gWdType.symm.trans ht3)
  obtain ⟨xs, m1, rfl, hx1, hlen, hn3, hel⟩ := DataW.trod_array Tryd.underlying36 hd3
  have h0 := hel 0 (by decide)
  have h1 := hel 1 (by decide)
  have h2 := hel 2 (by decide)
  have h3 := hel 3 (by decide)
  rw [c9] at h0 h1 h2 h3
  rw [c60] at hlen
  have hvc := World.var?_cell hg3 hv3
  obtain ⟨l⟩ := cs3
  simp only [Prod.mk.injEq] at hx1
  have hxs := hx1.1
  match xs, hn3, hxs, h0, h1, h2, h3 with
  | [x0, x1, x2, x3], _, hxs, h0, h1, h2, h3 =>
    simp only [List.map_cons, List.map_nil] at hxs
    have hz := hxs
    unfold Rows.laid_loop_example_g00909_impl_amendWords at hz
    simp only [DataW.agg.injEq, List.cons.injEq] at hz
    obtain ⟨z0, z1, z2, z3, _⟩ := hz
    match l, hlen, h0, h1, h2, h3, hvc with
    | [c0, c1, c2, c3], _, h0, h1, h2, h3, hvc =>
      obtain ⟨s0, e0, y0, _⟩ := DataW.trod_string Tryd.underlying9 h0
      obtain ⟨s1, e1, y1, _⟩ := DataW.trod_string Tryd.underlying9 h1
      obtain ⟨s2, e2, y2, _⟩ := DataW.trod_string Tryd.underlying9 h2
      obtain ⟨s3, e3, y3, _⟩ := DataW.trod_string Tryd.underlying9 h3
      have k1 : W.cell? ⟨0, 1, none⟩ = some (.string ⟨#[105, 110, 115, 101, 114, 116]⟩) := by
        have hs : s1 = ⟨#[105, 110, 115, 101, 114, 116]⟩ := bytes_ext (by rw [y1] at z1; have z := z1; simp only [DataW.lit.injEq, Lit.string.injEq] at z; exact z.symm)
        have hc : c1 = .string s1 := by simpa using e1
        rw [hvc 1, ← hs, ← hc]; rfl
      have k2 : W.cell? ⟨0, 2, none⟩ = some (.string ⟨#[115, 116, 114, 105, 107, 101]⟩) := by
        have hs : s2 = ⟨#[115, 116, 114, 105, 107, 101]⟩ := bytes_ext (by rw [y2] at z2; have z := z2; simp only [DataW.lit.injEq, Lit.string.injEq] at z; exact z.symm)
        have hc : c2 = .string s2 := by simpa using e2
        rw [hvc 2, ← hs, ← hc]; rfl
      have k3 : W.cell? ⟨0, 3, none⟩ = some (.string ⟨#[114, 101, 112, 108, 97, 99, 101]⟩) := by
        have hs : s3 = ⟨#[114, 101, 112, 108, 97, 99, 101]⟩ := bytes_ext (by rw [y3] at z3; have z := z3; simp only [DataW.lit.injEq, Lit.string.injEq] at z; exact z.symm)
        have hc : c3 = .string s3 := by simpa using e3
        rw [hvc 3, ← hs, ← hc]; rfl
      have k0 : W.cell? ⟨0, 0, none⟩ = some (.string ⟨#[]⟩) := by
        have hs : s0 = ⟨#[]⟩ := bytes_ext (by rw [y0] at z0; have z := z0; simp only [DataW.lit.injEq, Lit.string.injEq] at z; exact z.symm)
        have hc : c0 = .string s0 := by simpa using e0
        rw [hvc 0, ← hs, ← hc]; rfl
      exact ⟨⟨World.block_lt_of_cell? _ _ k1, k1, k2, k3⟩, k0⟩
/-- The world behind the door's run, utf8.first as its text lays it. -/
noncomputable def startW (os : Os) : World :=
  { World.doorLaid Tryd.prog 3000 os with heap := (World.doorLaid Tryd.prog 3000 os).heap.modify 4 fun
    | .cells _ t fr => .cells (Go.Pinned.utf8FirstZ.map fun (z : Nat) => Value.int .u8 (z : Int)).toArray t fr
    | o => o }
noncomputable def laidW (os : Os) : World := (startW os).forCall (fun _ _ => 0) ⟨#[], #[.string ByteArray.empty], []⟩
theorem laid_met (os : Os) : laidMet Tryd.prog Rows.fnExactParseAmendmentRow.laid (laidW os).memory := laidMet_of_run' 8 (by kernel_rfl) (by kernel_rfl)
theorem reads (os : Os) {H : Type} (enc : TypeId × Value → H) : ∃ places, DataW.whole enc Tryd.prog (laidW os).memory Tryd.f3.params.toList Rows.fnExactParseAmendmentSpec.vars false #[(Value.string ByteArray.empty)].toList 8 = some ([.lit (.string [])], [Rows.laid_loop_example_g00909_impl_amendWords], places) := ⟨MemPlace.row ⟨0, 0, none⟩ 4, by kernel_rfl⟩
set_option maxRecDepth 100000 in
theorem lifted (os : Os) (started : os.Started) (H : Type) (enc : TypeId × Value → H) (F : Stop.Interp) :
    ReturnsInHanded {} Tryd.checked os 3 .any ((OpenSpec.ofChange Rows.fnExactParseAmendmentSpec).preRow enc Tryd.prog Tryd.f3 Rows.fnExactParseAmendmentRow.domain false Rows.fnExactParseAmendmentRow.laid) (((OpenSpec.ofChange Rows.fnExactParseAmendmentSpec).at F).post enc Tryd.prog Tryd.f3 false true false false) := by
  obtain ⟨places, hx⟩ := reads os enc
  refine returnsInHanded_of_row (C := Tryd.checked) (s := OpenSpec.ofChange Rows.fnExactParseAmendmentSpec) own started (by kernel_rfl) Tryd.func3
    (witness_row_at (enc := enc) (C := Tryd.checked) false (startW os) #[.string ByteArray.empty] rfl (by kernel_rfl) (by kernel_rfl) (by kernel_rfl)
      (OpenSpec.preRow_of_cond 8 hx (by kernel_rfl) (fun k hk => by cases hk) (by kernel_rfl) (laid_met os))) ?_
  intro W base args ds gs before hval0 hW u1 u2 u3 hL u4 u5
  show Calls Tryd.prog 3 args W fun e W' => ∃ v, e = .returned v ∧ Rows.fnExactParseAmendmentSpec.post enc Tryd.prog Tryd.f3 false true false false W args v W'
  have hval : ∀ (j : Nat) t v, Tryd.f3.params[j]? = some t → args[j]? = some v → Value.okWide Tryd.prog W .any base t v := hval0
  have hW' := hW
  obtain ⟨p, q, hA0, hV, rfl, hfz, hnd⟩ := hW
  have hA : DataW.TrodAll enc Tryd.prog W 0 (fun _ => true) true Tryd.f3.params.toList args.toList ds p := hA0
  rw [Tryd.params3] at hA hval
  obtain ⟨v0, vs0, d0, ds0, p0, q0, hargs, rfl, rfl, h0, r0⟩ := trodAll_cons hA
  obtain ⟨rfl, rfl, rfl⟩ := trodAll_nil r0
  obtain rfl : args = #[v0] := by cases args; simp_all
  have hV0 := hV
  obtain ⟨gg, tt, ccs, ff, dg, pg, rfl, _⟩ := trodVars_one hV
  have k0 := h0
  have lt0 : ∀ x ∈ p0, x.block < W.heap.size := by obtain ⟨m, hm⟩ := k0; exact DataW.trod_lt m _ _ _ hm
  obtain ⟨a0, rfl, hd0, hp0, w0⟩ := open_string Tryd.underlying9 (hval 0 9 v0 rfl rfl) h0
  clear hA0 hval0
  refine (walk a0 W (cx_of u4 hL) (wds_of hL)).mono fun e W' ⟨he, bel⟩ => ?_
  subst he
  exact ⟨_, rfl, _, _, _, [], _, _, hW', trodAll_mk1 (shut_bool Tryd.underlying4 _), (trodAll_cons_mk (Below.trod laidOut (by kernel_rfl) (of_decide_eq_true (by kernel_rfl)) k0 bel lt0) trodAll_mk0), Below.trodVars laidOut bel (by kernel_rfl) hV0, bel.frame _, fun h => by cases h⟩
theorem over : Rows.FnExactParseAmendmentSaid :=
  OpenClaim.holds_of_cond 3 Tryd.f3 rfl rfl rfl rfl rfl rfl rfl ⟨rfl, rfl, rfl, rfl, rfl⟩ rfl rfl rfl rfl rfl (by kernel_rfl) Tryd.func3 (by kernel_rfl)
    (of_decide_eq_true (by kernel_rfl)) (by unfold Func.isWrapper; first | (rw [if_pos (by decide +kernel)]; kernel_rfl) | (rw [if_neg (by decide +kernel)]; exact ⟨rfl, rfl⟩))
    (fun os started H enc _ F => by rw [OpenClaim.pre_eq_preRow]; exact lifted os started H enc F)
theorem plain (f : FuncId) (fn : Func) (hf : Tryd.pinned.checked.prog.funcNamed "loop.example/g00909/laws.FnExactParseAmendment" = some f) (hfn : Tryd.pinned.checked.prog.funcs[f]? = some fn) :
    true = Tryd.pinned.checked.prog.looks [] ∧ ∀ (j : Nat) t, fn.params[j]? = some t → Tryd.pinned.checked.prog.wantsStandIn t = false := by
  obtain rfl : f = 3 := Option.some.inj ((show Tryd.prog.funcNamed "loop.example/g00909/laws.FnExactParseAmendment" = some 3 by kernel_rfl).symm.trans hf) |>.symm
  obtain rfl : fn = Tryd.f3 := (Option.some.inj (Tryd.func3.symm.trans hfn)).symm
  refine ⟨by kernel_rfl, fun j t ht => ?_⟩
  rw [Tryd.params3] at ht
  have hm : t ∈ [9] := by simpa using Array.mem_of_getElem? ht
  have hall : ([9].all fun u => !Tryd.prog.wantsStandIn u) = true := by kernel_rfl
  exact (show Tryd.prog.wantsStandIn t = false by simpa using List.all_eq_true.1 hall t hm)
/-- The card. -/
theorem proved : Rows.FnExactParseAmendmentCardSaid :=
  Claim7.holds_tied_plain_at .later [] _ _ _ _ over (fun _ h => by cases h) (by kernel_rfl) (fun _ h => by cases h) fnExactParseAmendment_row_tie rfl ⟨rfl, rfl⟩ (by kernel_rfl) rfl plain (by kernel_rfl)
#print axioms proved
end Go.Proofs.YtnnphhhjkhoglaaDoor.fnExactParseAmendment
