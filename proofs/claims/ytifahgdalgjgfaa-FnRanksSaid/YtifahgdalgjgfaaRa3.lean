/- slices.SortStableFunc of at most 19 rules by their rank, the greatest first. Conditions: the ranges named. -/
import Derived.Test.YtifahgdalgjgfaaRa2
import Derived.Deep.Cut
import Derived.Deep.CutBlock
import Derived.Deep.CutRange
import Derived.Deep.DeepCutAuto
namespace Go.Proofs.Ytifahgdalgjgfaa
open Go.RowKit
set_option linter.unusedVariables false
set_option linter.unusedSimpArgs false
attribute [local go_sem ↓] Go.wp_at_zero Go.wp_at_succ
/-- What cmp.Compare gives. -/
def cmpI (a b : Int) : Int := if a < b then -1 else if b < a then 1 else 0
theorem cmpI_neg {a b : Int} : decide (cmpI a b < 0) = decide (a < b) := by
  unfold cmpI
  by_cases h : a < b
  · rw [if_pos h, decide_eq_true h]; rfl
  · rw [if_neg h, decide_eq_false h]
    split <;> rfl
theorem isNaN_any (x : Int) (w : World) : Calls Try.prog 138 #[.int .i64 x] w fun e w' => e = .returned (.bool false) ∧ w = w' := by
  go_enter Try.func138, Try.ntmps138
  go_wp2
  go_ret
  exact ⟨by simp, rfl⟩
theorem cmpInt_any (a b : Int) (w : World) : Calls Try.prog 104 #[.int .i64 a, .int .i64 b] w fun e w' => e = .returned (.int .i64 (cmpI a b)) ∧ w = w' := by
  have HC := Lib.hid (show cmpI a b = if a < b then -1 else if b < a then 1 else 0 from rfl)
  go_enter Try.func104, Try.ntmps104
  by_cases h1 : a < b
  · rw [if_pos h1] at HC
    go_wp2_with (go_at_call 138; refine (isNaN_any _ _).mono ?_; rintro e w1 ⟨rfl, rfl⟩)
    go_ret
    exact ⟨ret_int HC.out.symm, rfl⟩
  · rw [if_neg h1] at HC
    by_cases h2 : b < a
    · rw [if_pos h2] at HC
      go_wp2_with (go_at_call 138; refine (isNaN_any _ _).mono ?_; rintro e w1 ⟨rfl, rfl⟩)
      go_ret
      exact ⟨ret_int HC.out.symm, rfl⟩
    · rw [if_neg h2] at HC
      go_wp2_with (go_at_call 138; refine (isNaN_any _ _).mono ?_; rintro e w1 ⟨rfl, rfl⟩)
      go_ret
      exact ⟨ret_int HC.out.symm, rfl⟩
theorem aboveC_any (y p : Rul) (w : World) : Calls Try.prog 103 #[.agg #[.int .i64 y.id, .string y.nm, .int .i64 y.rk, .bool y.sc, .bool y.db, .bool y.am, .int .i64 y.nd], .agg #[.int .i64 p.id, .string p.nm, .int .i64 p.rk, .bool p.sc, .bool p.db, .bool p.am, .int .i64 p.nd]] w fun e w' => e = .returned (.int .i64 (cmpI p.rk y.rk)) ∧ Below w.heap.size w w' := by
  go_enter Try.func103, Try.ntmps103
  go_wp2_with (go_at_call 104; refine (cmpInt_any _ _ _).mono ?_; rintro e w1 ⟨rfl, rfl⟩)
  go_ret
  exact ⟨rfl, by go_grown⟩
def key (x : Rul) : Int := - x.rk
theorem take_load {P : Program} {md : Region.Mode} {ops : Array Oper} {Q : Exit → Act → World → Prop} {S : World → Prop} {i d : Nat} {oi : Oper} {fuel : Nat} {listed : Array Bool} {a : Act} {w : World} (hi : ops[i]? = some oi) (hd : oi.dst = some d)
    (hs : Region.noSelect ops = true) (hf : Region.free md ops listed i = true) (hr : (Region.ready md ops listed).contains i = true) (hQ : ∀ v c a w, Q (.panic c) (a.put (some d) v) w → Q (.panic c) a w) (hw : Region.wanted oi (yielded ops a.tmps) = true)
    (ty : TypeId) (x : Operand) (ho : oi.op = .load ty x) (b o : Nat) (hx : a.eval x = .pointer (some ⟨b, o, none⟩)) (cs : List Value) (td : TypeDesc) (hc : ∀ w, S w → w.rangeAt b o cs) (hu : P.underlying ty = some td) (hrow : td.isRow = true) (hinf : (P.info? ty).map (·.size) = some cs.length)
    (hS : S w) (h : wpAnyH P md ops Q S fuel (listed.setIfInBounds i true) (a.put (some d) (.agg cs.toArray)) w) : wpAnyH P md ops Q S (fuel + 1) listed a w :=
  take_yes hi hd hs hf hr (hQ _) hw (fun w9 h9 => by
    unfold execOp
    simp only [ho, hx, Instr.loadAt, Instr.sureAddr, Sem.run_bind, Sem.run_pure, Result.andThen_ok, run_loadVar_mid w9 b o ty cs td (hc w9 h9) hu hrow hinf]) hS h
theorem own_rngG {lo g c : Nat} {w : World} {xs : List Rul} {k : Nat} {x : Rul} (h : OwD RuleK 52 lo w (some ⟨g, 0, none⟩) c xs) (hx : xs[k]? = some x) : w.rangeAt g (k * 7) (RuleK.enc x) := by
  obtain ⟨hk, he⟩ := List.getElem?_eq_some_iff.1 hx
  have h1 := own_rng h hk
  rw [he] at h1
  exact h1
theorem rng_kept {w w' : World} {b o : Nat} {cs : List Value} (h : w.rangeAt b o cs) (hb : Below w.heap.size w w') : w'.rangeAt b o cs := fun i v hv => (hb.cell (p := ⟨b, o + i, none⟩) (World.block_lt_of_cell? _ _ (h i v hv))).trans (h i v hv)
theorem own_putG {lo g c k : Nat} {w : World} {xs : List Rul} (h : OwD RuleK 52 lo w (some ⟨g, 0, none⟩) c xs) (hk : k < xs.length) (x : Rul) (hx : RuleK.fit x) : OwD RuleK 52 lo (w.setCells g (k * 7) (RuleK.enc x)) (some ⟨g, 0, none⟩) c (xs.set k x) := by
  have h1 := own_put7 h hk x hx
  rw [show xs.take k ++ x :: xs.drop (k + 1) = xs.set k x by rw [List.set_eq_take_append_cons_drop, if_pos hk]] at h1
  exact h1
theorem OwD.drew_ {lo c : Nat} {w : World} {O : Option Addr} {xs : List Rul} (h : OwD RuleK 52 lo w O c xs) : OwD RuleK 52 lo w.drew O c xs := h.call (Below.refl _ _).drew
theorem OwD.eq_ {lo c : Nat} {w : World} {O : Option Addr} {xs ys : List Rul} (h : OwD RuleK 52 lo w O c xs) (e : xs = ys) : OwD RuleK 52 lo w O c ys := e ▸ h
set_option maxHeartbeats 8000000 in
set_option maxRecDepth 100000 in
theorem insR_any (base g oc n : Nat) (xs : List Rul) (w0 w : World) (hn : n = xs.length) (own : OwD RuleK 52 base w (some ⟨g, 0, none⟩) oc xs) (hm : n ≤ 1000000) (hB : Below base w0 w) (hb0 : base ≤ w.heap.size) :
    Calls Try.prog 155 #[.slice (some ⟨g, 0, none⟩) n oc, .int .i64 0, .int .i64 n, .func (.func 103) #[] #[]] w fun e w' => e = .returned (.tuple #[]) ∧ OwD RuleK 52 base w' (some ⟨g, 0, none⟩) oc (isortG key xs) ∧ Below base w0 w' ∧ base ≤ w'.heap.size := by
  have HO0 := Lib.hid own
  have HB0 := Lib.hid (And.intro hB hb0)
  have hcap : n ≤ oc := by rw [hn]; exact own_cap own.1
  have HN := Lib.hid hn
  have hbg := (own.1.lt g rfl).1
  clear own hB hn hb0
  go_enter Try.func155, Try.ntmps155
  go_wp2
  go_loopw [8] (fun vi wr => ∃ i : Nat, 1 ≤ i ∧ (i ≤ n ∨ i = 1) ∧ vi = .int .i64 i ∧ Hid (OwD RuleK 52 base wr (some ⟨g, 0, none⟩) oc (rowH key xs i)) ∧ Hid (Below base w0 wr ∧ base ≤ wr.heap.size)) (fun vi _ => n - (intOf vi).toNat)
  case atStart => exact ⟨1, Nat.le_refl _, .inr rfl, rfl, Lib.hid (by rw [rowH_start]; exact HO0.out), HB0⟩
  case round =>
    clear HO0 HB0
    obtain ⟨i, h1i, hin, rfl, HO, HB⟩ := hrel
    have qi : IntKind.i64.wrap ((i : Int) + 1) = ((i + 1 : Nat) : Int) := by rw [IntKind.wrap_i64]; omega
    by_cases hlt : i < n
    · have i1 : (i : Int) < (n : Int) := by omega
      have HLT := Lib.hid (show i < xs.length by rw [← HN.out]; exact hlt)
      go_wp2
      go_loopw [9] (fun vj wr2 => ∃ j : Nat, j ≤ i ∧ vj = .int .i64 j ∧ Hid (∀ z ∈ (isortG key (xs.take i)).drop j, key (xs.getD i noRule) < key z) ∧ Hid (OwD RuleK 52 base wr2 (some ⟨g, 0, none⟩) oc (midH key noRule xs i j)) ∧ Hid (Below base w0 wr2 ∧ base ≤ wr2.heap.size)) (fun vj _ => (intOf vj).toNat)
      case atStart => exact ⟨i, Nat.le_refl _, rfl, Lib.hid (by intro z hz; rw [List.drop_of_length_le (by rw [tkG_len HLT.out]; omega)] at hz; cases hz), Lib.hid (by rw [midH_start HLT.out]; exact HO.out), HB⟩
      case round =>
        clear HO HB
        obtain ⟨wq, hwq⟩ : ∃ x : World, x = wr := ⟨_, rfl⟩
        subst hwq
        obtain ⟨j, hji, rfl, HG, HO, HB⟩ := hrel
        rcases Nat.eq_zero_or_pos j with hj0 | hj0
        · subst hj0
          have HEND := Lib.hid (midH_end (t := key) (z0 := noRule) HLT.out (Nat.zero_le _) HG.out (fun p hp1 => by omega))
          have HO2 := Lib.hid (HO.out.eq_ HEND.out)
          clear HEND HO HG
          go_wp2
          go_quiet (fail)
          go_wp2
          go_roundw
          case rel => exact ⟨i + 1, by omega, .inl (by omega), by go_num, by first | exact HO2 | exact Lib.hid (HO2.out.call (below_drewN (Below.refl _ _) _)), by first | exact HB | exact Lib.hid ⟨below_drewN HB.out.1 _, HB.out.2⟩⟩
          case measure => simp [intOf]; omega
        · obtain ⟨jp, hjp⟩ : ∃ q, q + 1 = j := ⟨j - 1, by omega⟩
          subst hjp
          have zjp : ((jp + 1 : Nat) : Int) = (jp : Int) + 1 := by omega
          rw [zjp]
          have hpl : jp < (isortG key (xs.take i)).length := by rw [tkG_len HLT.out]; omega
          have HY := Lib.hid (own_rngG HO.out (k := jp + 1) (midG_get (by rw [tkG_len HLT.out]; exact hji)))
          have HP := Lib.hid (own_rngG HO.out (k := jp) (midG_prev hpl))
          have HSW := Lib.hid (midG_swap (R := xs.drop (i + 1)) (y := xs.getD i noRule) hpl)
          have HFY : Hid (RuleK.fit (xs.getD i noRule)) := Lib.hid (HO.out.2.2.2 _ (List.mem_of_getElem? (midG_get (by rw [tkG_len HLT.out]; exact hji))))
          have HFP : Hid (RuleK.fit (isortG key (xs.take i))[jp]) := Lib.hid (HO.out.2.2.2 _ (List.mem_of_getElem? (midG_prev hpl)))
          have HML := Lib.hid (midH_len (t := key) (z0 := noRule) (j := jp + 1) HLT.out)
          have HEND := Lib.hid (fun (hno : ¬ key (xs.getD i noRule) < key ((isortG key (xs.take i))[jp])) => midH_end (t := key) (z0 := noRule) HLT.out hji HG.out (fun p hp1 hpl2 => by (obtain rfl : jp = p := (by omega)); exact hno))
          have HGO := Lib.hid (fun (hyes : key (xs.getD i noRule) < key ((isortG key (xs.take i))[jp])) => show ∀ z ∈ (isortG key (xs.take i)).drop jp, key (xs.getD i noRule) < key z by
            intro z hz
            rw [List.drop_eq_getElem_cons hpl] at hz
            rcases List.mem_cons.1 hz with rfl | hz
            · exact hyes
            · exact HG.out z hz)
          obtain ⟨y, hy⟩ : ∃ y, Hid (xs.getD i noRule = y) := ⟨_, Lib.hid rfl⟩
          obtain ⟨p, hp⟩ : ∃ p, Hid ((isortG key (xs.take i))[jp] = p) := ⟨_, Lib.hid rfl⟩
          rw [hy.out] at HY HSW HEND HGO HFY
          rw [hp.out] at HP HSW HEND HGO HFP
          clear HG
          have q1 : ((jp : Int) + 1).toNat = jp + 1 := by omega
          have q2 : (0 : Int) ≤ (jp : Int) + 1 := by omega
          have q3 : (jp : Int) + 1 < (n : Int) := by omega
          have q4 : (jp : Int) < (n : Int) := by omega
          have q5 : decide ((0 : Int) < (jp : Int) + 1) = true := decide_eq_true (by omega)
          have q5b : (0 : Int) < (jp : Int) + 1 := by omega
          have q6 : IntKind.i64.wrap ((jp : Int) + 1 - 1) = (jp : Int) := by rw [IntKind.wrap_i64]; omega
          have q7 : IntKind.i64.wrap (jp : Int) = (jp : Int) := by rw [IntKind.wrap_i64]; omega
          clear zjp
          obtain ⟨cv, hcmp⟩ : ∃ cv, cmpI p.rk y.rk = cv := ⟨_, rfl⟩
          have hcn : decide (cv < 0) = decide (key y < key p) := by (rw [← hcmp, cmpI_neg]; unfold key; rw [decide_eq_decide]; omega)
          have HCM := Lib.hid hcmp
          clear hcmp
          rcases Bool.eq_false_or_eq_true (decide (key y < key p)) with hcv | hcv
          · rw [hcv] at hcn
            have hc2 : cv < 0 := of_decide_eq_true hcn
            have HG2 := Lib.hid (HGO.out (of_decide_eq_true hcv))
            clear hcv hcn HGO HEND
            go_upto_region 4 with fail
            refine wp_region_noPanic ?_
            refine wp_region_held_drew (S := (fun w' => w'.rangeAt g ((jp + 1) * 7) [.int .i64 y.id, .string y.nm, .int .i64 y.rk, .bool y.sc, .bool y.db, .bool y.am, .int .i64 y.nd] ∧ w'.rangeAt g (jp * 7) [.int .i64 p.id, .string p.nm, .int .i64 p.rk, .bool p.sc, .bool p.db, .bool p.am, .int .i64 p.nd])) (by kernel_rfl) ?_ (fun hHeld => ?_)
            · ((try dsimp only); exact ⟨HY.out, HP.out⟩)
            clear HY HP
            replace HO := Lib.hid HO.out.drew_
            replace HB := Lib.hid (And.intro HB.out.1.drew (show base ≤ wq.drew.heap.size from HB.out.2))
            skip
            refine take_yes (i := 0) (d := 18) (v := ?_) rfl rfl (by kernel_rfl) (by kernel_rfl) (by kernel_rfl) (fun _ _ _ h => h) (by kernel_rfl) ?_ hHeld ?_
            rotate_left
            · (intro w hSw; (try dsimp only at hSw); go_simp; try (with_reducible rfl))
            try simp only [Act.put, List.setIfInBounds_toArray, List.set_cons_zero, List.set_cons_succ]
            refine take_yes (i := 1) (d := 19) (v := ?_) rfl rfl (by kernel_rfl) (by kernel_rfl) (by kernel_rfl) (fun _ _ _ h => h) (by kernel_rfl) ?_ hHeld ?_
            rotate_left
            · (intro w hSw; (try dsimp only at hSw); go_simp; try (with_reducible rfl))
            try simp only [Act.put, List.setIfInBounds_toArray, List.set_cons_zero, List.set_cons_succ]
            refine take_yes (i := 2) (d := 20) (v := ?_) rfl rfl (by kernel_rfl) (by kernel_rfl) (by kernel_rfl) (fun _ _ _ h => h) (by kernel_rfl) ?_ hHeld ?_
            rotate_left
            · (intro w hSw; (try dsimp only at hSw); go_simp; try (with_reducible rfl))
            try simp only [Act.put, List.setIfInBounds_toArray, List.set_cons_zero, List.set_cons_succ]
            refine take_yes (i := 3) (d := 21) (v := ?_) rfl rfl (by kernel_rfl) (by kernel_rfl) (by kernel_rfl) (fun _ _ _ h => h) (by kernel_rfl) ?_ hHeld ?_
            rotate_left
            · (intro w hSw; (try dsimp only at hSw); go_simp; try (with_reducible rfl))
            try simp only [Act.put, List.setIfInBounds_toArray, List.set_cons_zero, List.set_cons_succ]
            refine take_yes (i := 4) (d := 22) (v := ?_) rfl rfl (by kernel_rfl) (by kernel_rfl) (by kernel_rfl) (fun _ _ _ h => h) (by kernel_rfl) ?_ hHeld ?_
            rotate_left
            · (intro w hSw; (try dsimp only at hSw); go_simp; try (with_reducible rfl))
            try simp only [Act.put, List.setIfInBounds_toArray, List.set_cons_zero, List.set_cons_succ]
            refine take_yes (i := 5) (d := 23) (v := ?_) rfl rfl (by kernel_rfl) (by kernel_rfl) (by kernel_rfl) (fun _ _ _ h => h) (by kernel_rfl) ?_ hHeld ?_
            rotate_left
            · (intro w hSw; (try dsimp only at hSw); go_simp; try (with_reducible rfl))
            try simp only [Act.put, List.setIfInBounds_toArray, List.set_cons_zero, List.set_cons_succ]
            refine take_yes (i := 6) (d := 24) (v := ?_) rfl rfl (by kernel_rfl) (by kernel_rfl) (by kernel_rfl) (fun _ _ _ h => h) (by kernel_rfl) ?_ hHeld ?_
            rotate_left
            · (intro w hSw; (try dsimp only at hSw); go_simp; try (with_reducible rfl))
            try simp only [Act.put, List.setIfInBounds_toArray, List.set_cons_zero, List.set_cons_succ]
            refine take_yes (i := 7) (d := 25) (v := ?_) rfl rfl (by kernel_rfl) (by kernel_rfl) (by kernel_rfl) (fun _ _ _ h => h) (by kernel_rfl) ?_ hHeld ?_
            rotate_left
            · (intro w hSw; (try dsimp only at hSw); go_simp; try (with_reducible rfl))
            try simp only [Act.put, List.setIfInBounds_toArray, List.set_cons_zero, List.set_cons_succ]
            refine take_load (i := 8) (d := 26) rfl rfl (by kernel_rfl) (by kernel_rfl) (by kernel_rfl) (fun _ _ _ _ h => h) (by kernel_rfl) 52 _ (by rfl) g ((jp + 1) * 7) (by rfl) [.int .i64 y.id, .string y.nm, .int .i64 y.rk, .bool y.sc, .bool y.db, .bool y.am, .int .i64 y.nd] _ (fun _ h9 => h9.1) Try.underlying52 (by rfl) (by kernel_rfl) hHeld ?_
            try simp only [Act.put, List.setIfInBounds_toArray, List.set_cons_zero, List.set_cons_succ]
            refine take_yes (i := 9) (d := 27) (v := ?_) rfl rfl (by kernel_rfl) (by kernel_rfl) (by kernel_rfl) (fun _ _ _ h => h) (by kernel_rfl) ?_ hHeld ?_
            rotate_left
            · (intro w hSw; (try dsimp only at hSw); go_simp; try (with_reducible rfl))
            try simp only [Act.put, List.setIfInBounds_toArray, List.set_cons_zero, List.set_cons_succ]
            refine take_yes (i := 10) (d := 28) (v := ?_) rfl rfl (by kernel_rfl) (by kernel_rfl) (by kernel_rfl) (fun _ _ _ h => h) (by kernel_rfl) ?_ hHeld ?_
            rotate_left
            · (intro w hSw; (try dsimp only at hSw); go_simp; try (with_reducible rfl))
            try simp only [Act.put, List.setIfInBounds_toArray, List.set_cons_zero, List.set_cons_succ]
            refine take_yes (i := 11) (d := 29) (v := ?_) rfl rfl (by kernel_rfl) (by kernel_rfl) (by kernel_rfl) (fun _ _ _ h => h) (by kernel_rfl) ?_ hHeld ?_
            rotate_left
            · (intro w hSw; (try dsimp only at hSw); go_simp; try (with_reducible rfl))
            try simp only [Act.put, List.setIfInBounds_toArray, List.set_cons_zero, List.set_cons_succ]
            refine take_yes (i := 12) (d := 30) (v := ?_) rfl rfl (by kernel_rfl) (by kernel_rfl) (by kernel_rfl) (fun _ _ _ h => h) (by kernel_rfl) ?_ hHeld ?_
            rotate_left
            · (intro w hSw; (try dsimp only at hSw); go_simp; try (with_reducible rfl))
            try simp only [Act.put, List.setIfInBounds_toArray, List.set_cons_zero, List.set_cons_succ]
            refine take_load (i := 13) (d := 31) rfl rfl (by kernel_rfl) (by kernel_rfl) (by kernel_rfl) (fun _ _ _ _ h => h) (by kernel_rfl) 52 _ (by rfl) g (jp * 7) (by rfl) [.int .i64 p.id, .string p.nm, .int .i64 p.rk, .bool p.sc, .bool p.db, .bool p.am, .int .i64 p.nd] _ (fun _ h9 => h9.2) Try.underlying52 (by rfl) (by kernel_rfl) hHeld ?_
            try simp only [Act.put, List.setIfInBounds_toArray, List.set_cons_zero, List.set_cons_succ]
            refine wpAnyH_ready (rs := [14]) (by kernel_rfl) (by simp) ?_
            refine AllReadyH.cons rfl (fun K hK => ?_) (AllReadyH.nil)
            go_simp
            (go_at_call 103; refine (aboveC_any y p _).mono ?_; rintro e v4 ⟨rfl, hb⟩; rw [HCM.out]; have HBX := Lib.hid hb; clear hb)
            (first | refine hK.out _ _ ?_ (fun hHeld1 => ?_) | (go_wp2_with fail; refine hK.out _ _ ?_ (fun hHeld1 => ?_)))
            · ((try dsimp only); exact ⟨rng_kept hHeld.1 HBX.out, rng_kept hHeld.2 HBX.out⟩)
            clear hK K hHeld
            have hHeld := hHeld1
            clear hHeld1
            try simp only [Act.put, List.setIfInBounds_toArray, List.set_cons_zero, List.set_cons_succ]
            replace HO := Lib.hid (HO.out.call HBX.out)
            replace HB := Lib.hid (And.intro (HB.out.1.trans (HBX.out.mono HB.out.2)) (Nat.le_trans HB.out.2 HBX.out.size))
            have HRY := Lib.hid (rng_kept hHeld.1 (Below.refl _ _))
            have HRP := Lib.hid (rng_kept hHeld.2 (Below.refl _ _))
            clear HBX
            refine take_yes (i := 15) (d := 33) (v := ?_) rfl rfl (by kernel_rfl) (by kernel_rfl) (by kernel_rfl) (fun _ _ _ h => h) (by kernel_rfl) ?_ hHeld ?_
            rotate_left
            · (intro w hSw; (try dsimp only at hSw); go_simp; try (with_reducible rfl))
            try simp only [Act.put, List.setIfInBounds_toArray, List.set_cons_zero, List.set_cons_succ]
            refine take_yes (i := 16) (d := 34) (v := ?_) rfl rfl (by kernel_rfl) (by kernel_rfl) (by kernel_rfl) (fun _ _ _ h => h) (by kernel_rfl) ?_ hHeld ?_
            rotate_left
            · (intro w hSw; (try dsimp only at hSw); go_simp; try (with_reducible rfl))
            try simp only [Act.put, List.setIfInBounds_toArray, List.set_cons_zero, List.set_cons_succ]
            refine wpAnyH_done (by kernel_rfl) ?_ _
            refine NoPanic.normal ?_
            clear hHeld
            go_upto_region 6 with fail
            clear hc2
            refine wp_region_noPanic ?_
            refine wp_region_held_drew (S := (fun w' => Below 0 w' w')) (by kernel_rfl) ?_ (fun hHeld => ?_)
            · ((try dsimp only); exact Below.refl 0 _)
            replace HRY := Lib.hid (show World.rangeAt v4.drew g ((jp + 1) * 7) [.int .i64 y.id, .string y.nm, .int .i64 y.rk, .bool y.sc, .bool y.db, .bool y.am, .int .i64 y.nd] from HRY.out)
            replace HRP := Lib.hid (show World.rangeAt v4.drew g (jp * 7) [.int .i64 p.id, .string p.nm, .int .i64 p.rk, .bool p.sc, .bool p.db, .bool p.am, .int .i64 p.nd] from HRP.out)
            replace HO := Lib.hid HO.out.drew_
            replace HB := Lib.hid (And.intro HB.out.1.drew (show base ≤ v4.drew.heap.size from HB.out.2))
            generalize v4.drew = u4 at *
            refine take_yes (i := 0) (d := 37) (v := ?_) rfl rfl (by kernel_rfl) (by kernel_rfl) (by kernel_rfl) (fun _ _ _ h => h) (by kernel_rfl) ?_ hHeld ?_
            rotate_left
            · (intro w hSw; (try dsimp only at hSw); go_simp; try (with_reducible rfl))
            try simp only [Act.put, List.setIfInBounds_toArray, List.set_cons_zero, List.set_cons_succ]
            refine take_yes (i := 1) (d := 38) (v := ?_) rfl rfl (by kernel_rfl) (by kernel_rfl) (by kernel_rfl) (fun _ _ _ h => h) (by kernel_rfl) ?_ hHeld ?_
            rotate_left
            · (intro w hSw; (try dsimp only at hSw); go_simp; try (with_reducible rfl))
            try simp only [Act.put, List.setIfInBounds_toArray, List.set_cons_zero, List.set_cons_succ]
            refine take_yes (i := 2) (d := 39) (v := ?_) rfl rfl (by kernel_rfl) (by kernel_rfl) (by kernel_rfl) (fun _ _ _ h => h) (by kernel_rfl) ?_ hHeld ?_
            rotate_left
            · (intro w hSw; (try dsimp only at hSw); go_simp; try (with_reducible rfl))
            try simp only [Act.put, List.setIfInBounds_toArray, List.set_cons_zero, List.set_cons_succ]
            refine take_yes (i := 3) (d := 40) (v := ?_) rfl rfl (by kernel_rfl) (by kernel_rfl) (by kernel_rfl) (fun _ _ _ h => h) (by kernel_rfl) ?_ hHeld ?_
            rotate_left
            · (intro w hSw; (try dsimp only at hSw); go_simp; try (with_reducible rfl))
            try simp only [Act.put, List.setIfInBounds_toArray, List.set_cons_zero, List.set_cons_succ]
            refine take_yes (i := 4) (d := 41) (v := ?_) rfl rfl (by kernel_rfl) (by kernel_rfl) (by kernel_rfl) (fun _ _ _ h => h) (by kernel_rfl) ?_ hHeld ?_
            rotate_left
            · (intro w hSw; (try dsimp only at hSw); go_simp; try (with_reducible rfl))
            try simp only [Act.put, List.setIfInBounds_toArray, List.set_cons_zero, List.set_cons_succ]
            refine take_yes (i := 5) (d := 42) (v := ?_) rfl rfl (by kernel_rfl) (by kernel_rfl) (by kernel_rfl) (fun _ _ _ h => h) (by kernel_rfl) ?_ hHeld ?_
            rotate_left
            · (intro w hSw; (try dsimp only at hSw); go_simp; try (with_reducible rfl))
            try simp only [Act.put, List.setIfInBounds_toArray, List.set_cons_zero, List.set_cons_succ]
            refine take_yes (i := 6) (d := 43) (v := ?_) rfl rfl (by kernel_rfl) (by kernel_rfl) (by kernel_rfl) (fun _ _ _ h => h) (by kernel_rfl) ?_ hHeld ?_
            rotate_left
            · (intro w hSw; (try dsimp only at hSw); go_simp; try (with_reducible rfl))
            try simp only [Act.put, List.setIfInBounds_toArray, List.set_cons_zero, List.set_cons_succ]
            refine take_yes (i := 7) (d := 44) (v := ?_) rfl rfl (by kernel_rfl) (by kernel_rfl) (by kernel_rfl) (fun _ _ _ h => h) (by kernel_rfl) ?_ hHeld ?_
            rotate_left
            · (intro w hSw; (try dsimp only at hSw); go_simp; try (with_reducible rfl))
            try simp only [Act.put, List.setIfInBounds_toArray, List.set_cons_zero, List.set_cons_succ]
            refine take_yes (i := 8) (d := 45) (v := ?_) rfl rfl (by kernel_rfl) (by kernel_rfl) (by kernel_rfl) (fun _ _ _ h => h) (by kernel_rfl) ?_ hHeld ?_
            rotate_left
            · (intro w hSw; (try dsimp only at hSw); go_simp; try (with_reducible rfl))
            try simp only [Act.put, List.setIfInBounds_toArray, List.set_cons_zero, List.set_cons_succ]
            refine take_yes (i := 10) (d := 47) (v := ?_) rfl rfl (by kernel_rfl) (by kernel_rfl) (by kernel_rfl) (fun _ _ _ h => h) (by kernel_rfl) ?_ hHeld ?_
            rotate_left
            · (intro w hSw; (try dsimp only at hSw); go_simp; try (with_reducible rfl))
            try simp only [Act.put, List.setIfInBounds_toArray, List.set_cons_zero, List.set_cons_succ]
            refine take_yes (i := 11) (d := 48) (v := ?_) rfl rfl (by kernel_rfl) (by kernel_rfl) (by kernel_rfl) (fun _ _ _ h => h) (by kernel_rfl) ?_ hHeld ?_
            rotate_left
            · (intro w hSw; (try dsimp only at hSw); go_simp; try (with_reducible rfl))
            try simp only [Act.put, List.setIfInBounds_toArray, List.set_cons_zero, List.set_cons_succ]
            refine take_yes (i := 12) (d := 49) (v := ?_) rfl rfl (by kernel_rfl) (by kernel_rfl) (by kernel_rfl) (fun _ _ _ h => h) (by kernel_rfl) ?_ hHeld ?_
            rotate_left
            · (intro w hSw; (try dsimp only at hSw); go_simp; try (with_reducible rfl))
            try simp only [Act.put, List.setIfInBounds_toArray, List.set_cons_zero, List.set_cons_succ]
            refine wpAnyH_ready (rs := [9, 13]) (by kernel_rfl) (by simp) ?_
            refine AllReadyH.cons rfl (fun K hK => ?_) (AllReadyH.cons rfl (fun K hK => ?_) (AllReadyH.nil))
            · rw [if_pos (by kernel_rfl)]
              refine wp_load_mid 52 _ (by rfl) g (jp * 7) (by rfl) [.int .i64 p.id, .string p.nm, .int .i64 p.rk, .bool p.sc, .bool p.db, .bool p.am, .int .i64 p.nd] _ HRP.out Try.underlying52 (by rfl) (by kernel_rfl) ?_
              (first | refine hK.out _ _ ?_ (fun hHeld1 => ?_) | (go_wp2_with fail; refine hK.out _ _ ?_ (fun hHeld1 => ?_)))
              · ((try dsimp only); exact Below.refl 0 _)
              clear hK K hHeld
              have hHeld := hHeld1
              clear hHeld1
              try simp only [Act.put, List.setIfInBounds_toArray, List.set_cons_zero, List.set_cons_succ]
              refine wpAnyH_ready (rs := [13]) (by kernel_rfl) (by simp) ?_
              refine AllReadyH.cons rfl (fun K hK => ?_) (AllReadyH.nil)
              rw [if_pos (by kernel_rfl)]
              refine wp_load_mid 52 _ (by rfl) g ((jp + 1) * 7) (by rfl) [.int .i64 y.id, .string y.nm, .int .i64 y.rk, .bool y.sc, .bool y.db, .bool y.am, .int .i64 y.nd] _ HRY.out Try.underlying52 (by rfl) (by kernel_rfl) ?_
              (first | refine hK.out _ _ ?_ (fun hHeld1 => ?_) | (go_wp2_with fail; refine hK.out _ _ ?_ (fun hHeld1 => ?_)))
              · ((try dsimp only); exact Below.refl 0 _)
              clear hK K hHeld
              have hHeld := hHeld1
              clear hHeld1
              try simp only [Act.put, List.setIfInBounds_toArray, List.set_cons_zero, List.set_cons_succ]
              refine take_yes (i := 14) (d := 51) (v := ?_) rfl rfl (by kernel_rfl) (by kernel_rfl) (by kernel_rfl) (fun _ _ _ h => h) (by kernel_rfl) ?_ hHeld ?_
              rotate_left
              · (intro w hSw; (try dsimp only at hSw); go_simp; try (with_reducible rfl))
              try simp only [Act.put, List.setIfInBounds_toArray, List.set_cons_zero, List.set_cons_succ]
              refine wpAnyH_ready (rs := [15]) (by kernel_rfl) (by simp) ?_
              refine AllReadyH.cons rfl (fun K hK => ?_) (AllReadyH.nil)
              have HT := Lib.hid (show World.there _ g ((jp + 1) * 7) 7 from own_there HO.out (k := jp + 1) (by rw [HML.out]; have := HLT.out; omega))
              have hsc : u4.setCells g ((jp + 1) * 7) (#[.int .i64 p.id, .string p.nm, .int .i64 p.rk, .bool p.sc, .bool p.db, .bool p.am, .int .i64 p.nd] : Array Value).toList = (u4.setCells g ((jp + 1) * 7) [.int .i64 p.id, .string p.nm, .int .i64 p.rk, .bool p.sc, .bool p.db, .bool p.am, .int .i64 p.nd]) := rfl
              rw [if_pos (by kernel_rfl)]
              refine wp_store_mid 52 _ _ (by rfl) g ((jp + 1) * 7) #[.int .i64 p.id, .string p.nm, .int .i64 p.rk, .bool p.sc, .bool p.db, .bool p.am, .int .i64 p.nd] (by rfl) (by rfl) HT.out (by kernel_rfl) (by simp [Value.oneCell']) ?_
              rw [hsc]
              clear hsc HT
              (first | refine hK.out _ _ ?_ (fun hHeld1 => ?_) | (go_wp2_with fail; refine hK.out _ _ ?_ (fun hHeld1 => ?_)))
              · ((try dsimp only); exact Below.refl 0 _)
              clear hK K hHeld
              have hHeld := hHeld1
              clear hHeld1
              try simp only [Act.put, List.setIfInBounds_toArray, List.set_cons_zero, List.set_cons_succ]
              replace HO := Lib.hid (show OwD RuleK 52 base (u4.setCells g ((jp + 1) * 7) [.int .i64 p.id, .string p.nm, .int .i64 p.rk, .bool p.sc, .bool p.db, .bool p.am, .int .i64 p.nd]) (some ⟨g, 0, none⟩) oc ((midH key noRule xs i (jp + 1)).set (jp + 1) p) from own_putG HO.out (by rw [HML.out]; have := HLT.out; omega) p HFP.out)
              replace HB := Lib.hid (And.intro (show Below base w0 (u4.setCells g ((jp + 1) * 7) [.int .i64 p.id, .string p.nm, .int .i64 p.rk, .bool p.sc, .bool p.db, .bool p.am, .int .i64 p.nd]) from below_putsR HB.out.1 hbg _ _) (Nat.le_trans HB.out.2 (below_putsR (q := g) (Below.refl 0 u4) (Nat.zero_le g) ((jp + 1) * 7) [.int .i64 p.id, .string p.nm, .int .i64 p.rk, .bool p.sc, .bool p.db, .bool p.am, .int .i64 p.nd]).size))
              clear HRY HRP
              generalize (u4.setCells g ((jp + 1) * 7) [.int .i64 p.id, .string p.nm, .int .i64 p.rk, .bool p.sc, .bool p.db, .bool p.am, .int .i64 p.nd]) = u5 at *
              refine take_yes (i := 16) (d := 52) (v := ?_) rfl rfl (by kernel_rfl) (by kernel_rfl) (by kernel_rfl) (fun _ _ _ h => h) (by kernel_rfl) ?_ hHeld ?_
              rotate_left
              · (intro w hSw; (try dsimp only at hSw); go_simp; try (with_reducible rfl))
              try simp only [Act.put, List.setIfInBounds_toArray, List.set_cons_zero, List.set_cons_succ]
              refine wpAnyH_ready (rs := [17]) (by kernel_rfl) (by simp) ?_
              refine AllReadyH.cons rfl (fun K hK => ?_) (AllReadyH.nil)
              have HT := Lib.hid (show World.there _ g (jp * 7) 7 from own_there HO.out (k := jp) (by rw [List.length_set, HML.out]; have := HLT.out; omega))
              have hsc : u5.setCells g (jp * 7) (#[.int .i64 y.id, .string y.nm, .int .i64 y.rk, .bool y.sc, .bool y.db, .bool y.am, .int .i64 y.nd] : Array Value).toList = (u5.setCells g (jp * 7) [.int .i64 y.id, .string y.nm, .int .i64 y.rk, .bool y.sc, .bool y.db, .bool y.am, .int .i64 y.nd]) := rfl
              rw [if_pos (by kernel_rfl)]
              refine wp_store_mid 52 _ _ (by rfl) g (jp * 7) #[.int .i64 y.id, .string y.nm, .int .i64 y.rk, .bool y.sc, .bool y.db, .bool y.am, .int .i64 y.nd] (by rfl) (by rfl) HT.out (by kernel_rfl) (by simp [Value.oneCell']) ?_
              rw [hsc]
              clear hsc HT
              (first | refine hK.out _ _ ?_ (fun hHeld1 => ?_) | (go_wp2_with fail; refine hK.out _ _ ?_ (fun hHeld1 => ?_)))
              · ((try dsimp only); exact Below.refl 0 _)
              clear hK K hHeld
              have hHeld := hHeld1
              clear hHeld1
              try simp only [Act.put, List.setIfInBounds_toArray, List.set_cons_zero, List.set_cons_succ]
              replace HO := Lib.hid (show OwD RuleK 52 base (u5.setCells g (jp * 7) [.int .i64 y.id, .string y.nm, .int .i64 y.rk, .bool y.sc, .bool y.db, .bool y.am, .int .i64 y.nd]) (some ⟨g, 0, none⟩) oc (((midH key noRule xs i (jp + 1)).set (jp + 1) p).set jp y) from own_putG HO.out (by rw [List.length_set, HML.out]; have := HLT.out; omega) y HFY.out)
              replace HB := Lib.hid (And.intro (show Below base w0 (u5.setCells g (jp * 7) [.int .i64 y.id, .string y.nm, .int .i64 y.rk, .bool y.sc, .bool y.db, .bool y.am, .int .i64 y.nd]) from below_putsR HB.out.1 hbg _ _) (Nat.le_trans HB.out.2 (below_putsR (q := g) (Below.refl 0 u5) (Nat.zero_le g) (jp * 7) [.int .i64 y.id, .string y.nm, .int .i64 y.rk, .bool y.sc, .bool y.db, .bool y.am, .int .i64 y.nd]).size))
              generalize (u5.setCells g (jp * 7) [.int .i64 y.id, .string y.nm, .int .i64 y.rk, .bool y.sc, .bool y.db, .bool y.am, .int .i64 y.nd]) = u6 at *
              refine wpAnyH_done (by kernel_rfl) ?_ _
              refine NoPanic.normal ?_
              clear hHeld
              have HO9 := Lib.hid (show OwD RuleK 52 base u6 (some ⟨g, 0, none⟩) oc (midH key noRule xs i jp) from HO.out.eq_ (by (unfold midH); (rw [hy.out]); exact HSW.out))
              go_wp2
              go_roundw
              case rel => exact ⟨jp, by omega, by go_num, Lib.hid (by (intro z hz); (rw [hy.out]); exact HG2.out z hz), HO9, HB⟩
              case measure => simp [intOf]; try omega
            · rw [if_pos (by kernel_rfl)]
              refine wp_load_mid 52 _ (by rfl) g ((jp + 1) * 7) (by rfl) [.int .i64 y.id, .string y.nm, .int .i64 y.rk, .bool y.sc, .bool y.db, .bool y.am, .int .i64 y.nd] _ HRY.out Try.underlying52 (by rfl) (by kernel_rfl) ?_
              (first | refine hK.out _ _ ?_ (fun hHeld1 => ?_) | (go_wp2_with fail; refine hK.out _ _ ?_ (fun hHeld1 => ?_)))
              · ((try dsimp only); exact Below.refl 0 _)
              clear hK K hHeld
              have hHeld := hHeld1
              clear hHeld1
              try simp only [Act.put, List.setIfInBounds_toArray, List.set_cons_zero, List.set_cons_succ]
              refine wpAnyH_ready (rs := [9]) (by kernel_rfl) (by simp) ?_
              refine AllReadyH.cons rfl (fun K hK => ?_) (AllReadyH.nil)
              rw [if_pos (by kernel_rfl)]
              refine wp_load_mid 52 _ (by rfl) g (jp * 7) (by rfl) [.int .i64 p.id, .string p.nm, .int .i64 p.rk, .bool p.sc, .bool p.db, .bool p.am, .int .i64 p.nd] _ HRP.out Try.underlying52 (by rfl) (by kernel_rfl) ?_
              (first | refine hK.out _ _ ?_ (fun hHeld1 => ?_) | (go_wp2_with fail; refine hK.out _ _ ?_ (fun hHeld1 => ?_)))
              · ((try dsimp only); exact Below.refl 0 _)
              clear hK K hHeld
              have hHeld := hHeld1
              clear hHeld1
              try simp only [Act.put, List.setIfInBounds_toArray, List.set_cons_zero, List.set_cons_succ]
              refine take_yes (i := 14) (d := 51) (v := ?_) rfl rfl (by kernel_rfl) (by kernel_rfl) (by kernel_rfl) (fun _ _ _ h => h) (by kernel_rfl) ?_ hHeld ?_
              rotate_left
              · (intro w hSw; (try dsimp only at hSw); go_simp; try (with_reducible rfl))
              try simp only [Act.put, List.setIfInBounds_toArray, List.set_cons_zero, List.set_cons_succ]
              refine wpAnyH_ready (rs := [15]) (by kernel_rfl) (by simp) ?_
              refine AllReadyH.cons rfl (fun K hK => ?_) (AllReadyH.nil)
              have HT := Lib.hid (show World.there _ g ((jp + 1) * 7) 7 from own_there HO.out (k := jp + 1) (by rw [HML.out]; have := HLT.out; omega))
              have hsc : u4.setCells g ((jp + 1) * 7) (#[.int .i64 p.id, .string p.nm, .int .i64 p.rk, .bool p.sc, .bool p.db, .bool p.am, .int .i64 p.nd] : Array Value).toList = (u4.setCells g ((jp + 1) * 7) [.int .i64 p.id, .string p.nm, .int .i64 p.rk, .bool p.sc, .bool p.db, .bool p.am, .int .i64 p.nd]) := rfl
              rw [if_pos (by kernel_rfl)]
              refine wp_store_mid 52 _ _ (by rfl) g ((jp + 1) * 7) #[.int .i64 p.id, .string p.nm, .int .i64 p.rk, .bool p.sc, .bool p.db, .bool p.am, .int .i64 p.nd] (by rfl) (by rfl) HT.out (by kernel_rfl) (by simp [Value.oneCell']) ?_
              rw [hsc]
              clear hsc HT
              (first | refine hK.out _ _ ?_ (fun hHeld1 => ?_) | (go_wp2_with fail; refine hK.out _ _ ?_ (fun hHeld1 => ?_)))
              · ((try dsimp only); exact Below.refl 0 _)
              clear hK K hHeld
              have hHeld := hHeld1
              clear hHeld1
              try simp only [Act.put, List.setIfInBounds_toArray, List.set_cons_zero, List.set_cons_succ]
              replace HO := Lib.hid (show OwD RuleK 52 base (u4.setCells g ((jp + 1) * 7) [.int .i64 p.id, .string p.nm, .int .i64 p.rk, .bool p.sc, .bool p.db, .bool p.am, .int .i64 p.nd]) (some ⟨g, 0, none⟩) oc ((midH key noRule xs i (jp + 1)).set (jp + 1) p) from own_putG HO.out (by rw [HML.out]; have := HLT.out; omega) p HFP.out)
              replace HB := Lib.hid (And.intro (show Below base w0 (u4.setCells g ((jp + 1) * 7) [.int .i64 p.id, .string p.nm, .int .i64 p.rk, .bool p.sc, .bool p.db, .bool p.am, .int .i64 p.nd]) from below_putsR HB.out.1 hbg _ _) (Nat.le_trans HB.out.2 (below_putsR (q := g) (Below.refl 0 u4) (Nat.zero_le g) ((jp + 1) * 7) [.int .i64 p.id, .string p.nm, .int .i64 p.rk, .bool p.sc, .bool p.db, .bool p.am, .int .i64 p.nd]).size))
              clear HRY HRP
              generalize (u4.setCells g ((jp + 1) * 7) [.int .i64 p.id, .string p.nm, .int .i64 p.rk, .bool p.sc, .bool p.db, .bool p.am, .int .i64 p.nd]) = u5 at *
              refine take_yes (i := 16) (d := 52) (v := ?_) rfl rfl (by kernel_rfl) (by kernel_rfl) (by kernel_rfl) (fun _ _ _ h => h) (by kernel_rfl) ?_ hHeld ?_
              rotate_left
              · (intro w hSw; (try dsimp only at hSw); go_simp; try (with_reducible rfl))
              try simp only [Act.put, List.setIfInBounds_toArray, List.set_cons_zero, List.set_cons_succ]
              refine wpAnyH_ready (rs := [17]) (by kernel_rfl) (by simp) ?_
              refine AllReadyH.cons rfl (fun K hK => ?_) (AllReadyH.nil)
              have HT := Lib.hid (show World.there _ g (jp * 7) 7 from own_there HO.out (k := jp) (by rw [List.length_set, HML.out]; have := HLT.out; omega))
              have hsc : u5.setCells g (jp * 7) (#[.int .i64 y.id, .string y.nm, .int .i64 y.rk, .bool y.sc, .bool y.db, .bool y.am, .int .i64 y.nd] : Array Value).toList = (u5.setCells g (jp * 7) [.int .i64 y.id, .string y.nm, .int .i64 y.rk, .bool y.sc, .bool y.db, .bool y.am, .int .i64 y.nd]) := rfl
              rw [if_pos (by kernel_rfl)]
              refine wp_store_mid 52 _ _ (by rfl) g (jp * 7) #[.int .i64 y.id, .string y.nm, .int .i64 y.rk, .bool y.sc, .bool y.db, .bool y.am, .int .i64 y.nd] (by rfl) (by rfl) HT.out (by kernel_rfl) (by simp [Value.oneCell']) ?_
              rw [hsc]
              clear hsc HT
              (first | refine hK.out _ _ ?_ (fun hHeld1 => ?_) | (go_wp2_with fail; refine hK.out _ _ ?_ (fun hHeld1 => ?_)))
              · ((try dsimp only); exact Below.refl 0 _)
              clear hK K hHeld
              have hHeld := hHeld1
              clear hHeld1
              try simp only [Act.put, List.setIfInBounds_toArray, List.set_cons_zero, List.set_cons_succ]
              replace HO := Lib.hid (show OwD RuleK 52 base (u5.setCells g (jp * 7) [.int .i64 y.id, .string y.nm, .int .i64 y.rk, .bool y.sc, .bool y.db, .bool y.am, .int .i64 y.nd]) (some ⟨g, 0, none⟩) oc (((midH key noRule xs i (jp + 1)).set (jp + 1) p).set jp y) from own_putG HO.out (by rw [List.length_set, HML.out]; have := HLT.out; omega) y HFY.out)
              replace HB := Lib.hid (And.intro (show Below base w0 (u5.setCells g (jp * 7) [.int .i64 y.id, .string y.nm, .int .i64 y.rk, .bool y.sc, .bool y.db, .bool y.am, .int .i64 y.nd]) from below_putsR HB.out.1 hbg _ _) (Nat.le_trans HB.out.2 (below_putsR (q := g) (Below.refl 0 u5) (Nat.zero_le g) (jp * 7) [.int .i64 y.id, .string y.nm, .int .i64 y.rk, .bool y.sc, .bool y.db, .bool y.am, .int .i64 y.nd]).size))
              generalize (u5.setCells g (jp * 7) [.int .i64 y.id, .string y.nm, .int .i64 y.rk, .bool y.sc, .bool y.db, .bool y.am, .int .i64 y.nd]) = u6 at *
              refine wpAnyH_done (by kernel_rfl) ?_ _
              refine NoPanic.normal ?_
              clear hHeld
              have HO9 := Lib.hid (show OwD RuleK 52 base u6 (some ⟨g, 0, none⟩) oc (midH key noRule xs i jp) from HO.out.eq_ (by (unfold midH); (rw [hy.out]); exact HSW.out))
              go_wp2
              go_roundw
              case rel => exact ⟨jp, by omega, by go_num, Lib.hid (by (intro z hz); (rw [hy.out]); exact HG2.out z hz), HO9, HB⟩
              case measure => simp [intOf]; try omega
          · rw [hcv] at hcn
            have hc2 : ¬ cv < 0 := of_decide_eq_false hcn
            have HE2 := Lib.hid (HEND.out (of_decide_eq_false hcv))
            clear hcv hcn HGO HEND
            go_upto_region 4 with fail
            refine wp_region_noPanic ?_
            refine wp_region_held_drew (S := (fun w' => w'.rangeAt g ((jp + 1) * 7) [.int .i64 y.id, .string y.nm, .int .i64 y.rk, .bool y.sc, .bool y.db, .bool y.am, .int .i64 y.nd] ∧ w'.rangeAt g (jp * 7) [.int .i64 p.id, .string p.nm, .int .i64 p.rk, .bool p.sc, .bool p.db, .bool p.am, .int .i64 p.nd])) (by kernel_rfl) ?_ (fun hHeld => ?_)
            · ((try dsimp only); exact ⟨HY.out, HP.out⟩)
            clear HY HP
            replace HO := Lib.hid HO.out.drew_
            replace HB := Lib.hid (And.intro HB.out.1.drew (show base ≤ wq.drew.heap.size from HB.out.2))
            skip
            refine take_yes (i := 0) (d := 18) (v := ?_) rfl rfl (by kernel_rfl) (by kernel_rfl) (by kernel_rfl) (fun _ _ _ h => h) (by kernel_rfl) ?_ hHeld ?_
            rotate_left
            · (intro w hSw; (try dsimp only at hSw); go_simp; try (with_reducible rfl))
            try simp only [Act.put, List.setIfInBounds_toArray, List.set_cons_zero, List.set_cons_succ]
            refine take_yes (i := 1) (d := 19) (v := ?_) rfl rfl (by kernel_rfl) (by kernel_rfl) (by kernel_rfl) (fun _ _ _ h => h) (by kernel_rfl) ?_ hHeld ?_
            rotate_left
            · (intro w hSw; (try dsimp only at hSw); go_simp; try (with_reducible rfl))
            try simp only [Act.put, List.setIfInBounds_toArray, List.set_cons_zero, List.set_cons_succ]
            refine take_yes (i := 2) (d := 20) (v := ?_) rfl rfl (by kernel_rfl) (by kernel_rfl) (by kernel_rfl) (fun _ _ _ h => h) (by kernel_rfl) ?_ hHeld ?_
            rotate_left
            · (intro w hSw; (try dsimp only at hSw); go_simp; try (with_reducible rfl))
            try simp only [Act.put, List.setIfInBounds_toArray, List.set_cons_zero, List.set_cons_succ]
            refine take_yes (i := 3) (d := 21) (v := ?_) rfl rfl (by kernel_rfl) (by kernel_rfl) (by kernel_rfl) (fun _ _ _ h => h) (by kernel_rfl) ?_ hHeld ?_
            rotate_left
            · (intro w hSw; (try dsimp only at hSw); go_simp; try (with_reducible rfl))
            try simp only [Act.put, List.setIfInBounds_toArray, List.set_cons_zero, List.set_cons_succ]
            refine take_yes (i := 4) (d := 22) (v := ?_) rfl rfl (by kernel_rfl) (by kernel_rfl) (by kernel_rfl) (fun _ _ _ h => h) (by kernel_rfl) ?_ hHeld ?_
            rotate_left
            · (intro w hSw; (try dsimp only at hSw); go_simp; try (with_reducible rfl))
            try simp only [Act.put, List.setIfInBounds_toArray, List.set_cons_zero, List.set_cons_succ]
            refine take_yes (i := 5) (d := 23) (v := ?_) rfl rfl (by kernel_rfl) (by kernel_rfl) (by kernel_rfl) (fun _ _ _ h => h) (by kernel_rfl) ?_ hHeld ?_
            rotate_left
            · (intro w hSw; (try dsimp only at hSw); go_simp; try (with_reducible rfl))
            try simp only [Act.put, List.setIfInBounds_toArray, List.set_cons_zero, List.set_cons_succ]
            refine take_yes (i := 6) (d := 24) (v := ?_) rfl rfl (by kernel_rfl) (by kernel_rfl) (by kernel_rfl) (fun _ _ _ h => h) (by kernel_rfl) ?_ hHeld ?_
            rotate_left
            · (intro w hSw; (try dsimp only at hSw); go_simp; try (with_reducible rfl))
            try simp only [Act.put, List.setIfInBounds_toArray, List.set_cons_zero, List.set_cons_succ]
            refine take_yes (i := 7) (d := 25) (v := ?_) rfl rfl (by kernel_rfl) (by kernel_rfl) (by kernel_rfl) (fun _ _ _ h => h) (by kernel_rfl) ?_ hHeld ?_
            rotate_left
            · (intro w hSw; (try dsimp only at hSw); go_simp; try (with_reducible rfl))
            try simp only [Act.put, List.setIfInBounds_toArray, List.set_cons_zero, List.set_cons_succ]
            refine take_load (i := 8) (d := 26) rfl rfl (by kernel_rfl) (by kernel_rfl) (by kernel_rfl) (fun _ _ _ _ h => h) (by kernel_rfl) 52 _ (by rfl) g ((jp + 1) * 7) (by rfl) [.int .i64 y.id, .string y.nm, .int .i64 y.rk, .bool y.sc, .bool y.db, .bool y.am, .int .i64 y.nd] _ (fun _ h9 => h9.1) Try.underlying52 (by rfl) (by kernel_rfl) hHeld ?_
            try simp only [Act.put, List.setIfInBounds_toArray, List.set_cons_zero, List.set_cons_succ]
            refine take_yes (i := 9) (d := 27) (v := ?_) rfl rfl (by kernel_rfl) (by kernel_rfl) (by kernel_rfl) (fun _ _ _ h => h) (by kernel_rfl) ?_ hHeld ?_
            rotate_left
            · (intro w hSw; (try dsimp only at hSw); go_simp; try (with_reducible rfl))
            try simp only [Act.put, List.setIfInBounds_toArray, List.set_cons_zero, List.set_cons_succ]
            refine take_yes (i := 10) (d := 28) (v := ?_) rfl rfl (by kernel_rfl) (by kernel_rfl) (by kernel_rfl) (fun _ _ _ h => h) (by kernel_rfl) ?_ hHeld ?_
            rotate_left
            · (intro w hSw; (try dsimp only at hSw); go_simp; try (with_reducible rfl))
            try simp only [Act.put, List.setIfInBounds_toArray, List.set_cons_zero, List.set_cons_succ]
            refine take_yes (i := 11) (d := 29) (v := ?_) rfl rfl (by kernel_rfl) (by kernel_rfl) (by kernel_rfl) (fun _ _ _ h => h) (by kernel_rfl) ?_ hHeld ?_
            rotate_left
            · (intro w hSw; (try dsimp only at hSw); go_simp; try (with_reducible rfl))
            try simp only [Act.put, List.setIfInBounds_toArray, List.set_cons_zero, List.set_cons_succ]
            refine take_yes (i := 12) (d := 30) (v := ?_) rfl rfl (by kernel_rfl) (by kernel_rfl) (by kernel_rfl) (fun _ _ _ h => h) (by kernel_rfl) ?_ hHeld ?_
            rotate_left
            · (intro w hSw; (try dsimp only at hSw); go_simp; try (with_reducible rfl))
            try simp only [Act.put, List.setIfInBounds_toArray, List.set_cons_zero, List.set_cons_succ]
            refine take_load (i := 13) (d := 31) rfl rfl (by kernel_rfl) (by kernel_rfl) (by kernel_rfl) (fun _ _ _ _ h => h) (by kernel_rfl) 52 _ (by rfl) g (jp * 7) (by rfl) [.int .i64 p.id, .string p.nm, .int .i64 p.rk, .bool p.sc, .bool p.db, .bool p.am, .int .i64 p.nd] _ (fun _ h9 => h9.2) Try.underlying52 (by rfl) (by kernel_rfl) hHeld ?_
            try simp only [Act.put, List.setIfInBounds_toArray, List.set_cons_zero, List.set_cons_succ]
            refine wpAnyH_ready (rs := [14]) (by kernel_rfl) (by simp) ?_
            refine AllReadyH.cons rfl (fun K hK => ?_) (AllReadyH.nil)
            go_simp
            (go_at_call 103; refine (aboveC_any y p _).mono ?_; rintro e v4 ⟨rfl, hb⟩; rw [HCM.out]; have HBX := Lib.hid hb; clear hb)
            (first | refine hK.out _ _ ?_ (fun hHeld1 => ?_) | (go_wp2_with fail; refine hK.out _ _ ?_ (fun hHeld1 => ?_)))
            · ((try dsimp only); exact ⟨rng_kept hHeld.1 HBX.out, rng_kept hHeld.2 HBX.out⟩)
            clear hK K hHeld
            have hHeld := hHeld1
            clear hHeld1
            try simp only [Act.put, List.setIfInBounds_toArray, List.set_cons_zero, List.set_cons_succ]
            replace HO := Lib.hid (HO.out.call HBX.out)
            replace HB := Lib.hid (And.intro (HB.out.1.trans (HBX.out.mono HB.out.2)) (Nat.le_trans HB.out.2 HBX.out.size))
            have HRY := Lib.hid (rng_kept hHeld.1 (Below.refl _ _))
            have HRP := Lib.hid (rng_kept hHeld.2 (Below.refl _ _))
            clear HBX
            refine take_yes (i := 15) (d := 33) (v := ?_) rfl rfl (by kernel_rfl) (by kernel_rfl) (by kernel_rfl) (fun _ _ _ h => h) (by kernel_rfl) ?_ hHeld ?_
            rotate_left
            · (intro w hSw; (try dsimp only at hSw); go_simp; try (with_reducible rfl))
            try simp only [Act.put, List.setIfInBounds_toArray, List.set_cons_zero, List.set_cons_succ]
            refine take_yes (i := 16) (d := 34) (v := ?_) rfl rfl (by kernel_rfl) (by kernel_rfl) (by kernel_rfl) (fun _ _ _ h => h) (by kernel_rfl) ?_ hHeld ?_
            rotate_left
            · (intro w hSw; (try dsimp only at hSw); go_simp; try (with_reducible rfl))
            try simp only [Act.put, List.setIfInBounds_toArray, List.set_cons_zero, List.set_cons_succ]
            refine wpAnyH_done (by kernel_rfl) ?_ _
            refine NoPanic.normal ?_
            clear hHeld
            have HO2 := Lib.hid (HO.out.eq_ HE2.out)
            clear HE2 HO
            go_wp2
            go_roundw
            case rel => exact ⟨i + 1, by omega, .inl (by omega), by go_num, HO2, HB⟩
            case measure => simp [intOf]; omega
    · have i1 : ¬ (i : Int) < (n : Int) := by omega
      have HO2 := Lib.hid (HO.out.eq_ (rowH_end key xs (show xs.length ≤ i by rw [← HN.out]; omega)))
      clear HO
      go_wp2
      go_end0
      exact ⟨rfl, HO2.out, HB.out⟩
end Go.Proofs.Ytifahgdalgjgfaa
