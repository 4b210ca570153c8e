/- The walk of the law FnStack: it returns true. Conditions: none. -/
import Derived.Test.YtifahgdalgjgfaaSk2
import Derived.Test.YtifahgdalgjgfaaSk3
import Derived.Test.YtifahgdalgjgfaaDv
import Derived.Test.YtifahgdalgjgfaaMv4
import Derived.Test.YtifahgdalgjgfaaLst
import Derived.Test.YtifahgdalgjgfaaByt
import Derived.Deep.DrawnRows
import Derived.Deep.Cut
import Derived.Deep.CutRange
import Derived.Deep.DeepCutAuto
namespace Go.Proofs.Ytifahgdalgjgfaa.fnStack
open Go.RowKit
set_option linter.unusedVariables false
set_option linter.unusedSimpArgs false
attribute [local go_sem ↓] Go.wp_at_zero Go.wp_at_succ
set_option maxRecDepth 100000 in
set_option maxHeartbeats 16000000 in
theorem walk (A : Option Addr) (c : Nat) (xs : List Int) (w : World) (hx : xs.length ≤ c ∧ Cells w A (ByteK.row xs) ∧ xs.length ≤ maxLen ∧ ∀ x ∈ xs, ByteK.fit x) :
    Calls Try.prog 4 #[.slice A xs.length c] w fun e w' => e = .returned (.bool true) ∧ Below w.heap.size w w' := by
  have S := Lib.hid (Lst.mk (Below.refl w.heap.size w) (bytesC_of hx.2.1 hx.2.2.2))
  clear hx
  by_cases hbig : 65536 < xs.length
  · have hd : decide (65536 < xs.length) = true := decide_eq_true hbig
    go_enter Try.func4, Try.ntmps4
    go_wp2_with fail
    refine (vBig_any A _ c w).mono ?_
    rintro e w1 ⟨rfl, hb⟩
    rw [hd]
    go_wp2
    go_ret
    exact ⟨rfl, hb⟩
  have hd : decide (65536 < xs.length) = false := decide_eq_false hbig
  have hxl : xs.length ≤ 65536 := by omega
  clear hbig
  go_enter Try.func4, Try.ntmps4
  go_wp2_with fail
  refine (vBig_any A _ c w).mono ?_
  rintro e v1 ⟨rfl, hb⟩
  replace S := Lib.hid (S.out.call hb)
  rw [hd]
  clear hd hb
  have hlo := S.out.sz
  go_wp2_with fail
  refine (DrawMoveQuestion_any A _ c v1 S.out.bytes hxl).mono ?_
  rintro e v2 ⟨Pa, pa, xa, Oa, oa, qa, i, m, rfl, r1, r2, hla1, hla2, hb⟩
  replace S := Lib.hid (S.out.call hb)
  have Ra := Lib.hid (r1.low hlo)
  have La := Lib.hid (r2.low hlo)
  clear hb r1 r2 hlo
  have hlo := S.out.sz
  go_wp2_with fail
  refine (MoveQuestion_any _ _ xa _ _ qa i m _ (PA.of Ra.out.rd La.out.rd)).mono ?_
  rintro e v3 ⟨Og, og, rfl, r1, hb⟩
  replace S := Lib.hid (S.out.call hb)
  replace Ra := Lib.hid (Ra.out.call hb)
  replace La := Lib.hid (La.out.call hb)
  have Lg := Lib.hid (OwD.low (show OwD QuestionK 32 _ v3 Og og (moveL xa qa i m) from r1) hlo)
  clear hb r1 hlo
  obtain ⟨g, Hg⟩ : ∃ zz0, Hid (moveL xa qa i m = zz0) := ⟨_, Lib.hid rfl⟩
  rw [Hg.out] at Lg ⊢
  have hlo := S.out.sz
  go_wp2_with fail
  refine (sMoveQuestion_any _ _ xa _ _ qa i m _ (PA.of Ra.out.rd La.out.rd)).mono ?_
  rintro e v4 ⟨Oh, oh, rfl, r1, hb⟩
  replace S := Lib.hid (S.out.call hb)
  replace Ra := Lib.hid (Ra.out.call hb)
  replace La := Lib.hid (La.out.call hb)
  replace Lg := Lib.hid (Lg.out.call hb)
  have Lh := Lib.hid (OwD.low (show OwD QuestionK 32 _ v4 Oh oh (moveL xa qa i m) from r1) hlo)
  clear hb r1 hlo
  rw [Hg.out] at Lh ⊢
  have kb : (moveB xa qa i m != moveB xa qa i m) = false := by simp
  have kc : (pendB xa qa != pendB xa qa) = false := by simp
  go_wp2_with fail
  refine (vQuestions_same Lg.out.rd Lh.out.rd).mono ?_
  rintro e v5 ⟨rfl, hb⟩
  replace S := Lib.hid (S.out.call hb)
  replace Ra := Lib.hid (Ra.out.call hb)
  replace La := Lib.hid (La.out.call hb)
  replace Lg := Lib.hid (Lg.out.call hb)
  replace Lh := Lib.hid (Lh.out.call hb)
  clear hb
  clear Lh
  clear kb
  go_wp2_with fail
  refine (pend_any (PA.of Ra.out.rd La.out.rd)).mono ?_
  rintro e v6 ⟨rfl, hb⟩
  replace S := Lib.hid (S.out.call hb)
  replace Ra := Lib.hid (Ra.out.call hb)
  replace La := Lib.hid (La.out.call hb)
  replace Lg := Lib.hid (Lg.out.call hb)
  clear hb
  go_wp2_with fail
  refine (spend_any (PA.of Ra.out.rd La.out.rd)).mono ?_
  rintro e v7 ⟨rfl, hb⟩
  replace S := Lib.hid (S.out.call hb)
  replace Ra := Lib.hid (Ra.out.call hb)
  replace La := Lib.hid (La.out.call hb)
  replace Lg := Lib.hid (Lg.out.call hb)
  clear hb
  have hlo := S.out.sz
  go_wp2_with fail
  refine (MayBeMoved_any _ _ xa _ _ qa _ (PA.of Ra.out.rd La.out.rd)).mono ?_
  rintro e v8 ⟨Oy, oy, rfl, r1, hb⟩
  replace S := Lib.hid (S.out.call hb)
  replace Ra := Lib.hid (Ra.out.call hb)
  replace La := Lib.hid (La.out.call hb)
  replace Lg := Lib.hid (Lg.out.call hb)
  have Ly := Lib.hid (OwD.low (show OwD IntK 3 _ v8 Oy oy (mayO xa qa) from r1) hlo)
  clear hb r1 hlo
  obtain ⟨y, Hy⟩ : ∃ zz0, Hid (mayO xa qa = zz0) := ⟨_, Lib.hid rfl⟩
  rw [Hy.out] at Ly ⊢
  have hlo := S.out.sz
  go_wp2_with fail
  refine (sMayBeMoved_any _ _ xa _ _ qa _ (PA.of Ra.out.rd La.out.rd)).mono ?_
  rintro e v9 ⟨Oz, oz, rfl, r1, hb⟩
  replace S := Lib.hid (S.out.call hb)
  replace Ra := Lib.hid (Ra.out.call hb)
  replace La := Lib.hid (La.out.call hb)
  replace Lg := Lib.hid (Lg.out.call hb)
  replace Ly := Lib.hid (Ly.out.call hb)
  have Lz := Lib.hid (OwD.low (show OwD IntK 3 _ v9 Oz oz (mayO xa qa) from r1) hlo)
  clear hb r1 hlo
  rw [Hy.out] at Lz ⊢
  go_upto_region 10 with fail
  go_cut [8, 10, 112] (fun u v s wx => u = .bool (moveB xa qa i m) ∧ s = .bool false ∧ Hid (Lst w wx A xs.length) ∧ Hid (OwD RuleK 52 w.heap.size wx Pa pa xa) ∧ Hid (OwD QuestionK 32 w.heap.size wx Oa oa qa) ∧ Hid (OwD QuestionK 32 w.heap.size wx Og og g))
  case first =>
    rcases Bool.eq_false_or_eq_true (moveB xa qa i m) with hk | hk
    · rw [hk]
      have TH := Lib.hid (show hasB i y = true by rw [← Hy.out]; exact (stack_law hk).2.2.2.1)
      have HK := Lib.hid hk
      clear hk
      go_wp2_with fail
      refine (vInts_same Ly.out.rd Lz.out.rd).mono ?_
      rintro e v10 ⟨rfl, hb⟩
      replace S := Lib.hid (S.out.call hb)
      replace Ra := Lib.hid (Ra.out.call hb)
      replace La := Lib.hid (La.out.call hb)
      replace Lg := Lib.hid (Lg.out.call hb)
      replace Ly := Lib.hid (Ly.out.call hb)
      replace Lz := Lib.hid (Lz.out.call hb)
      clear hb
      go_wp2_with (go_at_call 30; refine (vHas_any _ _ _ _ _ Ly.out.rd.cells Ly.out.rd.2.2.1).mono ?_; rintro e w' ⟨rfl, hw⟩; rw [TH.out, ← hw]; clear hw)
      go_meet
      exact ⟨by rw [HK.out], rfl, S, Ra, La, Lg⟩
    · rw [hk]
      have HK := Lib.hid hk
      clear hk
      go_wp2_with fail
      refine (vInts_same Ly.out.rd Lz.out.rd).mono ?_
      rintro e v11 ⟨rfl, hb⟩
      replace S := Lib.hid (S.out.call hb)
      replace Ra := Lib.hid (Ra.out.call hb)
      replace La := Lib.hid (La.out.call hb)
      replace Lg := Lib.hid (Lg.out.call hb)
      replace Ly := Lib.hid (Ly.out.call hb)
      replace Lz := Lib.hid (Lz.out.call hb)
      clear hb
      go_wp2_with fail
      go_meet
      exact ⟨by rw [HK.out], rfl, S, Ra, La, Lg⟩
  case rest =>
    clear S Ra La Lg Ly Lz kc
    obtain ⟨W, rfl⟩ : ∃ W, W = wc := ⟨_, rfl⟩
    obtain ⟨rfl, rfl, S, Ra, La, Lg⟩ := hcut
    go_upto_if 113 with fail
    go_cut [8, 10] (fun u v wx => Hid (Lst w wx A xs.length))
    case first =>
      rcases Bool.eq_false_or_eq_true (moveB xa qa i m) with hk | hk
      · rw [hk]
        have xl8 := Lib.hid (rules_le8 (pend_rules (stack_law hk).2.1))
        obtain ⟨h1, h2, h3, h4, h5, h6, h7⟩ := stack_law hk
        have he : qa ++ [⟨i, m, false⟩] = g := h1.symm.trans Hg.out
        have h8 := mv_has h2
        rw [he] at h2 h5 h6 h8
        have h9 : g.length = qa.length + 1 := by rw [← he]; simp
        have hlt : qa.length < g.length := by omega
        have h10 : g[qa.length] = ⟨i, m, false⟩ := by subst he; simp
        have h11 : (nmsL xa g).length = g.length := by unfold nmsL; rw [if_pos h2]; simp
        have T2 := Lib.hid h2
        have T5 := Lib.hid h5
        have T6 := Lib.hid h6
        have T7 := Lib.hid h7
        have T8 := Lib.hid h8
        have T9 := Lib.hid h9
        have T10 := Lib.hid h10
        have T11 := Lib.hid h11
        clear h1 h2 h3 h4 h5 h6 h7 h8 h9 h10 h11 he hk
        have hlo := S.out.sz
        go_wp2_with fail
        refine (QuestionNames_any _ _ xa _ _ g _ (PA.of Ra.out.rd Lg.out.rd)).mono ?_
        rintro e v12 ⟨On, on, rfl, r1, hb⟩
        replace S := Lib.hid (S.out.call hb)
        replace Ra := Lib.hid (Ra.out.call hb)
        replace La := Lib.hid (La.out.call hb)
        replace Lg := Lib.hid (Lg.out.call hb)
        have Ln := Lib.hid (OwD.low (show OwD StrK 9 _ v12 On on (nmsL xa g) from r1) hlo)
        clear hb r1 hlo
        rw [T2.out]
        have hlo := S.out.sz
        go_wp2_with fail
        refine (MoversOf_any _ _ xa _ _ g _ (PA.of Ra.out.rd Lg.out.rd)).mono ?_
        rintro e v13 ⟨Oo, oo, rfl, r1, hb⟩
        replace S := Lib.hid (S.out.call hb)
        replace Ra := Lib.hid (Ra.out.call hb)
        replace La := Lib.hid (La.out.call hb)
        replace Lg := Lib.hid (Lg.out.call hb)
        replace Ln := Lib.hid (Ln.out.call hb)
        have Lo := Lib.hid (OwD.low (show OwD IntK 3 _ v13 Oo oo (mvO xa g) from r1) hlo)
        clear hb r1 hlo
        rw [T2.out]
        have hlo := S.out.sz
        go_wp2_with fail
        refine (WithdrawQuestion_any _ _ xa _ _ g m _ (PA.of Ra.out.rd Lg.out.rd)).mono ?_
        rintro e v14 ⟨Ok, ok, rfl, r1, hb⟩
        replace S := Lib.hid (S.out.call hb)
        replace Ra := Lib.hid (Ra.out.call hb)
        replace La := Lib.hid (La.out.call hb)
        replace Lg := Lib.hid (Lg.out.call hb)
        replace Ln := Lib.hid (Ln.out.call hb)
        replace Lo := Lib.hid (Lo.out.call hb)
        have Lk := Lib.hid (OwD.low (show OwD QuestionK 32 _ v14 Ok ok (wdL xa g m) from r1) hlo)
        clear hb r1 hlo
        rw [T6.out] at Lk ⊢
        rw [T5.out]
        obtain ⟨n9, Hn9⟩ : ∃ zz0, Hid (nmsL xa g = zz0) := ⟨_, Lib.hid rfl⟩
        obtain ⟨o9, Ho9⟩ : ∃ zz0, Hid (mvO xa g = zz0) := ⟨_, Lib.hid rfl⟩
        rw [Hn9.out] at Ln T11 ⊢
        rw [Ho9.out] at Lo T8 ⊢
        go_wp2_with fail
        refine (pend_any (PA.of Ra.out.rd Lg.out.rd)).mono ?_
        rintro e v15 ⟨rfl, hb⟩
        replace S := Lib.hid (S.out.call hb)
        replace Ra := Lib.hid (Ra.out.call hb)
        replace La := Lib.hid (La.out.call hb)
        replace Lg := Lib.hid (Lg.out.call hb)
        replace Ln := Lib.hid (Ln.out.call hb)
        replace Lo := Lib.hid (Lo.out.call hb)
        replace Lk := Lib.hid (Lk.out.call hb)
        clear hb
        rw [T2.out]
        obtain ⟨a, ha, hc0, hc1, hc2⟩ := question_at Lg.out.rd.cells (show qa.length < g.length by have := T9.out; omega)
        subst ha
        rw [T10.out] at hc0 hc1 hc2
        have k1 : IntKind.i64.wrap ((g.length : Int) - 1) = ((qa.length : Nat) : Int) := by (have h9 := T9.out; have h8 := Lg.out.rd.2.2.1; unfold maxLen at h8; rw [IntKind.wrap_i64]; omega)
        have i1 : (qa.length : Int) < (g.length : Int) := by (have := T9.out; omega)
        have k2 : ((n9.length : Int) != (g.length : Int)) = false := by rw [T11.out]; simp
        go_wp2_with fail
        refine (vHas_any _ _ _ _ _ Lo.out.rd.cells Lo.out.rd.2.2.1).mono ?_
        rintro e w' ⟨rfl, hw⟩
        rw [T8.out, ← hw]
        clear hw hc0 hc1 hc2 k1 k2 i1
        go_wp2_with fail
        refine (vQuestions_same Lk.out.rd La.out.rd).mono ?_
        rintro e v16 ⟨rfl, hb⟩
        replace S := Lib.hid (S.out.call hb)
        replace Ra := Lib.hid (Ra.out.call hb)
        replace La := Lib.hid (La.out.call hb)
        replace Lg := Lib.hid (Lg.out.call hb)
        replace Ln := Lib.hid (Ln.out.call hb)
        replace Lo := Lib.hid (Lo.out.call hb)
        replace Lk := Lib.hid (Lk.out.call hb)
        clear hb
        clear La Lg Lk Lo
        clear T5 T6 T8 T9 T10
        go_wp2_with fail
        go_loopw [22] (fun i wr => ∃ k : Nat, i = .int .i64 ((k : Int) + 1) ∧ k < g.length ∧ Hid (Lst w wr A xs.length) ∧ Hid (OwD RuleK 52 w.heap.size wr Pa pa xa) ∧ Hid (OwD StrK 9 w.heap.size wr On on n9)) (fun i _ => g.length - (intOf i).toNat)
        case atStart => exact ⟨0, rfl, by have := T7.out; omega, S, Ra, Ln⟩
        case round =>
          clear S Ra Ln
          obtain ⟨wq, hwq⟩ : ∃ x : World, x = wr := ⟨_, rfl⟩
          subst hwq
          obtain ⟨k, rfl, hk, S, Ra, Ln⟩ := hrel
          have q0 : IntKind.i64.wrap ((k : Int) + 1 + 1) = ((k + 1 : Nat) : Int) + 1 := by (have h8 := Ln.out.rd.2.2.1; have h9 := T11.out; unfold maxLen at h8; rw [IntKind.wrap_i64]; omega)
          by_cases hlt : k + 1 < g.length
          · obtain ⟨h0, h1, hb0, hb1, hr⟩ := stack_names T2.out hlt Hn9.out
            have i2 : (k : Int) + 1 < (g.length : Int) := by omega
            have j0 : (k : Int) < (n9.length : Int) := by omega
            have j1 : (k : Int) + 1 < (n9.length : Int) := by omega
            have h8 := Ln.out.rd.2.2.1
            unfold maxLen at h8
            have q1 : IntKind.i64.wrap ((k : Int) + 1 - 1) = (k : Int) := by (rw [IntKind.wrap_i64]; omega)
            have q2 : IntKind.i64.wrap (k : Int) = (k : Int) := by (rw [IntKind.wrap_i64]; omega)
            clear h8
            have tn1 : ((k : Int) + 1).toNat = k + 1 := by omega
            have z1 : (0 : Int) ≤ (k : Int) + 1 := by omega
            obtain ⟨a, ha, hc0⟩ := str_at Ln.out.rd.cells h0
            obtain ⟨a2, ha2, hc1⟩ := str_at Ln.out.rd.cells h1
            rw [ha] at ha2
            obtain rfl := Option.some.inj ha2
            subst ha
            obtain ⟨s0, hs0⟩ : ∃ s, n9[k] = s := ⟨_, rfl⟩
            obtain ⟨s1, hs1⟩ : ∃ s, n9[k + 1] = s := ⟨_, rfl⟩
            rw [hs0] at hc0 hb0 hr
            rw [hs1] at hc1 hb1 hr
            clear hs0 hs1
            go_wp2_with fail
            refine (RuleByName_any _ _ xa s0 _ Ra.out.rd.cells (by have := xl8.out; omega) Ra.out.rd.1 Ra.out.rd.2.2.2).mono ?_
            rintro e v17 ⟨rfl, hb⟩
            replace hc1 := (hb.cell (World.block_lt_of_cell? _ _ hc1)).trans hc1
            replace S := Lib.hid (S.out.call hb)
            replace Ra := Lib.hid (Ra.out.call hb)
            replace Ln := Lib.hid (Ln.out.call hb)
            clear hb
            rw [hb0]
            obtain ⟨R0, hR0⟩ : ∃ x, rbR xa s0 = x := ⟨_, rfl⟩
            rw [hR0] at hr ⊢
            clear hR0
            have BR0 := Lib.hid (BT.new v17 #[.int .i64 R0.id, .string R0.nm, .int .i64 R0.rk, .bool R0.sc, .bool R0.db, .bool R0.am, .int .i64 R0.nd] 52 v17.heap.size rfl)
            replace hc1 := cell_alloc hc1 (.cells #[.int .i64 R0.id, .string R0.nm, .int .i64 R0.rk, .bool R0.sc, .bool R0.db, .bool R0.am, .int .i64 R0.nd] 52)
            have hbl := below1 v17 (.cells #[.int .i64 R0.id, .string R0.nm, .int .i64 R0.rk, .bool R0.sc, .bool R0.db, .bool R0.am, .int .i64 R0.nd] 52)
            replace S := Lib.hid (S.out.call hbl)
            replace Ra := Lib.hid (Ra.out.call hbl)
            replace Ln := Lib.hid (Ln.out.call hbl)
            clear hbl
            go_upto_region 23 with fail
            generalize (v17.alloc (.cells #[.int .i64 R0.id, .string R0.nm, .int .i64 R0.rk, .bool R0.sc, .bool R0.db, .bool R0.am, .int .i64 R0.nd] 52)) = v18 at *
            generalize v17.heap.size = bR0 at *
            have hc2 : v18.cell? ⟨a.block, a.off + (k + 1), none⟩ = some (.string s1) := hc1
            go_wp2_with fail
            refine (RuleByName_any _ _ xa s1 _ Ra.out.rd.cells (by have := xl8.out; omega) Ra.out.rd.1 Ra.out.rd.2.2.2).mono ?_
            rintro e v19 ⟨rfl, hb⟩
            replace S := Lib.hid (S.out.call hb)
            replace Ra := Lib.hid (Ra.out.call hb)
            replace Ln := Lib.hid (Ln.out.call hb)
            replace BR0 := Lib.hid (BR0.out.call hb)
            clear hb
            rw [hb1]
            obtain ⟨R1, hR1⟩ : ∃ x, rbR xa s1 = x := ⟨_, rfl⟩
            rw [hR1] at hr ⊢
            clear hR1
            have BR1 := Lib.hid (BT.new v19 #[.int .i64 R1.id, .string R1.nm, .int .i64 R1.rk, .bool R1.sc, .bool R1.db, .bool R1.am, .int .i64 R1.nd] 52 v19.heap.size rfl)
            have hbl := below1 v19 (.cells #[.int .i64 R1.id, .string R1.nm, .int .i64 R1.rk, .bool R1.sc, .bool R1.db, .bool R1.am, .int .i64 R1.nd] 52)
            replace S := Lib.hid (S.out.call hbl)
            replace Ra := Lib.hid (Ra.out.call hbl)
            replace Ln := Lib.hid (Ln.out.call hbl)
            replace BR0 := Lib.hid (BR0.out.call hbl)
            clear hbl
            go_upto_region 24 with fail
            generalize (v19.alloc (.cells #[.int .i64 R1.id, .string R1.nm, .int .i64 R1.rk, .bool R1.sc, .bool R1.db, .bool R1.am, .int .i64 R1.nd] 52)) = v20 at *
            generalize v19.heap.size = bR1 at *
            clear hc0 hc1 hc2 hb0 hb1
            have r00 := BR0.out.box.1 0 _ rfl
            have r01 := BR0.out.box.1 1 _ rfl
            have r02 := BR0.out.box.1 2 _ rfl
            have r03 := BR0.out.box.1 3 _ rfl
            have r04 := BR0.out.box.1 4 _ rfl
            have r05 := BR0.out.box.1 5 _ rfl
            have r06 := BR0.out.box.1 6 _ rfl
            have r10 := BR1.out.box.1 0 _ rfl
            have r11 := BR1.out.box.1 1 _ rfl
            have r12 := BR1.out.box.1 2 _ rfl
            have r13 := BR1.out.box.1 3 _ rfl
            have r14 := BR1.out.box.1 4 _ rfl
            have r15 := BR1.out.box.1 5 _ rfl
            have r16 := BR1.out.box.1 6 _ rfl
            have g9 : decide (R1.rk ≤ R0.rk) = false := decide_eq_false (by omega)
            go_wp2_with fail
            go_roundw
            case rel => exact ⟨k + 1, by first | rfl | (simp; done) | go_num, hlt, S, Ra, Ln⟩
            case measure => (first | (simp [intOf]; done) | (simp [intOf]; omega))
          · have i2 : ¬ ((k : Int) + 1 < (g.length : Int)) := by omega
            go_wp2_with fail
            go_meet
            exact S
      · rw [hk]
        go_wp2_with fail
        go_meet
        exact S
    case rest =>
      clear S Ra La Lg
      obtain ⟨W2, rfl⟩ : ∃ W, W = wc := ⟨_, rfl⟩
      have S := hcut
      clear hcut
      have hlo := S.out.sz
      go_wp2_with fail
      refine (DrawWithdrawQuestion_any A _ c W2 S.out.bytes hxl).mono ?_
      rintro e v21 ⟨Pb, pb, xb, Ob, ob, qb, k, rfl, r1, r2, hlb1, hlb2, hb⟩
      replace S := Lib.hid (S.out.call hb)
      have Rb := Lib.hid (r1.low hlo)
      have Lb := Lib.hid (r2.low hlo)
      clear hb r1 r2 hlo
      have hlo := S.out.sz
      go_wp2_with fail
      refine (WithdrawQuestion_any _ _ xb _ _ qb k _ (PA.of Rb.out.rd Lb.out.rd)).mono ?_
      rintro e v22 ⟨Og, og, rfl, r1, hb⟩
      replace S := Lib.hid (S.out.call hb)
      replace Rb := Lib.hid (Rb.out.call hb)
      replace Lb := Lib.hid (Lb.out.call hb)
      have Lg := Lib.hid (OwD.low (show OwD QuestionK 32 _ v22 Og og (wdL xb qb k) from r1) hlo)
      clear hb r1 hlo
      obtain ⟨g2, Hg2⟩ : ∃ zz0, Hid (wdL xb qb k = zz0) := ⟨_, Lib.hid rfl⟩
      rw [Hg2.out] at Lg ⊢
      have hlo := S.out.sz
      go_wp2_with fail
      refine (sWithdrawQuestion_any _ _ xb _ _ qb k _ (PA.of Rb.out.rd Lb.out.rd)).mono ?_
      rintro e v23 ⟨Oh, oh, rfl, r1, hb⟩
      replace S := Lib.hid (S.out.call hb)
      replace Rb := Lib.hid (Rb.out.call hb)
      replace Lb := Lib.hid (Lb.out.call hb)
      replace Lg := Lib.hid (Lg.out.call hb)
      have Lh := Lib.hid (OwD.low (show OwD QuestionK 32 _ v23 Oh oh (wdL xb qb k) from r1) hlo)
      clear hb r1 hlo
      rw [Hg2.out] at Lh ⊢
      have kb : (wdB xb qb k != wdB xb qb k) = false := by simp
      go_wp2_with fail
      refine (vQuestions_same Lg.out.rd Lh.out.rd).mono ?_
      rintro e v24 ⟨rfl, hb⟩
      replace S := Lib.hid (S.out.call hb)
      replace Rb := Lib.hid (Rb.out.call hb)
      replace Lb := Lib.hid (Lb.out.call hb)
      replace Lg := Lib.hid (Lg.out.call hb)
      replace Lh := Lib.hid (Lh.out.call hb)
      clear hb
      clear Lg Lh Rb Lb
      clear kb
      have hlo := S.out.sz
      go_wp2_with fail
      refine (DrawMoversOf_any A _ c v24 S.out.bytes hxl).mono ?_
      rintro e v25 ⟨Pc, pc, xc, Oc, oc, qc, rfl, r1, r2, hlc1, hlc2, hb⟩
      replace S := Lib.hid (S.out.call hb)
      have Rc := Lib.hid (r1.low hlo)
      have Lc := Lib.hid (r2.low hlo)
      clear hb r1 r2 hlo
      have hlo := S.out.sz
      go_wp2_with fail
      refine (MoversOf_any _ _ xc _ _ qc _ (PA.of Rc.out.rd Lc.out.rd)).mono ?_
      rintro e v26 ⟨Og, og, rfl, r1, hb⟩
      replace S := Lib.hid (S.out.call hb)
      replace Rc := Lib.hid (Rc.out.call hb)
      replace Lc := Lib.hid (Lc.out.call hb)
      have Lg := Lib.hid (OwD.low (show OwD IntK 3 _ v26 Og og (mvO xc qc) from r1) hlo)
      clear hb r1 hlo
      obtain ⟨g3, Hg3⟩ : ∃ zz0, Hid (mvO xc qc = zz0) := ⟨_, Lib.hid rfl⟩
      rw [Hg3.out] at Lg ⊢
      have hlo := S.out.sz
      go_wp2_with fail
      refine (sMoversOf_any _ _ xc _ _ qc _ (PA.of Rc.out.rd Lc.out.rd)).mono ?_
      rintro e v27 ⟨Oh, oh, rfl, r1, hb⟩
      replace S := Lib.hid (S.out.call hb)
      replace Rc := Lib.hid (Rc.out.call hb)
      replace Lc := Lib.hid (Lc.out.call hb)
      replace Lg := Lib.hid (Lg.out.call hb)
      have Lh := Lib.hid (OwD.low (show OwD IntK 3 _ v27 Oh oh (mvO xc qc) from r1) hlo)
      clear hb r1 hlo
      rw [Hg3.out] at Lh ⊢
      have kb : (pendB xc qc == pendB xc qc) = true := by simp
      go_wp2_with fail
      refine (vInts_same Lg.out.rd Lh.out.rd).mono ?_
      rintro e v28 ⟨rfl, hb⟩
      replace S := Lib.hid (S.out.call hb)
      replace Rc := Lib.hid (Rc.out.call hb)
      replace Lc := Lib.hid (Lc.out.call hb)
      replace Lg := Lib.hid (Lg.out.call hb)
      replace Lh := Lib.hid (Lh.out.call hb)
      clear hb
      go_wp2_with (go_ret; exact ⟨rfl, S.out.on⟩)
end Go.Proofs.Ytifahgdalgjgfaa.fnStack
