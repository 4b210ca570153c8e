/- The walk of the law FnSeconds: it returns true. Conditions: none. -/
import Derived.Test.YtifahgdalgjgfaaSd1
import Derived.Test.YtifahgdalgjgfaaDq
import Derived.Test.YtifahgdalgjgfaaLst
import Derived.Test.YtifahgdalgjgfaaByt
import Derived.Deep.DrawnRows
import Derived.Deep.Cut
import Derived.Deep.CutRange
import Derived.Deep.DeepCutAuto
namespace Go.Proofs.Ytifahgdalgjgfaa.fnSeconds
open Go.RowKit
set_option linter.unusedVariables false
set_option linter.unusedSimpArgs false
attribute [local go_sem ↓] Go.wp_at_zero Go.wp_at_succ
set_option maxRecDepth 100000 in
set_option maxHeartbeats 16000000 in
theorem walk (A : Option Addr) (c : Nat) (xs : List Int) (w : World) (hx : xs.length ≤ c ∧ Cells w A (ByteK.row xs) ∧ xs.length ≤ maxLen ∧ ∀ x ∈ xs, ByteK.fit x) :
    Calls Try.prog 3 #[.slice A xs.length c] w fun e w' => e = .returned (.bool true) ∧ Below w.heap.size w w' := by
  have S := Lib.hid (Lst.mk (Below.refl w.heap.size w) (bytesC_of hx.2.1 hx.2.2.2))
  clear hx
  by_cases hbig : 65536 < xs.length
  · have hd : decide (65536 < xs.length) = true := decide_eq_true hbig
    go_enter Try.func3, Try.ntmps3
    go_wp2_with fail
    refine (vBig_any A _ c w).mono ?_
    rintro e w1 ⟨rfl, hb⟩
    rw [hd]
    go_wp2
    go_ret
    exact ⟨rfl, hb⟩
  have hd : decide (65536 < xs.length) = false := decide_eq_false hbig
  have hxl : xs.length ≤ 65536 := by omega
  clear hbig
  go_enter Try.func3, Try.ntmps3
  go_wp2_with fail
  refine (vBig_any A _ c w).mono ?_
  rintro e v1 ⟨rfl, hb⟩
  replace S := Lib.hid (S.out.call hb)
  rw [hd]
  clear hd hb
  have hlo := S.out.sz
  go_wp2_with fail
  refine (DrawSecondQuestion_any A _ c v1 S.out.bytes hxl).mono ?_
  rintro e v2 ⟨Pa, pa, xa, Oa, oa, qa, m, rfl, r1, r2, hla1, hla2, hb⟩
  replace S := Lib.hid (S.out.call hb)
  have Ra := Lib.hid (r1.low hlo)
  have La := Lib.hid (r2.low hlo)
  clear hb r1 r2 hlo
  have hlo := S.out.sz
  go_wp2_with fail
  refine (SecondQuestion_any _ _ xa _ _ qa m _ (PA.of Ra.out.rd La.out.rd)).mono ?_
  rintro e v3 ⟨Og, og, rfl, r1, hb⟩
  replace S := Lib.hid (S.out.call hb)
  replace Ra := Lib.hid (Ra.out.call hb)
  replace La := Lib.hid (La.out.call hb)
  have Lg := Lib.hid (OwD.low (show OwD QuestionK 32 _ v3 Og og (secL xa qa m) from r1) hlo)
  clear hb r1 hlo
  obtain ⟨g, Hg⟩ : ∃ zz0, Hid (secL xa qa m = zz0) := ⟨_, Lib.hid rfl⟩
  rw [Hg.out] at Lg ⊢
  have hlo := S.out.sz
  go_wp2_with fail
  refine (sSecondQuestion_any _ _ xa _ _ qa m _ (PA.of Ra.out.rd La.out.rd)).mono ?_
  rintro e v4 ⟨Oh, oh, rfl, r1, hb⟩
  replace S := Lib.hid (S.out.call hb)
  replace Ra := Lib.hid (Ra.out.call hb)
  replace La := Lib.hid (La.out.call hb)
  replace Lg := Lib.hid (Lg.out.call hb)
  have Lh := Lib.hid (OwD.low (show OwD QuestionK 32 _ v4 Oh oh (secL xa qa m) from r1) hlo)
  clear hb r1 hlo
  rw [Hg.out] at Lh ⊢
  have kb : (secB xa qa m != secB xa qa m) = false := by simp
  go_wp2_with fail
  refine (vQuestions_same Lg.out.rd Lh.out.rd).mono ?_
  rintro e v5 ⟨rfl, hb⟩
  replace S := Lib.hid (S.out.call hb)
  replace Ra := Lib.hid (Ra.out.call hb)
  replace La := Lib.hid (La.out.call hb)
  replace Lg := Lib.hid (Lg.out.call hb)
  replace Lh := Lib.hid (Lh.out.call hb)
  clear hb
  clear Lh
  clear kb
  go_upto_if 73 with fail
  go_cut [7, 9] (fun u v wx => Hid (Lst w wx A xs.length))
  case first =>
    rcases Bool.eq_false_or_eq_true (secB xa qa m) with hk | hk
    · rw [hk]
      obtain ⟨h1, h2, h3, h4, h5, h6, h7, h8, h9, h10, h11, h12⟩ := seconds_law hk
      have he : sndL qa = g := h1.symm.trans Hg.out
      rw [he] at h3 h4 h5 h7 h8 h10
      obtain ⟨r, Hr⟩ : ∃ zz0, Hid (qa.take (qa.length - 1) = zz0) := ⟨_, Lib.hid rfl⟩
      rw [Hr.out] at h5 h6
      have T2 := Lib.hid h2
      have T3 := Lib.hid h3
      have T4 := Lib.hid h4
      have T5 := Lib.hid h5
      have T6 := Lib.hid h6
      have T7 := Lib.hid h7
      have T8 := Lib.hid h8
      have T9 := Lib.hid h9
      have T10 := Lib.hid h10
      have T11 := Lib.hid h11
      have T12 := Lib.hid h12
      have TR := Lib.hid (show r.length = qa.length - 1 by rw [← Hr.out, List.length_take]; omega)
      clear h1 h2 h3 h4 h5 h6 h7 h8 h9 h10 h11 h12 he hk
      have hlo := S.out.sz
      go_wp2_with fail
      refine (DisposeQuestion_any _ _ xa _ _ qa _ (PA.of Ra.out.rd La.out.rd)).mono ?_
      rintro e v6 ⟨Oh, oh, rfl, r1, hb⟩
      replace S := Lib.hid (S.out.call hb)
      replace Ra := Lib.hid (Ra.out.call hb)
      replace La := Lib.hid (La.out.call hb)
      replace Lg := Lib.hid (Lg.out.call hb)
      have Lh := Lib.hid (OwD.low (show OwD QuestionK 32 _ v6 Oh oh (disL xa qa) from r1) hlo)
      clear hb r1 hlo
      rw [T2.out]
      have Bh := Lib.hid (BT.new v6 #[.int .i64 (disQ xa qa).r, .int .i64 (disQ xa qa).m, .bool (disQ xa qa).s] 32 v6.heap.size rfl)
      have hbl := below1 v6 (.cells #[.int .i64 (disQ xa qa).r, .int .i64 (disQ xa qa).m, .bool (disQ xa qa).s] 32)
      replace S := Lib.hid (S.out.call hbl)
      replace Ra := Lib.hid (Ra.out.call hbl)
      replace La := Lib.hid (La.out.call hbl)
      replace Lg := Lib.hid (Lg.out.call hbl)
      replace Lh := Lib.hid (Lh.out.call hbl)
      clear hbl
      go_upto_region 10 with fail
      generalize (v6.alloc (.cells #[.int .i64 (disQ xa qa).r, .int .i64 (disQ xa qa).m, .bool (disQ xa qa).s] 32)) = v7 at *
      generalize v6.heap.size = bh at *
      have hlo := S.out.sz
      go_wp2_with fail
      refine (DisposeQuestion_any _ _ xa _ _ g _ (PA.of Ra.out.rd Lg.out.rd)).mono ?_
      rintro e v8 ⟨Oi, oi, rfl, r1, hb⟩
      replace S := Lib.hid (S.out.call hb)
      replace Ra := Lib.hid (Ra.out.call hb)
      replace La := Lib.hid (La.out.call hb)
      replace Lg := Lib.hid (Lg.out.call hb)
      replace Lh := Lib.hid (Lh.out.call hb)
      replace Bh := Lib.hid (Bh.out.call hb)
      have Li := Lib.hid (OwD.low (show OwD QuestionK 32 _ v8 Oi oi (disL xa g) from r1) hlo)
      clear hb r1 hlo
      rw [T5.out] at Li ⊢
      rw [T3.out]
      have Bi := Lib.hid (BT.new v8 #[.int .i64 (disQ xa g).r, .int .i64 (disQ xa g).m, .bool (disQ xa g).s] 32 v8.heap.size rfl)
      have hbl := below1 v8 (.cells #[.int .i64 (disQ xa g).r, .int .i64 (disQ xa g).m, .bool (disQ xa g).s] 32)
      replace S := Lib.hid (S.out.call hbl)
      replace Ra := Lib.hid (Ra.out.call hbl)
      replace La := Lib.hid (La.out.call hbl)
      replace Lg := Lib.hid (Lg.out.call hbl)
      replace Lh := Lib.hid (Lh.out.call hbl)
      replace Bh := Lib.hid (Bh.out.call hbl)
      replace Li := Lib.hid (Li.out.call hbl)
      clear hbl
      go_upto_region 11 with fail
      generalize (v8.alloc (.cells #[.int .i64 (disQ xa g).r, .int .i64 (disQ xa g).m, .bool (disQ xa g).s] 32)) = v9 at *
      generalize v8.heap.size = bi at *
      have hlo := S.out.sz
      go_wp2_with fail
      refine (DropUnseconded_any _ _ xa _ _ qa _ (PA.of Ra.out.rd La.out.rd)).mono ?_
      rintro e v10 ⟨Ok, ok, rfl, r1, hb⟩
      replace S := Lib.hid (S.out.call hb)
      replace Ra := Lib.hid (Ra.out.call hb)
      replace La := Lib.hid (La.out.call hb)
      replace Lg := Lib.hid (Lg.out.call hb)
      replace Lh := Lib.hid (Lh.out.call hb)
      replace Bh := Lib.hid (Bh.out.call hb)
      replace Li := Lib.hid (Li.out.call hb)
      replace Bi := Lib.hid (Bi.out.call hb)
      have Lk := Lib.hid (OwD.low (show OwD QuestionK 32 _ v10 Ok ok (dropL xa qa) from r1) hlo)
      clear hb r1 hlo
      rw [T6.out] at Lk ⊢
      rw [T9.out]
      have hlo := S.out.sz
      go_wp2_with fail
      refine (DropUnseconded_any _ _ xa _ _ g _ (PA.of Ra.out.rd Lg.out.rd)).mono ?_
      rintro e v11 ⟨Ol, ol, rfl, r1, hb⟩
      replace S := Lib.hid (S.out.call hb)
      replace Ra := Lib.hid (Ra.out.call hb)
      replace La := Lib.hid (La.out.call hb)
      replace Lg := Lib.hid (Lg.out.call hb)
      replace Lh := Lib.hid (Lh.out.call hb)
      replace Bh := Lib.hid (Bh.out.call hb)
      replace Li := Lib.hid (Li.out.call hb)
      replace Bi := Lib.hid (Bi.out.call hb)
      replace Lk := Lib.hid (Lk.out.call hb)
      have Ll := Lib.hid (OwD.low (show OwD QuestionK 32 _ v11 Ol ol (dropL xa g) from r1) hlo)
      clear hb r1 hlo
      rw [T7.out] at Ll ⊢
      rw [T10.out]
      have hlo := S.out.sz
      go_wp2_with fail
      refine (SecondQuestion_any _ _ xa _ _ g m _ (PA.of Ra.out.rd Lg.out.rd)).mono ?_
      rintro e v12 ⟨On, on, rfl, r1, hb⟩
      replace S := Lib.hid (S.out.call hb)
      replace Ra := Lib.hid (Ra.out.call hb)
      replace La := Lib.hid (La.out.call hb)
      replace Lg := Lib.hid (Lg.out.call hb)
      replace Lh := Lib.hid (Lh.out.call hb)
      replace Bh := Lib.hid (Bh.out.call hb)
      replace Li := Lib.hid (Li.out.call hb)
      replace Bi := Lib.hid (Bi.out.call hb)
      replace Lk := Lib.hid (Lk.out.call hb)
      replace Ll := Lib.hid (Ll.out.call hb)
      have Ln := Lib.hid (OwD.low (show OwD QuestionK 32 _ v12 On on (secL xa g m) from r1) hlo)
      clear hb r1 hlo
      rw [T8.out]
      have bi2 := Bi.out.box.1 2 _ rfl
      rw [T4.out] at bi2
      have k1 : IntKind.i64.wrap ((qa.length : Int) - 1) = (qa.length : Int) - 1 := by (have := T11.out; have := T12.out); rw [IntKind.wrap_i64]; omega
      have k2 : ((r.length : Int) != (qa.length : Int) - 1) = false := by (have := T11.out; have := TR.out); simp; omega
      go_wp2_with fail
      refine (vQuestions_same Lk.out.rd Li.out.rd).mono ?_
      rintro e v13 ⟨rfl, hb⟩
      replace S := Lib.hid (S.out.call hb)
      replace Ra := Lib.hid (Ra.out.call hb)
      replace La := Lib.hid (La.out.call hb)
      replace Lg := Lib.hid (Lg.out.call hb)
      replace Lh := Lib.hid (Lh.out.call hb)
      replace Bh := Lib.hid (Bh.out.call hb)
      replace Li := Lib.hid (Li.out.call hb)
      replace Bi := Lib.hid (Bi.out.call hb)
      replace Lk := Lib.hid (Lk.out.call hb)
      replace Ll := Lib.hid (Ll.out.call hb)
      replace Ln := Lib.hid (Ln.out.call hb)
      clear hb
      clear bi2
      go_wp2_with fail
      refine (vQuestions_same Ll.out.rd Lg.out.rd).mono ?_
      rintro e v14 ⟨rfl, hb⟩
      replace S := Lib.hid (S.out.call hb)
      replace Ra := Lib.hid (Ra.out.call hb)
      replace La := Lib.hid (La.out.call hb)
      replace Lg := Lib.hid (Lg.out.call hb)
      replace Lh := Lib.hid (Lh.out.call hb)
      replace Bh := Lib.hid (Bh.out.call hb)
      replace Li := Lib.hid (Li.out.call hb)
      replace Bi := Lib.hid (Bi.out.call hb)
      replace Lk := Lib.hid (Lk.out.call hb)
      replace Ll := Lib.hid (Ll.out.call hb)
      replace Ln := Lib.hid (Ln.out.call hb)
      clear hb
      go_wp2_with fail
      go_meet
      exact S
    · rw [hk]
      go_wp2_with fail
      go_meet
      exact S
  case rest =>
    clear S Ra La Lg
    obtain ⟨W, rfl⟩ : ∃ W, W = wc := ⟨_, rfl⟩
    have S := hcut
    clear hcut
    have hlo := S.out.sz
    go_wp2_with fail
    refine (DrawDisposeQuestion_any A _ c W S.out.bytes hxl).mono ?_
    rintro e v15 ⟨Pb, pb, xb, Ob, ob, qb, rfl, r1, r2, hlb1, hlb2, hb⟩
    replace S := Lib.hid (S.out.call hb)
    have Rb := Lib.hid (r1.low hlo)
    have Lb := Lib.hid (r2.low hlo)
    clear hb r1 r2 hlo
    have hlo := S.out.sz
    go_wp2_with fail
    refine (DisposeQuestion_any _ _ xb _ _ qb _ (PA.of Rb.out.rd Lb.out.rd)).mono ?_
    rintro e v16 ⟨Og, og, rfl, r1, hb⟩
    replace S := Lib.hid (S.out.call hb)
    replace Rb := Lib.hid (Rb.out.call hb)
    replace Lb := Lib.hid (Lb.out.call hb)
    have Lg := Lib.hid (OwD.low (show OwD QuestionK 32 _ v16 Og og (disL xb qb) from r1) hlo)
    clear hb r1 hlo
    have Bg := Lib.hid (BT.new v16 #[.int .i64 (disQ xb qb).r, .int .i64 (disQ xb qb).m, .bool (disQ xb qb).s] 32 v16.heap.size rfl)
    have hbl := below1 v16 (.cells #[.int .i64 (disQ xb qb).r, .int .i64 (disQ xb qb).m, .bool (disQ xb qb).s] 32)
    replace S := Lib.hid (S.out.call hbl)
    replace Rb := Lib.hid (Rb.out.call hbl)
    replace Lb := Lib.hid (Lb.out.call hbl)
    replace Lg := Lib.hid (Lg.out.call hbl)
    clear hbl
    go_upto_region 18 with fail
    generalize (v16.alloc (.cells #[.int .i64 (disQ xb qb).r, .int .i64 (disQ xb qb).m, .bool (disQ xb qb).s] 32)) = v17 at *
    generalize v16.heap.size = bg at *
    have hlo := S.out.sz
    go_wp2_with fail
    refine (sDisposeQuestion_any _ _ xb _ _ qb _ (PA.of Rb.out.rd Lb.out.rd)).mono ?_
    rintro e v18 ⟨Oh, oh, rfl, r1, hb⟩
    replace S := Lib.hid (S.out.call hb)
    replace Rb := Lib.hid (Rb.out.call hb)
    replace Lb := Lib.hid (Lb.out.call hb)
    replace Lg := Lib.hid (Lg.out.call hb)
    replace Bg := Lib.hid (Bg.out.call hb)
    have Lh := Lib.hid (OwD.low (show OwD QuestionK 32 _ v18 Oh oh (disL xb qb) from r1) hlo)
    clear hb r1 hlo
    have Bh := Lib.hid (BT.new v18 #[.int .i64 (disQ xb qb).r, .int .i64 (disQ xb qb).m, .bool (disQ xb qb).s] 32 v18.heap.size rfl)
    have hbl := below1 v18 (.cells #[.int .i64 (disQ xb qb).r, .int .i64 (disQ xb qb).m, .bool (disQ xb qb).s] 32)
    replace S := Lib.hid (S.out.call hbl)
    replace Rb := Lib.hid (Rb.out.call hbl)
    replace Lb := Lib.hid (Lb.out.call hbl)
    replace Lg := Lib.hid (Lg.out.call hbl)
    replace Bg := Lib.hid (Bg.out.call hbl)
    replace Lh := Lib.hid (Lh.out.call hbl)
    clear hbl
    go_upto_region 19 with fail
    generalize (v18.alloc (.cells #[.int .i64 (disQ xb qb).r, .int .i64 (disQ xb qb).m, .bool (disQ xb qb).s] 32)) = v19 at *
    generalize v18.heap.size = bh at *
    have kb : (disB xb qb != disB xb qb) = false := by simp
    go_cut [26, 29, 189] (fun u v s wx => s = .bool false ∧ Hid (Lst w wx A xs.length))
    case first =>
      have bg0 := Bg.out.box.1 0 _ rfl
      have bg1 := Bg.out.box.1 1 _ rfl
      have bg2 := Bg.out.box.1 2 _ rfl
      have bh0 := Bh.out.box.1 0 _ rfl
      have bh1 := Bh.out.box.1 1 _ rfl
      have bh2 := Bh.out.box.1 2 _ rfl
      obtain ⟨z0, hz0⟩ : ∃ z0, disQ xb qb = z0 := ⟨_, rfl⟩
      rw [hz0] at bg0 bg1 bg2 bh0 bh1 bh2
      clear hz0
      rcases Bool.eq_false_or_eq_true (disB xb qb) with hk | hk
      · rw [hk]
        have TP := Lib.hid (dispose_law hk)
        clear hk
        go_wp2_with fail
        refine (vQuestions_same Lg.out.rd Lh.out.rd).mono ?_
        rintro e v20 ⟨rfl, hb⟩
        replace S := Lib.hid (S.out.call hb)
        replace Rb := Lib.hid (Rb.out.call hb)
        replace Lb := Lib.hid (Lb.out.call hb)
        replace Lg := Lib.hid (Lg.out.call hb)
        replace Bg := Lib.hid (Bg.out.call hb)
        replace Lh := Lib.hid (Lh.out.call hb)
        replace Bh := Lib.hid (Bh.out.call hb)
        clear hb
        go_wp2_with fail
        refine (pend_any (PA.of Rb.out.rd Lg.out.rd)).mono ?_
        rintro e v21 ⟨rfl, hb⟩
        rw [TP.out]
        replace S := Lib.hid (S.out.call hb)
        clear hb
        go_wp2_with fail
        go_meet
        exact ⟨rfl, S⟩
      · rw [hk]
        clear hk
        go_wp2_with fail
        refine (vQuestions_same Lg.out.rd Lh.out.rd).mono ?_
        rintro e v22 ⟨rfl, hb⟩
        replace S := Lib.hid (S.out.call hb)
        replace Rb := Lib.hid (Rb.out.call hb)
        replace Lb := Lib.hid (Lb.out.call hb)
        replace Lg := Lib.hid (Lg.out.call hb)
        replace Bg := Lib.hid (Bg.out.call hb)
        replace Lh := Lib.hid (Lh.out.call hb)
        replace Bh := Lib.hid (Bh.out.call hb)
        clear hb
        go_wp2_with fail
        go_meet
        exact ⟨rfl, S⟩
    clear S Bg Bh Rb Lb Lg Lh kb
    obtain ⟨W2, rfl⟩ : ∃ W, W = wc := ⟨_, rfl⟩
    obtain ⟨rfl, S⟩ := hcut
    have hlo := S.out.sz
    go_wp2_with fail
    refine (DrawDropUnseconded_any A _ c W2 S.out.bytes hxl).mono ?_
    rintro e v23 ⟨Pc, pc, xc, Oc, oc, qc, rfl, r1, r2, hlc1, hlc2, hb⟩
    replace S := Lib.hid (S.out.call hb)
    have Rc := Lib.hid (r1.low hlo)
    have Lc := Lib.hid (r2.low hlo)
    clear hb r1 r2 hlo
    have hlo := S.out.sz
    go_wp2_with fail
    refine (DropUnseconded_any _ _ xc _ _ qc _ (PA.of Rc.out.rd Lc.out.rd)).mono ?_
    rintro e v24 ⟨Og, og, rfl, r1, hb⟩
    replace S := Lib.hid (S.out.call hb)
    replace Rc := Lib.hid (Rc.out.call hb)
    replace Lc := Lib.hid (Lc.out.call hb)
    have Lg := Lib.hid (OwD.low (show OwD QuestionK 32 _ v24 Og og (dropL xc qc) from r1) hlo)
    clear hb r1 hlo
    obtain ⟨g2, Hg2⟩ : ∃ zz0, Hid (dropL xc qc = zz0) := ⟨_, Lib.hid rfl⟩
    rw [Hg2.out] at Lg ⊢
    have hlo := S.out.sz
    go_wp2_with fail
    refine (sDropUnseconded_any _ _ xc _ _ qc _ (PA.of Rc.out.rd Lc.out.rd)).mono ?_
    rintro e v25 ⟨Oh, oh, rfl, r1, hb⟩
    replace S := Lib.hid (S.out.call hb)
    replace Rc := Lib.hid (Rc.out.call hb)
    replace Lc := Lib.hid (Lc.out.call hb)
    replace Lg := Lib.hid (Lg.out.call hb)
    have Lh := Lib.hid (OwD.low (show OwD QuestionK 32 _ v25 Oh oh (dropL xc qc) from r1) hlo)
    clear hb r1 hlo
    rw [Hg2.out] at Lh ⊢
    have kb : (pendB xc qc != pendB xc qc) = false := by simp
    go_wp2_with fail
    refine (vQuestions_same Lg.out.rd Lh.out.rd).mono ?_
    rintro e v26 ⟨rfl, hb⟩
    replace S := Lib.hid (S.out.call hb)
    replace Rc := Lib.hid (Rc.out.call hb)
    replace Lc := Lib.hid (Lc.out.call hb)
    replace Lg := Lib.hid (Lg.out.call hb)
    replace Lh := Lib.hid (Lh.out.call hb)
    clear hb
    clear Lg Lh Rc Lc
    clear kb
    have hlo := S.out.sz
    go_wp2_with fail
    refine (DrawQuestionNames_any A _ c v26 S.out.bytes hxl).mono ?_
    rintro e v27 ⟨Pd, pd, xd, Od, od, qd, rfl, r1, r2, hld1, hld2, hb⟩
    replace S := Lib.hid (S.out.call hb)
    have Rd := Lib.hid (r1.low hlo)
    have Ld := Lib.hid (r2.low hlo)
    clear hb r1 r2 hlo
    have hlo := S.out.sz
    go_wp2_with fail
    refine (QuestionNames_any _ _ xd _ _ qd _ (PA.of Rd.out.rd Ld.out.rd)).mono ?_
    rintro e v28 ⟨Og, og, rfl, r1, hb⟩
    replace S := Lib.hid (S.out.call hb)
    replace Rd := Lib.hid (Rd.out.call hb)
    replace Ld := Lib.hid (Ld.out.call hb)
    have Lg := Lib.hid (OwD.low (show OwD StrK 9 _ v28 Og og (nmsL xd qd) from r1) hlo)
    clear hb r1 hlo
    obtain ⟨g3, Hg3⟩ : ∃ zz0, Hid (nmsL xd qd = zz0) := ⟨_, Lib.hid rfl⟩
    rw [Hg3.out] at Lg ⊢
    have hlo := S.out.sz
    go_wp2_with fail
    refine (sQuestionNames_any _ _ xd _ _ qd _ (PA.of Rd.out.rd Ld.out.rd)).mono ?_
    rintro e v29 ⟨Oh, oh, rfl, r1, hb⟩
    replace S := Lib.hid (S.out.call hb)
    replace Rd := Lib.hid (Rd.out.call hb)
    replace Ld := Lib.hid (Ld.out.call hb)
    replace Lg := Lib.hid (Lg.out.call hb)
    have Lh := Lib.hid (OwD.low (show OwD StrK 9 _ v29 Oh oh (nmsL xd qd) from r1) hlo)
    clear hb r1 hlo
    rw [Hg3.out] at Lh ⊢
    have kb : (pendB xd qd == pendB xd qd) = true := by simp
    go_wp2_with fail
    refine (vTexts_same Lg.out.rd Lh.out.rd).mono ?_
    rintro e v30 ⟨rfl, hb⟩
    replace S := Lib.hid (S.out.call hb)
    replace Rd := Lib.hid (Rd.out.call hb)
    replace Ld := Lib.hid (Ld.out.call hb)
    replace Lg := Lib.hid (Lg.out.call hb)
    replace Lh := Lib.hid (Lh.out.call hb)
    clear hb
    go_wp2_with (go_ret; exact ⟨rfl, S.out.on⟩)
end Go.Proofs.Ytifahgdalgjgfaa.fnSeconds
