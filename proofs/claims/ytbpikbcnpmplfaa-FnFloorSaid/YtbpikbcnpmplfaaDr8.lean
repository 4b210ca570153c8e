/- The draws of a member and of a floor. Conditions: the ranges named. -/
import Derived.Test.YtbpikbcnpmplfaaDr0
import Derived.Test.YtbpikbcnpmplfaaFa8
import Derived.Deep.DrawnRows
import Derived.Deep.Cut
import Derived.Deep.CutBlock
import Derived.Deep.CutRange
import Derived.Deep.DeepCutAuto
import Derived.Deep.MidRow
namespace Go.Proofs.Ytbpikbcnpmplfaa
open Go.RowKit
set_option linter.unusedVariables false
set_option linter.unusedSimpArgs false
attribute [local go_sem ↓] Go.wp_at_zero Go.wp_at_succ
open Ss3
theorem member_any (b : Nat) (A : Option Addr) (n c m : Nat) (w : World) (h : Cur w b A n c m) (hm : m ≤ 1000000) :
    Calls Try.prog 72 #[.pointer (some ⟨b, 0, none⟩)] w fun e w' => (∃ x : Int, e = .returned (.int .i64 x) ∧ 0 ≤ x ∧ x ≤ 100) ∧ Cur w' b A n c (m + 1) ∧ Only b (b + 1) w w' := by
  have hb0 := h.lt
  have S := Lib.hid (Std.start h)
  clear h
  go_enter Try.func72, Try.ntmps72
  have HL := Lib.hid (lit_cellsI w [1, 2, 3, 4, 5, 99, 1, 2, 3, 0, 100] 3 w.heap.size rfl)
  have HLb : w.heap.size ≠ b := by have := S.out.bw; omega
  have hbl := below1 w (.cells ((([1, 2, 3, 4, 5, 99, 1, 2, 3, 0, 100] : List Int).map (Value.int .i64)).toArray) 3)
  replace S := Lib.hid (S.out.call hbl)
  clear hbl
  go_wp2_with fail
  refine (among_any [1, 2, 3, 4, 5, 99, 1, 2, 3, 0, 100] (some ⟨w.heap.size, 0, none⟩) 11 (by simp) (by simp) b A n c _ _ S.out.cur (by omega) HL.out (fun a ha => by obtain rfl := Option.some.inj ha; exact HLb)).mono ?_
  rintro e v1 ⟨⟨x, rfl, hx⟩, hc, ho⟩
  replace S := Lib.hid (S.out.draw hc ho)
  clear hc ho HL HLb 
  have hx2 : 0 ≤ x ∧ x ≤ 100 := by simp at hx; omega
  clear hx
  go_wp2
  go_ret
  exact ⟨⟨x, rfl, hx2⟩, S.out.cur, S.out.on⟩

set_option maxRecDepth 100000 in
set_option maxHeartbeats 8000000 in
theorem floor_any (b : Nat) (A : Option Addr) (n c m : Nat) (w : World) (h : Cur w b A n c m) (hm : m ≤ 500000) :
    Calls Try.prog 69 #[.pointer (some ⟨b, 0, none⟩)] w fun e w' => ∃ (P : Option Addr) (p : Nat) (D : Option Addr) (d : Nat) (f : Flr), e = .returned (.agg #[.int .i64 f.t, .int .i64 f.s, .int .i64 f.sp, .slice P f.wt.length p, .slice D f.sh.length d]) ∧ OwF w.heap.size w'.heap.size w' P p D d f ∧ f.wt.length ≤ 60 ∧ f.sh.length ≤ 60 ∧ Cur w' b A n c (m + 100) ∧ Only b (b + 1) w w' := by
  have hb0 := h.lt
  have S := Lib.hid ((Std.start h).alloc (.cells #[.int .i64 0, .int .i64 0, .int .i64 0, .slice none 0 0, .slice none 0 0] 29))
  have Z := Lib.hid (BT.new w #[.int .i64 0, .int .i64 0, .int .i64 0, .slice none 0 0, .slice none 0 0] 29 w.heap.size rfl)
  clear h
  go_enter Try.func69, Try.ntmps69
  go_upto_region 1 with fail
  generalize (w.alloc (.cells #[.int .i64 0, .int .i64 0, .int .i64 0, .slice none 0 0, .slice none 0 0] 29)) = v1 at *
  go_wp2_with fail
  refine (pick_any 3 (by omega) (by omega) b A n c _ _ S.out.cur (by omega)).mono ?_
  rintro e v2 ⟨⟨x, rfl, hx⟩, hc, ho⟩
  replace S := Lib.hid (S.out.draw hc ho)
  replace Z := Lib.hid (Z.out.draw ho (by omega))
  clear hc ho 
  have q1 : IntKind.i64.wrap (1 + (x : Int)) = 1 + (x : Int) := by rw [IntKind.wrap_i64]; omega
  have HL := Lib.hid (lit_cellsI v2 [1, 10, 60, 300, 3600] 3 v2.heap.size rfl)
  have HLb : v2.heap.size ≠ b := by have := S.out.bw; omega
  have hbl := below1 v2 (.cells ((([1, 10, 60, 300, 3600] : List Int).map (Value.int .i64)).toArray) 3)
  replace S := Lib.hid (S.out.call hbl)
  replace Z := Lib.hid (Z.out.call hbl)
  clear hbl
  go_wp2_with fail
  refine (among_any [1, 10, 60, 300, 3600] (some ⟨v2.heap.size, 0, none⟩) 5 (by simp) (by simp) b A n c _ _ S.out.cur (by omega) HL.out (fun a ha => by obtain rfl := Option.some.inj ha; exact HLb)).mono ?_
  rintro e v3 ⟨⟨y, rfl, hy⟩, hc, ho⟩
  replace S := Lib.hid (S.out.draw hc ho)
  replace Z := Lib.hid (Z.out.draw ho (by omega))
  clear hc ho HL HLb 
  have hlo := S.out.sz
  go_wp2_with fail
  refine (sNewFloor_any (1 + (x : Int)) y v3).mono ?_
  rintro e v4 ⟨P, p, D, d, rfl, o1, o2, hb⟩
  replace S := Lib.hid (S.out.call hb)
  replace Z := Lib.hid (Z.out.call hb)
  have O1 := Lib.hid (OwD.low (show OwD IntK 3 _ v4 P p _ from o1) hlo)
  have O2 := Lib.hid (OwD.low (show OwD ShareK 43 _ v4 D d _ from o2) hlo)
  clear o1 o2
  clear hb 
  obtain ⟨f, hf⟩ : ∃ f, nfF (1 + (x : Int)) y = f := ⟨_, rfl⟩
  have HL0 := Lib.hid (nfF_len (1 + (x : Int)) y)
  rw [hf] at HL0 O1 O2 ⊢
  clear hf hlo q1 hx hy
  have hq1 := Z.out.lt
  have X := Lib.hid (BT.new v4 #[.int .i64 f.t, .int .i64 f.s, .int .i64 f.sp, .slice P f.wt.length p, .slice D f.sh.length d] 29 v4.heap.size rfl)
  have hbl := below1 v4 (.cells #[.int .i64 f.t, .int .i64 f.s, .int .i64 f.sp, .slice P f.wt.length p, .slice D f.sh.length d] 29)
  replace S := Lib.hid (S.out.call hbl)
  replace Z := Lib.hid (Z.out.call hbl)
  replace O1 := Lib.hid (O1.out.call hbl)
  replace O2 := Lib.hid (O2.out.call hbl)
  clear hbl
  go_upto_region 2 with fail
  generalize (v4.alloc (.cells #[.int .i64 f.t, .int .i64 f.s, .int .i64 f.sp, .slice P f.wt.length p, .slice D f.sh.length d] 29)) = v5 at *
  generalize v4.heap.size = q1 at *
  go_wp2_with fail
  refine (pick_any 14 (by omega) (by omega) b A n c _ _ S.out.cur (by omega)).mono ?_
  rintro e v6 ⟨⟨k, rfl, hk⟩, hc, ho⟩
  replace S := Lib.hid (S.out.draw hc ho)
  replace Z := Lib.hid (Z.out.draw ho (by omega))
  replace O1 := Lib.hid (O1.out.draw ho (by omega))
  replace O2 := Lib.hid (O2.out.draw ho (by omega))
  replace X := Lib.hid (X.out.draw ho (by omega))
  clear hc ho 
  go_wp2
  go_loopw [5] (fun i wr => ∃ (j m2 : Nat) (P : Option Addr) (p : Nat) (D : Option Addr) (d : Nat) (f : Flr), i = .int .i64 j ∧ j ≤ 13 ∧ m2 + 3 * j ≤ m + 45 ∧ f.wt.length + j ≤ 13 ∧ f.sh.length + 2 * j ≤ 26 ∧ Hid (Std w wr b A n c m2) ∧ Hid (BT wr w.heap.size 29 [.int .i64 0, .int .i64 0, .int .i64 0, .slice none 0 0, .slice none 0 0]) ∧ Hid (BT wr q1 29 [.int .i64 f.t, .int .i64 f.s, .int .i64 f.sp, .slice P f.wt.length p, .slice D f.sh.length d]) ∧ Hid (OwD IntK 3 w.heap.size wr P p f.wt) ∧ Hid (OwD ShareK 43 w.heap.size wr D d f.sh)) (fun i _ => (intOf i).toNat)
  case atStart => exact ⟨k, _, P, p, D, d, f, rfl, by omega, by omega, by rw [HL0.out.1]; simp; omega, by rw [HL0.out.2]; simp; omega, S, Z, X, O1, O2⟩
  case round =>
    clear S Z X O1 O2 HL0 hk
    obtain ⟨wq, hwq⟩ : ∃ x : World, x = wr := ⟨_, rfl⟩
    subst hwq
    obtain ⟨j, m2, P, p, D, d, f, rfl, hj, hm2, hl1, hl2, S, Z, X, O1, O2⟩ := hrel
    rcases Nat.eq_zero_or_pos j with h0 | h0
    · subst h0
      go_wp2_with fail
      refine (pick_any 24 (by omega) (by omega) b A n c _ _ S.out.cur (by omega)).mono ?_
      rintro e v7 ⟨⟨y, rfl, hy⟩, hc, ho⟩
      replace S := Lib.hid (S.out.draw hc ho)
      replace Z := Lib.hid (Z.out.draw ho (by omega))
      replace X := Lib.hid (X.out.draw ho (by omega))
      replace O1 := Lib.hid (O1.out.draw ho (by omega))
      replace O2 := Lib.hid (O2.out.draw ho (by omega))
      clear hc ho 
      go_upto_block 3 with fail
      go_cut [] (fun wx => ∃ (m2 : Nat) (P : Option Addr) (p : Nat) (D : Option Addr) (d : Nat) (f : Flr), m2 ≤ m + 60 ∧ f.wt.length ≤ 20 ∧ f.sh.length ≤ 40 ∧ Hid (Std w wx b A n c m2) ∧ Hid (BT wx w.heap.size 29 [.int .i64 0, .int .i64 0, .int .i64 0, .slice none 0 0, .slice none 0 0]) ∧ Hid (BT wx q1 29 [.int .i64 f.t, .int .i64 f.s, .int .i64 f.sp, .slice P f.wt.length p, .slice D f.sh.length d]) ∧ Hid (OwD IntK 3 w.heap.size wx P p f.wt) ∧ Hid (OwD ShareK 43 w.heap.size wx D d f.sh))
      case first =>
        rcases (show y = 0 ∨ y = 1 ∨ y = 2 ∨ y = 3 ∨ 4 ≤ y by omega) with rfl | rfl | rfl | rfl | hy4
        · skip
          have HL := Lib.hid (lit_cellsI v7 [0, 1, 4] 3 v7.heap.size rfl)
          have HLb : v7.heap.size ≠ b := by have := S.out.bw; omega
          have hbl := below1 v7 (.cells ((([0, 1, 4] : List Int).map (Value.int .i64)).toArray) 3)
          replace S := Lib.hid (S.out.call hbl)
          replace Z := Lib.hid (Z.out.call hbl)
          replace X := Lib.hid (X.out.call hbl)
          replace O1 := Lib.hid (O1.out.call hbl)
          replace O2 := Lib.hid (O2.out.call hbl)
          clear hbl
          go_wp2_with fail
          refine (among_any [0, 1, 4] (some ⟨v7.heap.size, 0, none⟩) 3 (by simp) (by simp) b A n c _ _ S.out.cur (by omega) HL.out (fun a ha => by obtain rfl := Option.some.inj ha; exact HLb)).mono ?_
          rintro e v8 ⟨⟨z, rfl, hz⟩, hc, ho⟩
          replace S := Lib.hid (S.out.draw hc ho)
          replace Z := Lib.hid (Z.out.draw ho (by omega))
          replace X := Lib.hid (X.out.draw ho (by omega))
          replace O1 := Lib.hid (O1.out.draw ho (by omega))
          replace O2 := Lib.hid (O2.out.draw ho (by omega))
          clear hc ho HL HLb 
          have x0 := X.out.box.1 0 _ rfl
          have x1 := X.out.box.1 1 _ rfl
          have x2 := X.out.box.1 2 _ rfl
          have x3 := X.out.box.1 3 _ rfl
          have x4 := X.out.box.1 4 _ rfl
          have xf := X.out.box.2
          have S9 := Lib.hid (S.out.set ⟨q1, 0, none⟩ (by show _ ≤ q1; omega) (.int .i64 z))
          have Z9 := Lib.hid (Z.out.far ⟨q1, 0, none⟩ (.int .i64 z) (by show _ ≠ q1; omega))
          have X9 := Lib.hid (show BT (v8.setCell ⟨q1, 0, none⟩ (.int .i64 z)) q1 29 [.int .i64 z, .int .i64 f.s, .int .i64 f.sp, .slice P f.wt.length p, .slice D f.sh.length d] from (X.out.set 0 (by simp) (.int .i64 z)))
          have O19 := Lib.hid (O1.out.set X.out.ty (by decide) 0 (.int .i64 z))
          have O29 := Lib.hid (O2.out.set X.out.ty (by decide) 0 (.int .i64 z))
          replace S := S9
          clear S9
          replace Z := Z9
          clear Z9
          replace X := X9
          clear X9
          replace O1 := O19
          clear O19
          replace O2 := O29
          clear O29
          go_wp2_with fail
          go_meet
          exact ⟨_, P, p, D, d, ⟨z, f.s, f.sp, f.wt, f.sh⟩, by omega, by (first | omega | (simp; omega)), by (first | omega | (simp; omega)), S, Z, X, O1, O2⟩
        · skip
          have x0 := X.out.box.1 0 _ rfl
          have x1 := X.out.box.1 1 _ rfl
          have x2 := X.out.box.1 2 _ rfl
          have x3 := X.out.box.1 3 _ rfl
          have x4 := X.out.box.1 4 _ rfl
          have hlo := S.out.sz
          go_wp2_with fail
          refine (l1Own_any P p f.wt v7 O1.out.rd.cells (by omega)).mono ?_
          rintro e v9 ⟨Q, q, rfl, oq, hb⟩
          replace S := Lib.hid (S.out.call hb)
          replace Z := Lib.hid (Z.out.call hb)
          replace X := Lib.hid (X.out.call hb)
          replace O1 := Lib.hid (O1.out.call hb)
          replace O2 := Lib.hid (O2.out.call hb)
          have N1 := Lib.hid (OwD.low (show OwD IntK 3 _ v9 Q q _ from oq) hlo)
          clear oq
          clear hb x0 x1 x2 x3 x4
          go_wp2_with fail
          refine (member_any b A n c _ _ S.out.cur (by omega)).mono ?_
          rintro e v10 ⟨⟨z, rfl, hz⟩, hc, ho⟩
          replace S := Lib.hid (S.out.draw hc ho)
          replace Z := Lib.hid (Z.out.draw ho (by omega))
          replace X := Lib.hid (X.out.draw ho (by omega))
          replace O1 := Lib.hid (O1.out.draw ho (by omega))
          replace O2 := Lib.hid (O2.out.draw ho (by omega))
          replace N1 := Lib.hid (N1.out.draw ho (by omega))
          clear hc ho 
          have HL := Lib.hid (lit_cellsI v10 [z] 3 v10.heap.size rfl)
          have hbl := below1 v10 (.cells #[.int .i64 z] 3)
          replace S := Lib.hid (S.out.call hbl)
          replace Z := Lib.hid (Z.out.call hbl)
          replace X := Lib.hid (X.out.call hbl)
          replace O1 := Lib.hid (O1.out.call hbl)
          replace O2 := Lib.hid (O2.out.call hbl)
          replace N1 := Lib.hid (N1.out.call hbl)
          clear hbl
          have hlz := S.out.sz
          go_wp2_with (at_builtin; go_must (refine list_append_gr elInt _ rfl _ _ rfl w.heap.size Q _ q f.wt.length 1 1 (IntK.row f.wt) (IntK.row [z]) rfl rfl rfl N1.out.1 HL.out int_one hlz (by omega) ?_); intro Q3 q3 v11 own hb hg; have HX3 := X.out.grow N1.out.1 (by decide) hg; have x3 := HX3.box.1 3 _ rfl; have x4 := HX3.box.1 4 _ rfl; have xf := HX3.box.2; clear HX3; have HG := Lib.hid hg; have HW := Lib.hid own; clear own hb hg)
          clear O1
          replace S := Lib.hid (S.out.grow N1.out.1 (by omega) HG.out)
          replace Z := Lib.hid (Z.out.grow N1.out.1 (by decide) HG.out)
          replace X := Lib.hid (X.out.grow N1.out.1 (by decide) HG.out)
          replace O2 := Lib.hid (O2.out.grow N1.out.1 (by decide) HG.out)
          have N3 := Lib.hid (show OwD IntK 3 w.heap.size v11 Q3 q3 (f.wt ++ [z]) from Ow.mk (K := IntK) (by rw [List.length_append, List.length_singleton, Kd.row_append]; exact HW.out) (by simp; omega) (fun _ _ => trivial))
          clear HG HW N1 HL hlz x3 x4 xf
          have S9 := Lib.hid (S.out.set ⟨q1, 3, none⟩ (by show _ ≤ q1; omega) (.slice Q3 (f.wt.length + 1) q3))
          have Z9 := Lib.hid (Z.out.far ⟨q1, 3, none⟩ (.slice Q3 (f.wt.length + 1) q3) (by show _ ≠ q1; omega))
          have X9 := Lib.hid (show BT (v11.setCell ⟨q1, 3, none⟩ (.slice Q3 (f.wt.length + 1) q3)) q1 29 [.int .i64 f.t, .int .i64 f.s, .int .i64 f.sp, .slice Q3 (f.wt.length + 1) q3, .slice D f.sh.length d] from (X.out.set 3 (by simp) (.slice Q3 (f.wt.length + 1) q3)))
          have O29 := Lib.hid (O2.out.set X.out.ty (by decide) 3 (.slice Q3 (f.wt.length + 1) q3))
          have N39 := Lib.hid (N3.out.set X.out.ty (by decide) 3 (.slice Q3 (f.wt.length + 1) q3))
          replace S := S9
          clear S9
          replace Z := Z9
          clear Z9
          replace X := X9
          clear X9
          replace O2 := O29
          clear O29
          replace N3 := N39
          clear N39
          go_meet
          exact ⟨_, Q3, q3, D, d, ⟨f.t, f.s, f.sp, f.wt ++ [z], f.sh⟩, by omega, by (simp; omega), by (first | exact hl2 | (simp; omega)), S, Z, (show Hid (BT _ q1 29 [.int .i64 f.t, .int .i64 f.s, .int .i64 f.sp, .slice Q3 (f.wt ++ [z]).length q3, .slice D f.sh.length d]) by rw [List.length_append, List.length_singleton]; exact X), N3, O2⟩
        · skip
          go_wp2_with fail
          refine (member_any b A n c _ _ S.out.cur (by omega)).mono ?_
          rintro e v12 ⟨⟨z, rfl, hz⟩, hc, ho⟩
          replace S := Lib.hid (S.out.draw hc ho)
          replace Z := Lib.hid (Z.out.draw ho (by omega))
          replace X := Lib.hid (X.out.draw ho (by omega))
          replace O1 := Lib.hid (O1.out.draw ho (by omega))
          replace O2 := Lib.hid (O2.out.draw ho (by omega))
          clear hc ho 
          have x0 := X.out.box.1 0 _ rfl
          have x1 := X.out.box.1 1 _ rfl
          have x2 := X.out.box.1 2 _ rfl
          have x3 := X.out.box.1 3 _ rfl
          have x4 := X.out.box.1 4 _ rfl
          have xf := X.out.box.2
          have S9 := Lib.hid (S.out.set ⟨q1, 2, none⟩ (by show _ ≤ q1; omega) (.int .i64 z))
          have Z9 := Lib.hid (Z.out.far ⟨q1, 2, none⟩ (.int .i64 z) (by show _ ≠ q1; omega))
          have X9 := Lib.hid (show BT (v12.setCell ⟨q1, 2, none⟩ (.int .i64 z)) q1 29 [.int .i64 f.t, .int .i64 f.s, .int .i64 z, .slice P f.wt.length p, .slice D f.sh.length d] from (X.out.set 2 (by simp) (.int .i64 z)))
          have O19 := Lib.hid (O1.out.set X.out.ty (by decide) 2 (.int .i64 z))
          have O29 := Lib.hid (O2.out.set X.out.ty (by decide) 2 (.int .i64 z))
          replace S := S9
          clear S9
          replace Z := Z9
          clear Z9
          replace X := X9
          clear X9
          replace O1 := O19
          clear O19
          replace O2 := O29
          clear O29
          go_wp2_with fail
          go_meet
          exact ⟨_, P, p, D, d, ⟨f.t, f.s, z, f.wt, f.sh⟩, by omega, by (first | omega | (simp; omega)), by (first | omega | (simp; omega)), S, Z, X, O1, O2⟩
        · skip
          have hlo := S.out.sz
          have HN := Lib.hid (own_nil_lit v7 w.heap.size v7.heap.size 43 3 rfl hlo)
          have hbl := below1 v7 (.cells #[] 43)
          replace S := Lib.hid (S.out.call hbl)
          replace Z := Lib.hid (Z.out.call hbl)
          replace X := Lib.hid (X.out.call hbl)
          replace O1 := Lib.hid (O1.out.call hbl)
          replace O2 := Lib.hid (O2.out.call hbl)
          clear hbl
          have x0 := X.out.box.1 0 _ rfl
          have x1 := X.out.box.1 1 _ rfl
          have x2 := X.out.box.1 2 _ rfl
          have x3 := X.out.box.1 3 _ rfl
          have x4 := X.out.box.1 4 _ rfl
          have hlz := S.out.sz
          go_wp2_with (at_builtin; go_must (refine list_append_lit elShare _ rfl _ _ rfl w.heap.size v7.heap.size D f.sh.length d (ShareK.row f.sh) rfl rfl (ShareK.row_len f.sh) HN.out O2.out.rd.cells share_one hlz (by omega) ?_); intro Q q v13 own hb hsep; have HW := Lib.hid own; have HG := Lib.hid hb; clear own hb hsep)
          replace S := Lib.hid (S.out.call HG.out)
          replace Z := Lib.hid (Z.out.call HG.out)
          replace X := Lib.hid (X.out.call HG.out)
          replace O1 := Lib.hid (O1.out.call HG.out)
          replace O2 := Lib.hid (O2.out.call HG.out)
          have N1 := Lib.hid (show OwD ShareK 43 w.heap.size v13 Q q f.sh from Ow.mk (K := ShareK) HW.out (by omega) (fun _ _ => trivial))
          clear HW HG HN hlz hlo x0 x1 x2 x3 x4
          clear O2
          have HL := Lib.hid (lit_cellsI v13 [7, 99, 100] 3 v13.heap.size rfl)
          have HLb : v13.heap.size ≠ b := by have := S.out.bw; omega
          have hbl := below1 v13 (.cells ((([7, 99, 100] : List Int).map (Value.int .i64)).toArray) 3)
          replace S := Lib.hid (S.out.call hbl)
          replace Z := Lib.hid (Z.out.call hbl)
          replace X := Lib.hid (X.out.call hbl)
          replace O1 := Lib.hid (O1.out.call hbl)
          replace N1 := Lib.hid (N1.out.call hbl)
          clear hbl
          refine (among_any [7, 99, 100] (some ⟨v13.heap.size, 0, none⟩) 3 (by simp) (by simp) b A n c _ _ S.out.cur (by omega) HL.out (fun a ha => by obtain rfl := Option.some.inj ha; exact HLb)).mono ?_
          rintro e v14 ⟨⟨z1, rfl, hz1⟩, hc, ho⟩
          replace S := Lib.hid (S.out.draw hc ho)
          replace Z := Lib.hid (Z.out.draw ho (by omega))
          replace X := Lib.hid (X.out.draw ho (by omega))
          replace O1 := Lib.hid (O1.out.draw ho (by omega))
          replace N1 := Lib.hid (N1.out.draw ho (by omega))
          clear hc ho HL HLb 
          go_wp2_with fail
          refine (pick_any 4 (by omega) (by omega) b A n c _ _ S.out.cur (by omega)).mono ?_
          rintro e v15 ⟨⟨z2, rfl, hz2⟩, hc, ho⟩
          replace S := Lib.hid (S.out.draw hc ho)
          replace Z := Lib.hid (Z.out.draw ho (by omega))
          replace X := Lib.hid (X.out.draw ho (by omega))
          replace O1 := Lib.hid (O1.out.draw ho (by omega))
          replace N1 := Lib.hid (N1.out.draw ho (by omega))
          clear hc ho 
          have HL := Lib.hid (lit_cellsI v15 [0, 1, 3600] 3 v15.heap.size rfl)
          have HLb : v15.heap.size ≠ b := by have := S.out.bw; omega
          have hbl := below1 v15 (.cells ((([0, 1, 3600] : List Int).map (Value.int .i64)).toArray) 3)
          replace S := Lib.hid (S.out.call hbl)
          replace Z := Lib.hid (Z.out.call hbl)
          replace X := Lib.hid (X.out.call hbl)
          replace O1 := Lib.hid (O1.out.call hbl)
          replace N1 := Lib.hid (N1.out.call hbl)
          clear hbl
          go_wp2_with fail
          refine (among_any [0, 1, 3600] (some ⟨v15.heap.size, 0, none⟩) 3 (by simp) (by simp) b A n c _ _ S.out.cur (by omega) HL.out (fun a ha => by obtain rfl := Option.some.inj ha; exact HLb)).mono ?_
          rintro e v16 ⟨⟨z3, rfl, hz3⟩, hc, ho⟩
          replace S := Lib.hid (S.out.draw hc ho)
          replace Z := Lib.hid (Z.out.draw ho (by omega))
          replace X := Lib.hid (X.out.draw ho (by omega))
          replace O1 := Lib.hid (O1.out.draw ho (by omega))
          replace N1 := Lib.hid (N1.out.draw ho (by omega))
          clear hc ho HL HLb 
          have HL := Lib.hid (show Cells _ _ (ShareK.row [⟨z1, (z2 : Int), z3⟩]) from cells_arr v16 #[.int .i64 z1, .int .i64 z2, .int .i64 z3] 43 v16.heap.size rfl)
          have hbl := below1 v16 (.cells #[.int .i64 z1, .int .i64 z2, .int .i64 z3] 43)
          replace S := Lib.hid (S.out.call hbl)
          replace Z := Lib.hid (Z.out.call hbl)
          replace X := Lib.hid (X.out.call hbl)
          replace O1 := Lib.hid (O1.out.call hbl)
          replace N1 := Lib.hid (N1.out.call hbl)
          clear hbl
          have hlz := S.out.sz
          go_wp2_with (at_builtin; go_must (refine list_append_gr elShare _ rfl _ _ rfl w.heap.size Q _ q f.sh.length 1 1 (ShareK.row f.sh) (ShareK.row [⟨z1, (z2 : Int), z3⟩]) rfl rfl rfl N1.out.1 HL.out share_one hlz (by omega) ?_); intro Q3 q3 v17 own hb hg; have HX3 := X.out.grow N1.out.1 (by decide) hg; have x3 := HX3.box.1 3 _ rfl; have x4 := HX3.box.1 4 _ rfl; have xf := HX3.box.2; clear HX3; have HG := Lib.hid hg; have HW := Lib.hid own; clear own hb hg)
          replace S := Lib.hid (S.out.grow N1.out.1 (by omega) HG.out)
          replace Z := Lib.hid (Z.out.grow N1.out.1 (by decide) HG.out)
          replace X := Lib.hid (X.out.grow N1.out.1 (by decide) HG.out)
          replace O1 := Lib.hid (O1.out.grow N1.out.1 (by decide) HG.out)
          have N3 := Lib.hid (show OwD ShareK 43 w.heap.size v17 Q3 q3 (f.sh ++ [⟨z1, (z2 : Int), z3⟩]) from Ow.mk (K := ShareK) (by rw [List.length_append, List.length_singleton, Kd.row_append]; exact HW.out) (by simp; omega) (fun _ _ => trivial))
          clear HG HW N1 HL hlz x3 x4 xf
          have S9 := Lib.hid (S.out.set ⟨q1, 4, none⟩ (by show _ ≤ q1; omega) (.slice Q3 (f.sh.length + 1) q3))
          have Z9 := Lib.hid (Z.out.far ⟨q1, 4, none⟩ (.slice Q3 (f.sh.length + 1) q3) (by show _ ≠ q1; omega))
          have X9 := Lib.hid (show BT (v17.setCell ⟨q1, 4, none⟩ (.slice Q3 (f.sh.length + 1) q3)) q1 29 [.int .i64 f.t, .int .i64 f.s, .int .i64 f.sp, .slice P f.wt.length p, .slice Q3 (f.sh.length + 1) q3] from (X.out.set 4 (by simp) (.slice Q3 (f.sh.length + 1) q3)))
          have O19 := Lib.hid (O1.out.set X.out.ty (by decide) 4 (.slice Q3 (f.sh.length + 1) q3))
          have N39 := Lib.hid (N3.out.set X.out.ty (by decide) 4 (.slice Q3 (f.sh.length + 1) q3))
          replace S := S9
          clear S9
          replace Z := Z9
          clear Z9
          replace X := X9
          clear X9
          replace O1 := O19
          clear O19
          replace N3 := N39
          clear N39
          go_meet
          exact ⟨_, P, p, Q3, q3, ⟨f.t, f.s, f.sp, f.wt, f.sh ++ [⟨z1, (z2 : Int), z3⟩]⟩, by omega, by (first | omega | (simp; omega)), by (simp; omega), S, Z, (show Hid (BT _ q1 29 [.int .i64 f.t, .int .i64 f.s, .int .i64 f.sp, .slice P f.wt.length p, .slice Q3 (f.sh ++ [(⟨z1, (z2 : Int), z3⟩ : Shr)]).length q3]) by rw [List.length_append, List.length_singleton]; exact X), O1, N3⟩
        · skip
          have e0 : ((y : Int) == 0) = false := by simp; omega
          have e1 : ((y : Int) == 1) = false := by simp; omega
          have e2 : ((y : Int) == 2) = false := by simp; omega
          have e3 : ((y : Int) == 3) = false := by simp; omega
          go_wp2_with fail
          go_meet
          exact ⟨_, P, p, D, d, f, by omega, by (first | omega | (simp; omega)), by (first | omega | (simp; omega)), S, Z, X, O1, O2⟩
      case rest =>
        clear S Z X O1 O2 hl1 hl2 hm2
        obtain ⟨W, rfl⟩ : ∃ W, W = wc := ⟨_, rfl⟩
        obtain ⟨m2, P, p, D, d, f, hm2, hl1, hl2, S, Z, X, O1, O2⟩ := hcut
        go_wp2_with fail
        refine (one_any 24 (by omega) (by omega) b A n c _ _ S.out.cur (by omega)).mono ?_
        rintro e v18 ⟨⟨z, rfl⟩, hc, ho⟩
        replace S := Lib.hid (S.out.draw hc ho)
        replace Z := Lib.hid (Z.out.draw ho (by omega))
        replace X := Lib.hid (X.out.draw ho (by omega))
        replace O1 := Lib.hid (O1.out.draw ho (by omega))
        replace O2 := Lib.hid (O2.out.draw ho (by omega))
        clear hc ho 
        rcases Bool.eq_false_or_eq_true z with hz | hz
        · subst hz
          go_wp2
          go_loopw [8] (fun i wr => ∃ (k m3 : Nat) (P : Option Addr) (p : Nat) (D : Option Addr) (d : Nat) (f : Flr), i = .int .i64 k ∧ 20 ≤ k ∧ k ≤ 40 ∧ m3 + 40 ≤ m + 81 + k ∧ f.wt.length ≤ k ∧ f.sh.length ≤ 40 ∧ Hid (Std w wr b A n c m3) ∧ Hid (BT wr w.heap.size 29 [.int .i64 0, .int .i64 0, .int .i64 0, .slice none 0 0, .slice none 0 0]) ∧ Hid (BT wr q1 29 [.int .i64 f.t, .int .i64 f.s, .int .i64 f.sp, .slice P f.wt.length p, .slice D f.sh.length d]) ∧ Hid (OwD IntK 3 w.heap.size wr P p f.wt) ∧ Hid (OwD ShareK 43 w.heap.size wr D d f.sh)) (fun i _ => 40 - (intOf i).toNat)
          case atStart => exact ⟨20, _, P, p, D, d, f, rfl, by omega, by omega, by omega, by omega, by omega, S, Z, X, O1, O2⟩
          case round =>
            clear S Z X O1 O2 hl1 hl2 hm2
            obtain ⟨wq, hwq⟩ : ∃ x : World, x = wr := ⟨_, rfl⟩
            subst hwq
            obtain ⟨k, m3, P, p, D, d, f, rfl, hk1, hk2, hm3, hl1, hl2, S, Z, X, O1, O2⟩ := hrel
            go_upto_region 29 with fail
            have KX : ∀ {w'' : World}, BT w'' q1 29 [.int .i64 f.t, .int .i64 f.s, .int .i64 f.sp, .slice P f.wt.length p, .slice D f.sh.length d] → (w''.cell? ⟨q1, 0, none⟩ = some (.int .i64 f.t) ∧ w''.cell? ⟨q1, 1, none⟩ = some (.int .i64 f.s) ∧ w''.cell? ⟨q1, 2, none⟩ = some (.int .i64 f.sp) ∧ w''.cell? ⟨q1, 3, none⟩ = some (.slice P f.wt.length p) ∧ w''.cell? ⟨q1, 4, none⟩ = some (.slice D f.sh.length d)) := fun h => ⟨h.box.1 0 _ rfl, h.box.1 1 _ rfl, h.box.1 2 _ rfl, h.box.1 3 _ rfl, h.box.1 4 _ rfl⟩
            refine wp_region_noPanic ?_
            refine wp_region_held_drew (S := (fun w'' => w''.cell? ⟨q1, 0, none⟩ = some (.int .i64 f.t) ∧ w''.cell? ⟨q1, 1, none⟩ = some (.int .i64 f.s) ∧ w''.cell? ⟨q1, 2, none⟩ = some (.int .i64 f.sp) ∧ w''.cell? ⟨q1, 3, none⟩ = some (.slice P f.wt.length p) ∧ w''.cell? ⟨q1, 4, none⟩ = some (.slice D f.sh.length d))) (by kernel_rfl) ?_ (fun hHeld => ?_)
            · ((try dsimp only); exact KX ⟨X.out.box.drew, Ty.below X.out.ty (Below.refl _ _).drew X.out.lt⟩)
            replace S := Lib.hid (S.out.call (show Below wq.heap.size wq wq.drew from (Below.refl _ _).drew))
            replace Z := Lib.hid (Z.out.call (show Below wq.heap.size wq wq.drew from (Below.refl _ _).drew))
            replace X := Lib.hid (X.out.call (show Below wq.heap.size wq wq.drew from (Below.refl _ _).drew))
            replace O1 := Lib.hid (O1.out.call (show Below wq.heap.size wq wq.drew from (Below.refl _ _).drew))
            replace O2 := Lib.hid (O2.out.call (show Below wq.heap.size wq wq.drew from (Below.refl _ _).drew))
            generalize wq.drew = v19 at *
            refine take_yes (i := 0) (d := 109) (v := ?_) rfl rfl (by kernel_rfl) (by kernel_rfl) (by kernel_rfl) (fun _ _ _ h => h) (by kernel_rfl) ?_ hHeld ?_
            rotate_left
            · (intro w hSw; (try dsimp only at hSw); go_simp; try (with_reducible rfl))
            try simp only [Act.put, List.setIfInBounds_toArray, List.set_cons_zero, List.set_cons_succ]
            refine take_yes (i := 1) (d := 110) (v := ?_) rfl rfl (by kernel_rfl) (by kernel_rfl) (by kernel_rfl) (fun _ _ _ h => h) (by kernel_rfl) ?_ hHeld ?_
            rotate_left
            · (intro w hSw; (try dsimp only at hSw); go_simp; try (with_reducible rfl))
            try simp only [Act.put, List.setIfInBounds_toArray, List.set_cons_zero, List.set_cons_succ]
            refine take_yes (i := 2) (d := 111) (v := ?_) rfl rfl (by kernel_rfl) (by kernel_rfl) (by kernel_rfl) (fun _ _ _ h => h) (by kernel_rfl) ?_ hHeld ?_
            rotate_left
            · (intro w hSw; (try dsimp only at hSw); go_simp; try (with_reducible rfl))
            try simp only [Act.put, List.setIfInBounds_toArray, List.set_cons_zero, List.set_cons_succ]
            refine take_yes (i := 3) (d := 112) (v := ?_) rfl rfl (by kernel_rfl) (by kernel_rfl) (by kernel_rfl) (fun _ _ _ h => h) (by kernel_rfl) ?_ hHeld ?_
            rotate_left
            · (intro w hSw; (try dsimp only at hSw); go_simp; try (with_reducible rfl))
            try simp only [Act.put, List.setIfInBounds_toArray, List.set_cons_zero, List.set_cons_succ]
            refine wpAnyH_ready (rs := [4]) (by kernel_rfl) (by simp) ?_
            refine AllReadyH.cons rfl (fun K hK => ?_) (AllReadyH.nil)
            go_simp
            (go_at_call 71; refine (pick_any 2 (by omega) (by omega) b A n c _ _ S.out.cur (by omega)).mono ?_; rintro e v20 ⟨⟨t, rfl, ht⟩, hc, ho⟩; have HC := Lib.hid hc; have HO := Lib.hid ho; clear hc ho)
            have X0 := X
            replace X := Lib.hid (X.out.draw HO.out (by omega))
            (first | refine hK.out _ _ ?_ (fun hHeld1 => ?_) | (go_wp2_with fail; refine hK.out _ _ ?_ (fun hHeld1 => ?_)))
            · ((try dsimp only); exact KX X.out)
            clear hK K hHeld
            have hHeld := hHeld1
            clear hHeld1
            try simp only [Act.put, List.setIfInBounds_toArray, List.set_cons_zero, List.set_cons_succ]
            clear X0
            replace S := Lib.hid (S.out.draw HC.out HO.out)
            replace Z := Lib.hid (Z.out.draw HO.out (by omega))
            replace O1 := Lib.hid (O1.out.draw HO.out (by omega))
            replace O2 := Lib.hid (O2.out.draw HO.out (by omega))
            clear HC HO
            have qt : IntKind.i64.wrap (10 + (t : Int)) = 10 + (t : Int) := by rw [IntKind.wrap_i64]; omega
            by_cases hlt : (f.wt.length : Int) < 10 + (t : Int)
            · have hd : decide ((f.wt.length : Int) < 10 + (t : Int)) = true := decide_eq_true hlt
              by_cases hk4 : k < 40
              · have hk5 : (k : Int) < 40 := by omega
                refine take_yes (i := 5) (d := 114) (v := ?_) rfl rfl (by kernel_rfl) (by kernel_rfl) (by kernel_rfl) (fun _ _ _ h => h) (by kernel_rfl) ?_ hHeld ?_
                rotate_left
                · (intro w hSw; (try dsimp only at hSw); go_simp; try (with_reducible rfl))
                try simp only [Act.put, List.setIfInBounds_toArray, List.set_cons_zero, List.set_cons_succ]
                refine take_yes (i := 6) (d := 115) (v := ?_) rfl rfl (by kernel_rfl) (by kernel_rfl) (by kernel_rfl) (fun _ _ _ h => h) (by kernel_rfl) ?_ hHeld ?_
                rotate_left
                · (intro w hSw; (try dsimp only at hSw); go_simp; try (with_reducible rfl))
                try simp only [Act.put, List.setIfInBounds_toArray, List.set_cons_zero, List.set_cons_succ]
                refine take_yes (i := 7) (d := 116) (v := ?_) rfl rfl (by kernel_rfl) (by kernel_rfl) (by kernel_rfl) (fun _ _ _ h => h) (by kernel_rfl) ?_ hHeld ?_
                rotate_left
                · (intro w hSw; (try dsimp only at hSw); go_simp; try (with_reducible rfl))
                try simp only [Act.put, List.setIfInBounds_toArray, List.set_cons_zero, List.set_cons_succ]
                refine take_yes (i := 8) (d := 117) (v := ?_) rfl rfl (by kernel_rfl) (by kernel_rfl) (by kernel_rfl) (fun _ _ _ h => h) (by kernel_rfl) ?_ hHeld ?_
                rotate_left
                · (intro w hSw; (try dsimp only at hSw); go_simp; try (with_reducible rfl))
                try simp only [Act.put, List.setIfInBounds_toArray, List.set_cons_zero, List.set_cons_succ]
                refine take_yes (i := 9) (d := 118) (v := ?_) rfl rfl (by kernel_rfl) (by kernel_rfl) (by kernel_rfl) (fun _ _ _ h => h) (by kernel_rfl) ?_ hHeld ?_
                rotate_left
                · (intro w hSw; (try dsimp only at hSw); go_simp; try (with_reducible rfl))
                try simp only [Act.put, List.setIfInBounds_toArray, List.set_cons_zero, List.set_cons_succ]
                refine take_yes (i := 10) (d := 119) (v := ?_) rfl rfl (by kernel_rfl) (by kernel_rfl) (by kernel_rfl) (fun _ _ _ h => h) (by kernel_rfl) ?_ hHeld ?_
                rotate_left
                · (intro w hSw; (try dsimp only at hSw); go_simp; try (with_reducible rfl))
                try simp only [Act.put, List.setIfInBounds_toArray, List.set_cons_zero, List.set_cons_succ]
                refine wpAnyH_done (by kernel_rfl) ?_ _
                refine NoPanic.normal ?_
                clear hHeld
                have x0 := X.out.box.1 0 _ rfl
                have x1 := X.out.box.1 1 _ rfl
                have x2 := X.out.box.1 2 _ rfl
                have x3 := X.out.box.1 3 _ rfl
                have x4 := X.out.box.1 4 _ rfl
                have hlo := S.out.sz
                have q4 : IntKind.i64.wrap ((k : Int) + 1) = ((k + 1 : Nat) : Int) := by rw [IntKind.wrap_i64]; omega
                go_wp2_with fail
                refine (l1Own_any P p f.wt v20 O1.out.rd.cells (by omega)).mono ?_
                rintro e v21 ⟨Q, q, rfl, oq, hb⟩
                replace S := Lib.hid (S.out.call hb)
                replace Z := Lib.hid (Z.out.call hb)
                replace X := Lib.hid (X.out.call hb)
                replace O1 := Lib.hid (O1.out.call hb)
                replace O2 := Lib.hid (O2.out.call hb)
                have N1 := Lib.hid (OwD.low (show OwD IntK 3 _ v21 Q q _ from oq) hlo)
                clear oq
                clear hb x0 x1 x2 x3 x4
                have HL := Lib.hid (lit_cellsI v21 [(k : Int)] 3 v21.heap.size rfl)
                have hbl := below1 v21 (.cells #[.int .i64 (k : Int)] 3)
                replace S := Lib.hid (S.out.call hbl)
                replace Z := Lib.hid (Z.out.call hbl)
                replace X := Lib.hid (X.out.call hbl)
                replace O1 := Lib.hid (O1.out.call hbl)
                replace O2 := Lib.hid (O2.out.call hbl)
                replace N1 := Lib.hid (N1.out.call hbl)
                clear hbl
                have hlz := S.out.sz
                go_wp2_with (at_builtin; go_must (refine list_append_gr elInt _ rfl _ _ rfl w.heap.size Q _ q f.wt.length 1 1 (IntK.row f.wt) (IntK.row [(k : Int)]) rfl rfl rfl N1.out.1 HL.out int_one hlz (by omega) ?_); intro Q3 q3 v22 own hb hg; have HX3 := X.out.grow N1.out.1 (by decide) hg; have x3 := HX3.box.1 3 _ rfl; have x4 := HX3.box.1 4 _ rfl; have xf := HX3.box.2; clear HX3; have HG := Lib.hid hg; have HW := Lib.hid own; clear own hb hg)
                clear O1
                replace S := Lib.hid (S.out.grow N1.out.1 (by omega) HG.out)
                replace Z := Lib.hid (Z.out.grow N1.out.1 (by decide) HG.out)
                replace X := Lib.hid (X.out.grow N1.out.1 (by decide) HG.out)
                replace O2 := Lib.hid (O2.out.grow N1.out.1 (by decide) HG.out)
                have N3 := Lib.hid (show OwD IntK 3 w.heap.size v22 Q3 q3 (f.wt ++ [(k : Int)]) from Ow.mk (K := IntK) (by rw [List.length_append, List.length_singleton, Kd.row_append]; exact HW.out) (by simp; omega) (fun _ _ => trivial))
                clear HG HW N1 HL hlz x3 x4 xf
                have S9 := Lib.hid (S.out.set ⟨q1, 3, none⟩ (by show _ ≤ q1; omega) (.slice Q3 (f.wt.length + 1) q3))
                have Z9 := Lib.hid (Z.out.far ⟨q1, 3, none⟩ (.slice Q3 (f.wt.length + 1) q3) (by show _ ≠ q1; omega))
                have X9 := Lib.hid (show BT (v22.setCell ⟨q1, 3, none⟩ (.slice Q3 (f.wt.length + 1) q3)) q1 29 [.int .i64 f.t, .int .i64 f.s, .int .i64 f.sp, .slice Q3 (f.wt.length + 1) q3, .slice D f.sh.length d] from (X.out.set 3 (by simp) (.slice Q3 (f.wt.length + 1) q3)))
                have O29 := Lib.hid (O2.out.set X.out.ty (by decide) 3 (.slice Q3 (f.wt.length + 1) q3))
                have N39 := Lib.hid (N3.out.set X.out.ty (by decide) 3 (.slice Q3 (f.wt.length + 1) q3))
                replace S := S9
                clear S9
                replace Z := Z9
                clear Z9
                replace X := X9
                clear X9
                replace O2 := O29
                clear O29
                replace N3 := N39
                clear N39
                go_roundw
                case rel => exact ⟨k + 1, _, Q3, q3, D, d, ⟨f.t, f.s, f.sp, f.wt ++ [(k : Int)], f.sh⟩, by go_num, by omega, by omega, by omega, by (simp; omega), by (first | exact hl2 | (simp; omega)), S, Z, (show Hid (BT _ q1 29 [.int .i64 f.t, .int .i64 f.s, .int .i64 f.sp, .slice Q3 (f.wt ++ [(k : Int)]).length q3, .slice D f.sh.length d]) by rw [List.length_append, List.length_singleton]; exact X), N3, O2⟩
                case measure => (first | (simp [intOf]; done) | (simp [intOf]; omega))
              · have hk5 : ¬ (k : Int) < 40 := by omega
                have hd5 : decide ((k : Int) < 40) = false := decide_eq_false hk5
                refine take_yes (i := 5) (d := 114) (v := ?_) rfl rfl (by kernel_rfl) (by kernel_rfl) (by kernel_rfl) (fun _ _ _ h => h) (by kernel_rfl) ?_ hHeld ?_
                rotate_left
                · (intro w hSw; (try dsimp only at hSw); go_simp; try (with_reducible rfl))
                try simp only [Act.put, List.setIfInBounds_toArray, List.set_cons_zero, List.set_cons_succ]
                refine take_yes (i := 6) (d := 115) (v := ?_) rfl rfl (by kernel_rfl) (by kernel_rfl) (by kernel_rfl) (fun _ _ _ h => h) (by kernel_rfl) ?_ hHeld ?_
                rotate_left
                · (intro w hSw; (try dsimp only at hSw); go_simp; try (with_reducible rfl))
                try simp only [Act.put, List.setIfInBounds_toArray, List.set_cons_zero, List.set_cons_succ]
                refine take_yes (i := 7) (d := 116) (v := ?_) rfl rfl (by kernel_rfl) (by kernel_rfl) (by kernel_rfl) (fun _ _ _ h => h) (by kernel_rfl) ?_ hHeld ?_
                rotate_left
                · (intro w hSw; (try dsimp only at hSw); go_simp; try (with_reducible rfl))
                try simp only [Act.put, List.setIfInBounds_toArray, List.set_cons_zero, List.set_cons_succ]
                refine take_yes (i := 8) (d := 117) (v := ?_) rfl rfl (by kernel_rfl) (by kernel_rfl) (by kernel_rfl) (fun _ _ _ h => h) (by kernel_rfl) ?_ hHeld ?_
                rotate_left
                · (intro w hSw; (try dsimp only at hSw); go_simp; try (with_reducible rfl))
                try simp only [Act.put, List.setIfInBounds_toArray, List.set_cons_zero, List.set_cons_succ]
                refine take_yes (i := 9) (d := 118) (v := ?_) rfl rfl (by kernel_rfl) (by kernel_rfl) (by kernel_rfl) (fun _ _ _ h => h) (by kernel_rfl) ?_ hHeld ?_
                rotate_left
                · (intro w hSw; (try dsimp only at hSw); go_simp; try (with_reducible rfl))
                try simp only [Act.put, List.setIfInBounds_toArray, List.set_cons_zero, List.set_cons_succ]
                refine take_yes (i := 10) (d := 119) (v := ?_) rfl rfl (by kernel_rfl) (by kernel_rfl) (by kernel_rfl) (fun _ _ _ h => h) (by kernel_rfl) ?_ hHeld ?_
                rotate_left
                · (intro w hSw; (try dsimp only at hSw); go_simp; try (with_reducible rfl))
                try simp only [Act.put, List.setIfInBounds_toArray, List.set_cons_zero, List.set_cons_succ]
                refine wpAnyH_done (by kernel_rfl) ?_ _
                refine NoPanic.normal ?_
                clear hHeld
                go_upto_region 32 with fail
                go_wp2_with (first | (refine wpList_load_mid rfl 29 _ rfl q1 0 rfl [.int .i64 f.t, .int .i64 f.s, .int .i64 f.sp, .slice P f.wt.length p, .slice D f.sh.length d] _ X.out.rng Try.underlying29 rfl (by kernel_rfl) ?_) | ((refine wpList_store_mid rfl 29 _ _ rfl w.heap.size 0 #[.int .i64 f.t, .int .i64 f.s, .int .i64 f.sp, .slice P f.wt.length p, .slice D f.sh.length d] rfl rfl Z.out.there (by kernel_rfl) (by simp [Value.oneCell']) ?_); replace S := Lib.hid (S.out.puts (q := w.heap.size) (by omega) 0 [.int .i64 f.t, .int .i64 f.s, .int .i64 f.sp, .slice P f.wt.length p, .slice D f.sh.length d]); replace X := Lib.hid (X.out.putsfar w.heap.size (by omega) 0 [.int .i64 f.t, .int .i64 f.s, .int .i64 f.sp, .slice P f.wt.length p, .slice D f.sh.length d]); replace O1 := Lib.hid (O1.out.puts Z.out.ty (by decide) 0 [.int .i64 f.t, .int .i64 f.s, .int .i64 f.sp, .slice P f.wt.length p, .slice D f.sh.length d]); replace O2 := Lib.hid (O2.out.puts Z.out.ty (by decide) 0 [.int .i64 f.t, .int .i64 f.s, .int .i64 f.sp, .slice P f.wt.length p, .slice D f.sh.length d]); replace Z := Lib.hid (Z.out.puts [.int .i64 f.t, .int .i64 f.s, .int .i64 f.sp, .slice P f.wt.length p, .slice D f.sh.length d] (by rfl)); have KS := Z.out.box; have k0 := KS.1 0 _ rfl; have k1 := KS.1 1 _ rfl; have k2 := KS.1 2 _ rfl; have k3 := KS.1 3 _ rfl; have k4 := KS.1 4 _ rfl; clear KS) | (refine bodyPost_ret (v := .agg #[.int .i64 f.t, .int .i64 f.s, .int .i64 f.sp, .slice P f.wt.length p, .slice D f.sh.length d]) (by simp [results, Try.results69, go_sem, k0, k1, k2, k3, k4]) rfl ?_; exact ⟨P, p, D, d, f, rfl, ⟨O1.out, O2.out⟩, (by omega), (by omega), S.out.cur.mono (by omega), S.out.on⟩))
            · have hd : decide ((f.wt.length : Int) < 10 + (t : Int)) = false := decide_eq_false hlt
              refine take_yes (i := 5) (d := 114) (v := ?_) rfl rfl (by kernel_rfl) (by kernel_rfl) (by kernel_rfl) (fun _ _ _ h => h) (by kernel_rfl) ?_ hHeld ?_
              rotate_left
              · (intro w hSw; (try dsimp only at hSw); go_simp; try (with_reducible rfl))
              try simp only [Act.put, List.setIfInBounds_toArray, List.set_cons_zero, List.set_cons_succ]
              refine take_yes (i := 6) (d := 115) (v := ?_) rfl rfl (by kernel_rfl) (by kernel_rfl) (by kernel_rfl) (fun _ _ _ h => h) (by kernel_rfl) ?_ hHeld ?_
              rotate_left
              · (intro w hSw; (try dsimp only at hSw); go_simp; try (with_reducible rfl))
              try simp only [Act.put, List.setIfInBounds_toArray, List.set_cons_zero, List.set_cons_succ]
              refine take_yes (i := 7) (d := 116) (v := ?_) rfl rfl (by kernel_rfl) (by kernel_rfl) (by kernel_rfl) (fun _ _ _ h => h) (by kernel_rfl) ?_ hHeld ?_
              rotate_left
              · (intro w hSw; (try dsimp only at hSw); go_simp; try (with_reducible rfl))
              try simp only [Act.put, List.setIfInBounds_toArray, List.set_cons_zero, List.set_cons_succ]
              refine take_no (i := 8) (d := 117) rfl rfl (by kernel_rfl) (by kernel_rfl) (by kernel_rfl) (fun _ _ _ h => h) (by kernel_rfl) hHeld ?_
              try simp only [Act.put, List.setIfInBounds_toArray, List.set_cons_zero, List.set_cons_succ]
              refine take_no (i := 9) (d := 118) rfl rfl (by kernel_rfl) (by kernel_rfl) (by kernel_rfl) (fun _ _ _ h => h) (by kernel_rfl) hHeld ?_
              try simp only [Act.put, List.setIfInBounds_toArray, List.set_cons_zero, List.set_cons_succ]
              refine take_yes (i := 10) (d := 119) (v := ?_) rfl rfl (by kernel_rfl) (by kernel_rfl) (by kernel_rfl) (fun _ _ _ h => h) (by kernel_rfl) ?_ hHeld ?_
              rotate_left
              · (intro w hSw; (try dsimp only at hSw); go_simp; try (with_reducible rfl))
              try simp only [Act.put, List.setIfInBounds_toArray, List.set_cons_zero, List.set_cons_succ]
              refine wpAnyH_done (by kernel_rfl) ?_ _
              refine NoPanic.normal ?_
              clear hHeld
              go_upto_region 32 with fail
              go_wp2_with (first | (refine wpList_load_mid rfl 29 _ rfl q1 0 rfl [.int .i64 f.t, .int .i64 f.s, .int .i64 f.sp, .slice P f.wt.length p, .slice D f.sh.length d] _ X.out.rng Try.underlying29 rfl (by kernel_rfl) ?_) | ((refine wpList_store_mid rfl 29 _ _ rfl w.heap.size 0 #[.int .i64 f.t, .int .i64 f.s, .int .i64 f.sp, .slice P f.wt.length p, .slice D f.sh.length d] rfl rfl Z.out.there (by kernel_rfl) (by simp [Value.oneCell']) ?_); replace S := Lib.hid (S.out.puts (q := w.heap.size) (by omega) 0 [.int .i64 f.t, .int .i64 f.s, .int .i64 f.sp, .slice P f.wt.length p, .slice D f.sh.length d]); replace X := Lib.hid (X.out.putsfar w.heap.size (by omega) 0 [.int .i64 f.t, .int .i64 f.s, .int .i64 f.sp, .slice P f.wt.length p, .slice D f.sh.length d]); replace O1 := Lib.hid (O1.out.puts Z.out.ty (by decide) 0 [.int .i64 f.t, .int .i64 f.s, .int .i64 f.sp, .slice P f.wt.length p, .slice D f.sh.length d]); replace O2 := Lib.hid (O2.out.puts Z.out.ty (by decide) 0 [.int .i64 f.t, .int .i64 f.s, .int .i64 f.sp, .slice P f.wt.length p, .slice D f.sh.length d]); replace Z := Lib.hid (Z.out.puts [.int .i64 f.t, .int .i64 f.s, .int .i64 f.sp, .slice P f.wt.length p, .slice D f.sh.length d] (by rfl)); have KS := Z.out.box; have k0 := KS.1 0 _ rfl; have k1 := KS.1 1 _ rfl; have k2 := KS.1 2 _ rfl; have k3 := KS.1 3 _ rfl; have k4 := KS.1 4 _ rfl; clear KS) | (refine bodyPost_ret (v := .agg #[.int .i64 f.t, .int .i64 f.s, .int .i64 f.sp, .slice P f.wt.length p, .slice D f.sh.length d]) (by simp [results, Try.results69, go_sem, k0, k1, k2, k3, k4]) rfl ?_; exact ⟨P, p, D, d, f, rfl, ⟨O1.out, O2.out⟩, (by omega), (by omega), S.out.cur.mono (by omega), S.out.on⟩))
        · subst hz
          go_upto_region 32 with fail
          go_wp2_with (first | (refine wpList_load_mid rfl 29 _ rfl q1 0 rfl [.int .i64 f.t, .int .i64 f.s, .int .i64 f.sp, .slice P f.wt.length p, .slice D f.sh.length d] _ X.out.rng Try.underlying29 rfl (by kernel_rfl) ?_) | ((refine wpList_store_mid rfl 29 _ _ rfl w.heap.size 0 #[.int .i64 f.t, .int .i64 f.s, .int .i64 f.sp, .slice P f.wt.length p, .slice D f.sh.length d] rfl rfl Z.out.there (by kernel_rfl) (by simp [Value.oneCell']) ?_); replace S := Lib.hid (S.out.puts (q := w.heap.size) (by omega) 0 [.int .i64 f.t, .int .i64 f.s, .int .i64 f.sp, .slice P f.wt.length p, .slice D f.sh.length d]); replace X := Lib.hid (X.out.putsfar w.heap.size (by omega) 0 [.int .i64 f.t, .int .i64 f.s, .int .i64 f.sp, .slice P f.wt.length p, .slice D f.sh.length d]); replace O1 := Lib.hid (O1.out.puts Z.out.ty (by decide) 0 [.int .i64 f.t, .int .i64 f.s, .int .i64 f.sp, .slice P f.wt.length p, .slice D f.sh.length d]); replace O2 := Lib.hid (O2.out.puts Z.out.ty (by decide) 0 [.int .i64 f.t, .int .i64 f.s, .int .i64 f.sp, .slice P f.wt.length p, .slice D f.sh.length d]); replace Z := Lib.hid (Z.out.puts [.int .i64 f.t, .int .i64 f.s, .int .i64 f.sp, .slice P f.wt.length p, .slice D f.sh.length d] (by rfl)); have KS := Z.out.box; have k0 := KS.1 0 _ rfl; have k1 := KS.1 1 _ rfl; have k2 := KS.1 2 _ rfl; have k3 := KS.1 3 _ rfl; have k4 := KS.1 4 _ rfl; clear KS) | (refine bodyPost_ret (v := .agg #[.int .i64 f.t, .int .i64 f.s, .int .i64 f.sp, .slice P f.wt.length p, .slice D f.sh.length d]) (by simp [results, Try.results69, go_sem, k0, k1, k2, k3, k4]) rfl ?_; exact ⟨P, p, D, d, f, rfl, ⟨O1.out, O2.out⟩, (by omega), (by omega), S.out.cur.mono (by omega), S.out.on⟩))
    · have i0 : (0 : Int) < (j : Int) := by omega
      have q2 : IntKind.i64.wrap ((j : Int) - 1) = ((j - 1 : Nat) : Int) := by rw [IntKind.wrap_i64]; omega
      have x0 := X.out.box.1 0 _ rfl
      have x1 := X.out.box.1 1 _ rfl
      have x2 := X.out.box.1 2 _ rfl
      have x3 := X.out.box.1 3 _ rfl
      have x4 := X.out.box.1 4 _ rfl
      have hq6 := X.out.lt
      have Y := Lib.hid (BT.new wq #[.int .i64 f.t, .int .i64 f.s, .int .i64 f.sp, .slice P f.wt.length p, .slice D f.sh.length d] 29 wq.heap.size rfl)
      have hbl := below1 wq (.cells #[.int .i64 f.t, .int .i64 f.s, .int .i64 f.sp, .slice P f.wt.length p, .slice D f.sh.length d] 29)
      replace S := Lib.hid (S.out.call hbl)
      replace Z := Lib.hid (Z.out.call hbl)
      replace X := Lib.hid (X.out.call hbl)
      replace O1 := Lib.hid (O1.out.call hbl)
      replace O2 := Lib.hid (O2.out.call hbl)
      clear hbl
      go_upto_region 6 with fail
      clear x0 x1 x2 x3 x4
      generalize (wq.alloc (.cells #[.int .i64 f.t, .int .i64 f.s, .int .i64 f.sp, .slice P f.wt.length p, .slice D f.sh.length d] 29)) = v23 at *
      generalize wq.heap.size = q6 at *
      go_wp2_with fail
      refine (pick_any 6 (by omega) (by omega) b A n c _ _ S.out.cur (by omega)).mono ?_
      rintro e v24 ⟨⟨x, rfl, hx⟩, hc, ho⟩
      replace S := Lib.hid (S.out.draw hc ho)
      replace Z := Lib.hid (Z.out.draw ho (by omega))
      replace X := Lib.hid (X.out.draw ho (by omega))
      replace O1 := Lib.hid (O1.out.draw ho (by omega))
      replace O2 := Lib.hid (O2.out.draw ho (by omega))
      replace Y := Lib.hid (Y.out.draw ho (by omega))
      clear hc ho 
      have KX : ∀ {w'' : World}, BT w'' q1 29 [.int .i64 f.t, .int .i64 f.s, .int .i64 f.sp, .slice P f.wt.length p, .slice D f.sh.length d] → (w''.cell? ⟨q1, 0, none⟩ = some (.int .i64 f.t) ∧ w''.cell? ⟨q1, 1, none⟩ = some (.int .i64 f.s) ∧ w''.cell? ⟨q1, 2, none⟩ = some (.int .i64 f.sp) ∧ w''.cell? ⟨q1, 3, none⟩ = some (.slice P f.wt.length p) ∧ w''.cell? ⟨q1, 4, none⟩ = some (.slice D f.sh.length d)) := fun h => ⟨h.box.1 0 _ rfl, h.box.1 1 _ rfl, h.box.1 2 _ rfl, h.box.1 3 _ rfl, h.box.1 4 _ rfl⟩
      rcases (show x = 0 ∨ x = 1 ∨ x = 2 ∨ x = 3 ∨ x = 4 ∨ x = 5 by omega) with rfl | rfl | rfl | rfl | rfl | rfl
      · skip
        go_upto_region 10 with fail
        have x0 := X.out.box.1 0 _ rfl
        have x1 := X.out.box.1 1 _ rfl
        have x2 := X.out.box.1 2 _ rfl
        have x3 := X.out.box.1 3 _ rfl
        have x4 := X.out.box.1 4 _ rfl
        clear x0 x1 x2 x3 x4
        refine wp_region_noPanic ?_
        refine wp_region_held_drew (S := (fun w'' => w''.cell? ⟨q1, 0, none⟩ = some (.int .i64 f.t) ∧ w''.cell? ⟨q1, 1, none⟩ = some (.int .i64 f.s) ∧ w''.cell? ⟨q1, 2, none⟩ = some (.int .i64 f.sp) ∧ w''.cell? ⟨q1, 3, none⟩ = some (.slice P f.wt.length p) ∧ w''.cell? ⟨q1, 4, none⟩ = some (.slice D f.sh.length d))) (by kernel_rfl) ?_ (fun hHeld => ?_)
        · ((try dsimp only); exact KX ⟨X.out.box.drew, Ty.below X.out.ty (Below.refl _ _).drew X.out.lt⟩)
        replace S := Lib.hid (S.out.call (show Below v24.heap.size v24 v24.drew from (Below.refl _ _).drew))
        replace Z := Lib.hid (Z.out.call (show Below v24.heap.size v24 v24.drew from (Below.refl _ _).drew))
        replace X := Lib.hid (X.out.call (show Below v24.heap.size v24 v24.drew from (Below.refl _ _).drew))
        replace O1 := Lib.hid (O1.out.call (show Below v24.heap.size v24 v24.drew from (Below.refl _ _).drew))
        replace O2 := Lib.hid (O2.out.call (show Below v24.heap.size v24 v24.drew from (Below.refl _ _).drew))
        replace Y := Lib.hid (Y.out.call (show Below v24.heap.size v24 v24.drew from (Below.refl _ _).drew))
        generalize v24.drew = v25 at *
        refine take_yes (i := 0) (d := 37) (v := ?_) rfl rfl (by kernel_rfl) (by kernel_rfl) (by kernel_rfl) (fun _ _ _ h => h) (by kernel_rfl) ?_ hHeld ?_
        rotate_left
        · (intro w hSw; (try dsimp only at hSw); go_simp; try (with_reducible rfl))
        try simp only [Act.put, List.setIfInBounds_toArray, List.set_cons_zero, List.set_cons_succ]
        refine take_yes (i := 1) (d := 38) (v := ?_) rfl rfl (by kernel_rfl) (by kernel_rfl) (by kernel_rfl) (fun _ _ _ h => h) (by kernel_rfl) ?_ hHeld ?_
        rotate_left
        · (intro w hSw; (try dsimp only at hSw); go_simp; try (with_reducible rfl))
        try simp only [Act.put, List.setIfInBounds_toArray, List.set_cons_zero, List.set_cons_succ]
        refine wpAnyH_ready (rs := [2]) (by kernel_rfl) (by simp) ?_
        refine AllReadyH.cons rfl (fun K hK => ?_) (AllReadyH.nil)
        go_simp
        (go_at_call 71; refine (pick_any 6 (by omega) (by omega) b A n c _ _ S.out.cur (by omega)).mono ?_; rintro e v26 ⟨⟨y, rfl, hy⟩, hc, ho⟩; have HC := Lib.hid hc; have HO := Lib.hid ho; clear hc ho)
        replace X := Lib.hid (X.out.draw HO.out (by omega))
        (first | refine hK.out _ _ ?_ (fun hHeld1 => ?_) | (go_wp2_with fail; refine hK.out _ _ ?_ (fun hHeld1 => ?_)))
        · ((try dsimp only); exact KX X.out)
        clear hK K hHeld
        have hHeld := hHeld1
        clear hHeld1
        try simp only [Act.put, List.setIfInBounds_toArray, List.set_cons_zero, List.set_cons_succ]
        replace S := Lib.hid (S.out.draw HC.out HO.out)
        replace Z := Lib.hid (Z.out.draw HO.out (by omega))
        replace O1 := Lib.hid (O1.out.draw HO.out (by omega))
        replace O2 := Lib.hid (O2.out.draw HO.out (by omega))
        replace Y := Lib.hid (Y.out.draw HO.out (by omega))
        clear HC HO
        have qy : IntKind.i64.wrap (1 + (y : Int)) = 1 + (y : Int) := by rw [IntKind.wrap_i64]; omega
        refine take_yes (i := 3) (d := 40) (v := ?_) rfl rfl (by kernel_rfl) (by kernel_rfl) (by kernel_rfl) (fun _ _ _ h => h) (by kernel_rfl) ?_ hHeld ?_
        rotate_left
        · (intro w hSw; (try dsimp only at hSw); go_simp; try (with_reducible rfl))
        try simp only [Act.put, List.setIfInBounds_toArray, List.set_cons_zero, List.set_cons_succ]
        refine wpAnyH_ready (rs := [4]) (by kernel_rfl) (by simp) ?_
        refine AllReadyH.cons rfl (fun K hK => ?_) (AllReadyH.nil)
        have hlo := S.out.sz
        go_simp
        (go_at_call 32; refine (rAskFloor ⟨O1.out.rd, O2.out.rd⟩ (1 + (y : Int))).mono ?_; rintro e v27 ⟨P2, p2, D2, d2, rfl, o1, o2, hb⟩; have HB := Lib.hid hb; clear hb)
        replace X := Lib.hid (X.out.call HB.out)
        (first | refine hK.out _ _ ?_ (fun hHeld1 => ?_) | (go_wp2_with fail; refine hK.out _ _ ?_ (fun hHeld1 => ?_)))
        · ((try dsimp only); exact KX X.out)
        clear hK K hHeld
        have hHeld := hHeld1
        clear hHeld1
        try simp only [Act.put, List.setIfInBounds_toArray, List.set_cons_zero, List.set_cons_succ]
        replace S := Lib.hid (S.out.call HB.out)
        replace Z := Lib.hid (Z.out.call HB.out)
        replace O1 := Lib.hid (O1.out.call HB.out)
        replace O2 := Lib.hid (O2.out.call HB.out)
        replace Y := Lib.hid (Y.out.call HB.out)
        clear HB
        have N1 := Lib.hid (OwD.low (show OwD IntK 3 _ v27 P2 p2 (asF f (1 + (y : Int))).wt from o1) hlo)
        have N2 := Lib.hid (OwD.low (show OwD ShareK 43 _ v27 D2 d2 (asF f (1 + (y : Int))).sh from o2) hlo)
        clear o1 o2 hlo
        refine take_yes (i := 5) (d := 36) (v := ?_) rfl rfl (by kernel_rfl) (by kernel_rfl) (by kernel_rfl) (fun _ _ _ h => h) (by kernel_rfl) ?_ hHeld ?_
        rotate_left
        · (intro w hSw; (try dsimp only at hSw); go_simp; try (with_reducible rfl))
        try simp only [Act.put, List.setIfInBounds_toArray, List.set_cons_zero, List.set_cons_succ]
        refine take_yes (i := 6) (d := 42) (v := ?_) rfl rfl (by kernel_rfl) (by kernel_rfl) (by kernel_rfl) (fun _ _ _ h => h) (by kernel_rfl) ?_ hHeld ?_
        rotate_left
        · (intro w hSw; (try dsimp only at hSw); go_simp; try (with_reducible rfl))
        try simp only [Act.put, List.setIfInBounds_toArray, List.set_cons_zero, List.set_cons_succ]
        refine take_yes (i := 7) (d := 43) (v := ?_) rfl rfl (by kernel_rfl) (by kernel_rfl) (by kernel_rfl) (fun _ _ _ h => h) (by kernel_rfl) ?_ hHeld ?_
        rotate_left
        · (intro w hSw; (try dsimp only at hSw); go_simp; try (with_reducible rfl))
        try simp only [Act.put, List.setIfInBounds_toArray, List.set_cons_zero, List.set_cons_succ]
        refine wpAnyH_ready (rs := [8]) (by kernel_rfl) (by simp) ?_
        refine AllReadyH.cons rfl (fun K hK => ?_) (AllReadyH.nil)
        have hsc : v27.setCells q6 0 (#[.int .i64 (asF f (1 + (y : Int))).t, .int .i64 (asF f (1 + (y : Int))).s, .int .i64 (asF f (1 + (y : Int))).sp, .slice P2 (asF f (1 + (y : Int))).wt.length p2, .slice D2 (asF f (1 + (y : Int))).sh.length d2] : Array Value).toList = v27.setCells q6 0 [.int .i64 (asF f (1 + (y : Int))).t, .int .i64 (asF f (1 + (y : Int))).s, .int .i64 (asF f (1 + (y : Int))).sp, .slice P2 (asF f (1 + (y : Int))).wt.length p2, .slice D2 (asF f (1 + (y : Int))).sh.length d2] := rfl
        rw [if_pos (by kernel_rfl)]
        refine wp_store_mid 29 _ _ (by rfl) q6 0 #[.int .i64 (asF f (1 + (y : Int))).t, .int .i64 (asF f (1 + (y : Int))).s, .int .i64 (asF f (1 + (y : Int))).sp, .slice P2 (asF f (1 + (y : Int))).wt.length p2, .slice D2 (asF f (1 + (y : Int))).sh.length d2] (by rfl) (by rfl) Y.out.there (by kernel_rfl) (by simp [Value.oneCell']) ?_
        rw [hsc]
        clear hsc
        replace S := Lib.hid (S.out.puts (q := q6) (by omega) 0 [.int .i64 (asF f (1 + (y : Int))).t, .int .i64 (asF f (1 + (y : Int))).s, .int .i64 (asF f (1 + (y : Int))).sp, .slice P2 (asF f (1 + (y : Int))).wt.length p2, .slice D2 (asF f (1 + (y : Int))).sh.length d2])
        replace Z := Lib.hid (Z.out.putsfar q6 (by omega) 0 [.int .i64 (asF f (1 + (y : Int))).t, .int .i64 (asF f (1 + (y : Int))).s, .int .i64 (asF f (1 + (y : Int))).sp, .slice P2 (asF f (1 + (y : Int))).wt.length p2, .slice D2 (asF f (1 + (y : Int))).sh.length d2])
        replace X := Lib.hid (X.out.putsfar q6 (by omega) 0 [.int .i64 (asF f (1 + (y : Int))).t, .int .i64 (asF f (1 + (y : Int))).s, .int .i64 (asF f (1 + (y : Int))).sp, .slice P2 (asF f (1 + (y : Int))).wt.length p2, .slice D2 (asF f (1 + (y : Int))).sh.length d2])
        replace O1 := Lib.hid (O1.out.puts Y.out.ty (by decide) 0 [.int .i64 (asF f (1 + (y : Int))).t, .int .i64 (asF f (1 + (y : Int))).s, .int .i64 (asF f (1 + (y : Int))).sp, .slice P2 (asF f (1 + (y : Int))).wt.length p2, .slice D2 (asF f (1 + (y : Int))).sh.length d2])
        replace O2 := Lib.hid (O2.out.puts Y.out.ty (by decide) 0 [.int .i64 (asF f (1 + (y : Int))).t, .int .i64 (asF f (1 + (y : Int))).s, .int .i64 (asF f (1 + (y : Int))).sp, .slice P2 (asF f (1 + (y : Int))).wt.length p2, .slice D2 (asF f (1 + (y : Int))).sh.length d2])
        replace N1 := Lib.hid (N1.out.puts Y.out.ty (by decide) 0 [.int .i64 (asF f (1 + (y : Int))).t, .int .i64 (asF f (1 + (y : Int))).s, .int .i64 (asF f (1 + (y : Int))).sp, .slice P2 (asF f (1 + (y : Int))).wt.length p2, .slice D2 (asF f (1 + (y : Int))).sh.length d2])
        replace N2 := Lib.hid (N2.out.puts Y.out.ty (by decide) 0 [.int .i64 (asF f (1 + (y : Int))).t, .int .i64 (asF f (1 + (y : Int))).s, .int .i64 (asF f (1 + (y : Int))).sp, .slice P2 (asF f (1 + (y : Int))).wt.length p2, .slice D2 (asF f (1 + (y : Int))).sh.length d2])
        replace Y := Lib.hid (Y.out.puts [.int .i64 (asF f (1 + (y : Int))).t, .int .i64 (asF f (1 + (y : Int))).s, .int .i64 (asF f (1 + (y : Int))).sp, .slice P2 (asF f (1 + (y : Int))).wt.length p2, .slice D2 (asF f (1 + (y : Int))).sh.length d2] (by rfl))
        (first | refine hK.out _ _ ?_ (fun hHeld1 => ?_) | (go_wp2_with fail; refine hK.out _ _ ?_ (fun hHeld1 => ?_)))
        · ((try dsimp only); exact KX X.out)
        clear hK K hHeld
        have hHeld := hHeld1
        clear hHeld1
        try simp only [Act.put, List.setIfInBounds_toArray, List.set_cons_zero, List.set_cons_succ]
        generalize (v27.setCells q6 0 [.int .i64 (asF f (1 + (y : Int))).t, .int .i64 (asF f (1 + (y : Int))).s, .int .i64 (asF f (1 + (y : Int))).sp, .slice P2 (asF f (1 + (y : Int))).wt.length p2, .slice D2 (asF f (1 + (y : Int))).sh.length d2]) = v28 at *
        refine take_yes (i := 9) (d := 7) (v := ?_) rfl rfl (by kernel_rfl) (by kernel_rfl) (by kernel_rfl) (fun _ _ _ h => h) (by kernel_rfl) ?_ hHeld ?_
        rotate_left
        · (intro w hSw; (try dsimp only at hSw); go_simp; try (with_reducible rfl))
        try simp only [Act.put, List.setIfInBounds_toArray, List.set_cons_zero, List.set_cons_succ]
        refine wpAnyH_done (by kernel_rfl) ?_ _
        refine NoPanic.normal ?_
        clear hHeld
        have hgl := asF_len f (1 + (y : Int))
        obtain ⟨g, hg⟩ : ∃ g, asF f (1 + (y : Int)) = g := ⟨_, rfl⟩
        rw [hg] at hgl Y N1 N2 ⊢
        clear hg
        rcases Bool.eq_false_or_eq_true (asB f (1 + (y : Int))) with hk | hk
        · rw [hk]
          go_wp2_with (first | (refine wpList_load_mid rfl 29 _ rfl q6 0 rfl [.int .i64 g.t, .int .i64 g.s, .int .i64 g.sp, .slice P2 g.wt.length p2, .slice D2 g.sh.length d2] _ Y.out.rng Try.underlying29 rfl (by kernel_rfl) ?_) | ((refine wpList_store_mid rfl 29 _ _ rfl q1 0 #[.int .i64 g.t, .int .i64 g.s, .int .i64 g.sp, .slice P2 g.wt.length p2, .slice D2 g.sh.length d2] rfl rfl X.out.there (by kernel_rfl) (by simp [Value.oneCell']) ?_); replace S := Lib.hid (S.out.puts (q := q1) (by omega) 0 [.int .i64 g.t, .int .i64 g.s, .int .i64 g.sp, .slice P2 g.wt.length p2, .slice D2 g.sh.length d2]); replace Z := Lib.hid (Z.out.putsfar q1 (by omega) 0 [.int .i64 g.t, .int .i64 g.s, .int .i64 g.sp, .slice P2 g.wt.length p2, .slice D2 g.sh.length d2]); replace O1 := Lib.hid (O1.out.puts X.out.ty (by decide) 0 [.int .i64 g.t, .int .i64 g.s, .int .i64 g.sp, .slice P2 g.wt.length p2, .slice D2 g.sh.length d2]); replace O2 := Lib.hid (O2.out.puts X.out.ty (by decide) 0 [.int .i64 g.t, .int .i64 g.s, .int .i64 g.sp, .slice P2 g.wt.length p2, .slice D2 g.sh.length d2]); replace Y := Lib.hid (Y.out.putsfar q1 (by omega) 0 [.int .i64 g.t, .int .i64 g.s, .int .i64 g.sp, .slice P2 g.wt.length p2, .slice D2 g.sh.length d2]); replace N1 := Lib.hid (N1.out.puts X.out.ty (by decide) 0 [.int .i64 g.t, .int .i64 g.s, .int .i64 g.sp, .slice P2 g.wt.length p2, .slice D2 g.sh.length d2]); replace N2 := Lib.hid (N2.out.puts X.out.ty (by decide) 0 [.int .i64 g.t, .int .i64 g.s, .int .i64 g.sp, .slice P2 g.wt.length p2, .slice D2 g.sh.length d2]); replace X := Lib.hid (X.out.puts [.int .i64 g.t, .int .i64 g.s, .int .i64 g.sp, .slice P2 g.wt.length p2, .slice D2 g.sh.length d2] (by rfl))))
          go_roundw
          case rel => exact ⟨j - 1, _, P2, p2, D2, d2, g, by go_num, by omega, by omega, by omega, by omega, S, Z, X, N1, N2⟩
          case measure => (first | (simp [intOf]; done) | (simp [intOf]; omega))
        · rw [hk]
          go_wp2
          go_roundw
          case rel => exact ⟨j - 1, _, P, p, D, d, f, by go_num, by omega, by omega, by omega, by omega, S, Z, X, O1, O2⟩
          case measure => (first | (simp [intOf]; done) | (simp [intOf]; omega))
      · skip
        go_upto_region 10 with fail
        have x0 := X.out.box.1 0 _ rfl
        have x1 := X.out.box.1 1 _ rfl
        have x2 := X.out.box.1 2 _ rfl
        have x3 := X.out.box.1 3 _ rfl
        have x4 := X.out.box.1 4 _ rfl
        clear x0 x1 x2 x3 x4
        refine wp_region_noPanic ?_
        refine wp_region_held_drew (S := (fun w'' => w''.cell? ⟨q1, 0, none⟩ = some (.int .i64 f.t) ∧ w''.cell? ⟨q1, 1, none⟩ = some (.int .i64 f.s) ∧ w''.cell? ⟨q1, 2, none⟩ = some (.int .i64 f.sp) ∧ w''.cell? ⟨q1, 3, none⟩ = some (.slice P f.wt.length p) ∧ w''.cell? ⟨q1, 4, none⟩ = some (.slice D f.sh.length d))) (by kernel_rfl) ?_ (fun hHeld => ?_)
        · ((try dsimp only); exact KX ⟨X.out.box.drew, Ty.below X.out.ty (Below.refl _ _).drew X.out.lt⟩)
        replace S := Lib.hid (S.out.call (show Below v24.heap.size v24 v24.drew from (Below.refl _ _).drew))
        replace Z := Lib.hid (Z.out.call (show Below v24.heap.size v24 v24.drew from (Below.refl _ _).drew))
        replace X := Lib.hid (X.out.call (show Below v24.heap.size v24 v24.drew from (Below.refl _ _).drew))
        replace O1 := Lib.hid (O1.out.call (show Below v24.heap.size v24 v24.drew from (Below.refl _ _).drew))
        replace O2 := Lib.hid (O2.out.call (show Below v24.heap.size v24 v24.drew from (Below.refl _ _).drew))
        replace Y := Lib.hid (Y.out.call (show Below v24.heap.size v24 v24.drew from (Below.refl _ _).drew))
        generalize v24.drew = v29 at *
        refine take_yes (i := 0) (d := 37) (v := ?_) rfl rfl (by kernel_rfl) (by kernel_rfl) (by kernel_rfl) (fun _ _ _ h => h) (by kernel_rfl) ?_ hHeld ?_
        rotate_left
        · (intro w hSw; (try dsimp only at hSw); go_simp; try (with_reducible rfl))
        try simp only [Act.put, List.setIfInBounds_toArray, List.set_cons_zero, List.set_cons_succ]
        refine take_yes (i := 1) (d := 38) (v := ?_) rfl rfl (by kernel_rfl) (by kernel_rfl) (by kernel_rfl) (fun _ _ _ h => h) (by kernel_rfl) ?_ hHeld ?_
        rotate_left
        · (intro w hSw; (try dsimp only at hSw); go_simp; try (with_reducible rfl))
        try simp only [Act.put, List.setIfInBounds_toArray, List.set_cons_zero, List.set_cons_succ]
        refine wpAnyH_ready (rs := [2]) (by kernel_rfl) (by simp) ?_
        refine AllReadyH.cons rfl (fun K hK => ?_) (AllReadyH.nil)
        go_simp
        (go_at_call 71; refine (pick_any 6 (by omega) (by omega) b A n c _ _ S.out.cur (by omega)).mono ?_; rintro e v30 ⟨⟨y, rfl, hy⟩, hc, ho⟩; have HC := Lib.hid hc; have HO := Lib.hid ho; clear hc ho)
        replace X := Lib.hid (X.out.draw HO.out (by omega))
        (first | refine hK.out _ _ ?_ (fun hHeld1 => ?_) | (go_wp2_with fail; refine hK.out _ _ ?_ (fun hHeld1 => ?_)))
        · ((try dsimp only); exact KX X.out)
        clear hK K hHeld
        have hHeld := hHeld1
        clear hHeld1
        try simp only [Act.put, List.setIfInBounds_toArray, List.set_cons_zero, List.set_cons_succ]
        replace S := Lib.hid (S.out.draw HC.out HO.out)
        replace Z := Lib.hid (Z.out.draw HO.out (by omega))
        replace O1 := Lib.hid (O1.out.draw HO.out (by omega))
        replace O2 := Lib.hid (O2.out.draw HO.out (by omega))
        replace Y := Lib.hid (Y.out.draw HO.out (by omega))
        clear HC HO
        have qy : IntKind.i64.wrap (1 + (y : Int)) = 1 + (y : Int) := by rw [IntKind.wrap_i64]; omega
        refine take_yes (i := 3) (d := 40) (v := ?_) rfl rfl (by kernel_rfl) (by kernel_rfl) (by kernel_rfl) (fun _ _ _ h => h) (by kernel_rfl) ?_ hHeld ?_
        rotate_left
        · (intro w hSw; (try dsimp only at hSw); go_simp; try (with_reducible rfl))
        try simp only [Act.put, List.setIfInBounds_toArray, List.set_cons_zero, List.set_cons_succ]
        refine wpAnyH_ready (rs := [4]) (by kernel_rfl) (by simp) ?_
        refine AllReadyH.cons rfl (fun K hK => ?_) (AllReadyH.nil)
        have hlo := S.out.sz
        go_simp
        (go_at_call 32; refine (rAskFloor ⟨O1.out.rd, O2.out.rd⟩ (1 + (y : Int))).mono ?_; rintro e v31 ⟨P2, p2, D2, d2, rfl, o1, o2, hb⟩; have HB := Lib.hid hb; clear hb)
        replace X := Lib.hid (X.out.call HB.out)
        (first | refine hK.out _ _ ?_ (fun hHeld1 => ?_) | (go_wp2_with fail; refine hK.out _ _ ?_ (fun hHeld1 => ?_)))
        · ((try dsimp only); exact KX X.out)
        clear hK K hHeld
        have hHeld := hHeld1
        clear hHeld1
        try simp only [Act.put, List.setIfInBounds_toArray, List.set_cons_zero, List.set_cons_succ]
        replace S := Lib.hid (S.out.call HB.out)
        replace Z := Lib.hid (Z.out.call HB.out)
        replace O1 := Lib.hid (O1.out.call HB.out)
        replace O2 := Lib.hid (O2.out.call HB.out)
        replace Y := Lib.hid (Y.out.call HB.out)
        clear HB
        have N1 := Lib.hid (OwD.low (show OwD IntK 3 _ v31 P2 p2 (asF f (1 + (y : Int))).wt from o1) hlo)
        have N2 := Lib.hid (OwD.low (show OwD ShareK 43 _ v31 D2 d2 (asF f (1 + (y : Int))).sh from o2) hlo)
        clear o1 o2 hlo
        refine take_yes (i := 5) (d := 36) (v := ?_) rfl rfl (by kernel_rfl) (by kernel_rfl) (by kernel_rfl) (fun _ _ _ h => h) (by kernel_rfl) ?_ hHeld ?_
        rotate_left
        · (intro w hSw; (try dsimp only at hSw); go_simp; try (with_reducible rfl))
        try simp only [Act.put, List.setIfInBounds_toArray, List.set_cons_zero, List.set_cons_succ]
        refine take_yes (i := 6) (d := 42) (v := ?_) rfl rfl (by kernel_rfl) (by kernel_rfl) (by kernel_rfl) (fun _ _ _ h => h) (by kernel_rfl) ?_ hHeld ?_
        rotate_left
        · (intro w hSw; (try dsimp only at hSw); go_simp; try (with_reducible rfl))
        try simp only [Act.put, List.setIfInBounds_toArray, List.set_cons_zero, List.set_cons_succ]
        refine take_yes (i := 7) (d := 43) (v := ?_) rfl rfl (by kernel_rfl) (by kernel_rfl) (by kernel_rfl) (fun _ _ _ h => h) (by kernel_rfl) ?_ hHeld ?_
        rotate_left
        · (intro w hSw; (try dsimp only at hSw); go_simp; try (with_reducible rfl))
        try simp only [Act.put, List.setIfInBounds_toArray, List.set_cons_zero, List.set_cons_succ]
        refine wpAnyH_ready (rs := [8]) (by kernel_rfl) (by simp) ?_
        refine AllReadyH.cons rfl (fun K hK => ?_) (AllReadyH.nil)
        have hsc : v31.setCells q6 0 (#[.int .i64 (asF f (1 + (y : Int))).t, .int .i64 (asF f (1 + (y : Int))).s, .int .i64 (asF f (1 + (y : Int))).sp, .slice P2 (asF f (1 + (y : Int))).wt.length p2, .slice D2 (asF f (1 + (y : Int))).sh.length d2] : Array Value).toList = v31.setCells q6 0 [.int .i64 (asF f (1 + (y : Int))).t, .int .i64 (asF f (1 + (y : Int))).s, .int .i64 (asF f (1 + (y : Int))).sp, .slice P2 (asF f (1 + (y : Int))).wt.length p2, .slice D2 (asF f (1 + (y : Int))).sh.length d2] := rfl
        rw [if_pos (by kernel_rfl)]
        refine wp_store_mid 29 _ _ (by rfl) q6 0 #[.int .i64 (asF f (1 + (y : Int))).t, .int .i64 (asF f (1 + (y : Int))).s, .int .i64 (asF f (1 + (y : Int))).sp, .slice P2 (asF f (1 + (y : Int))).wt.length p2, .slice D2 (asF f (1 + (y : Int))).sh.length d2] (by rfl) (by rfl) Y.out.there (by kernel_rfl) (by simp [Value.oneCell']) ?_
        rw [hsc]
        clear hsc
        replace S := Lib.hid (S.out.puts (q := q6) (by omega) 0 [.int .i64 (asF f (1 + (y : Int))).t, .int .i64 (asF f (1 + (y : Int))).s, .int .i64 (asF f (1 + (y : Int))).sp, .slice P2 (asF f (1 + (y : Int))).wt.length p2, .slice D2 (asF f (1 + (y : Int))).sh.length d2])
        replace Z := Lib.hid (Z.out.putsfar q6 (by omega) 0 [.int .i64 (asF f (1 + (y : Int))).t, .int .i64 (asF f (1 + (y : Int))).s, .int .i64 (asF f (1 + (y : Int))).sp, .slice P2 (asF f (1 + (y : Int))).wt.length p2, .slice D2 (asF f (1 + (y : Int))).sh.length d2])
        replace X := Lib.hid (X.out.putsfar q6 (by omega) 0 [.int .i64 (asF f (1 + (y : Int))).t, .int .i64 (asF f (1 + (y : Int))).s, .int .i64 (asF f (1 + (y : Int))).sp, .slice P2 (asF f (1 + (y : Int))).wt.length p2, .slice D2 (asF f (1 + (y : Int))).sh.length d2])
        replace O1 := Lib.hid (O1.out.puts Y.out.ty (by decide) 0 [.int .i64 (asF f (1 + (y : Int))).t, .int .i64 (asF f (1 + (y : Int))).s, .int .i64 (asF f (1 + (y : Int))).sp, .slice P2 (asF f (1 + (y : Int))).wt.length p2, .slice D2 (asF f (1 + (y : Int))).sh.length d2])
        replace O2 := Lib.hid (O2.out.puts Y.out.ty (by decide) 0 [.int .i64 (asF f (1 + (y : Int))).t, .int .i64 (asF f (1 + (y : Int))).s, .int .i64 (asF f (1 + (y : Int))).sp, .slice P2 (asF f (1 + (y : Int))).wt.length p2, .slice D2 (asF f (1 + (y : Int))).sh.length d2])
        replace N1 := Lib.hid (N1.out.puts Y.out.ty (by decide) 0 [.int .i64 (asF f (1 + (y : Int))).t, .int .i64 (asF f (1 + (y : Int))).s, .int .i64 (asF f (1 + (y : Int))).sp, .slice P2 (asF f (1 + (y : Int))).wt.length p2, .slice D2 (asF f (1 + (y : Int))).sh.length d2])
        replace N2 := Lib.hid (N2.out.puts Y.out.ty (by decide) 0 [.int .i64 (asF f (1 + (y : Int))).t, .int .i64 (asF f (1 + (y : Int))).s, .int .i64 (asF f (1 + (y : Int))).sp, .slice P2 (asF f (1 + (y : Int))).wt.length p2, .slice D2 (asF f (1 + (y : Int))).sh.length d2])
        replace Y := Lib.hid (Y.out.puts [.int .i64 (asF f (1 + (y : Int))).t, .int .i64 (asF f (1 + (y : Int))).s, .int .i64 (asF f (1 + (y : Int))).sp, .slice P2 (asF f (1 + (y : Int))).wt.length p2, .slice D2 (asF f (1 + (y : Int))).sh.length d2] (by rfl))
        (first | refine hK.out _ _ ?_ (fun hHeld1 => ?_) | (go_wp2_with fail; refine hK.out _ _ ?_ (fun hHeld1 => ?_)))
        · ((try dsimp only); exact KX X.out)
        clear hK K hHeld
        have hHeld := hHeld1
        clear hHeld1
        try simp only [Act.put, List.setIfInBounds_toArray, List.set_cons_zero, List.set_cons_succ]
        generalize (v31.setCells q6 0 [.int .i64 (asF f (1 + (y : Int))).t, .int .i64 (asF f (1 + (y : Int))).s, .int .i64 (asF f (1 + (y : Int))).sp, .slice P2 (asF f (1 + (y : Int))).wt.length p2, .slice D2 (asF f (1 + (y : Int))).sh.length d2]) = v32 at *
        refine take_yes (i := 9) (d := 7) (v := ?_) rfl rfl (by kernel_rfl) (by kernel_rfl) (by kernel_rfl) (fun _ _ _ h => h) (by kernel_rfl) ?_ hHeld ?_
        rotate_left
        · (intro w hSw; (try dsimp only at hSw); go_simp; try (with_reducible rfl))
        try simp only [Act.put, List.setIfInBounds_toArray, List.set_cons_zero, List.set_cons_succ]
        refine wpAnyH_done (by kernel_rfl) ?_ _
        refine NoPanic.normal ?_
        clear hHeld
        have hgl := asF_len f (1 + (y : Int))
        obtain ⟨g, hg⟩ : ∃ g, asF f (1 + (y : Int)) = g := ⟨_, rfl⟩
        rw [hg] at hgl Y N1 N2 ⊢
        clear hg
        rcases Bool.eq_false_or_eq_true (asB f (1 + (y : Int))) with hk | hk
        · rw [hk]
          go_wp2_with (first | (refine wpList_load_mid rfl 29 _ rfl q6 0 rfl [.int .i64 g.t, .int .i64 g.s, .int .i64 g.sp, .slice P2 g.wt.length p2, .slice D2 g.sh.length d2] _ Y.out.rng Try.underlying29 rfl (by kernel_rfl) ?_) | ((refine wpList_store_mid rfl 29 _ _ rfl q1 0 #[.int .i64 g.t, .int .i64 g.s, .int .i64 g.sp, .slice P2 g.wt.length p2, .slice D2 g.sh.length d2] rfl rfl X.out.there (by kernel_rfl) (by simp [Value.oneCell']) ?_); replace S := Lib.hid (S.out.puts (q := q1) (by omega) 0 [.int .i64 g.t, .int .i64 g.s, .int .i64 g.sp, .slice P2 g.wt.length p2, .slice D2 g.sh.length d2]); replace Z := Lib.hid (Z.out.putsfar q1 (by omega) 0 [.int .i64 g.t, .int .i64 g.s, .int .i64 g.sp, .slice P2 g.wt.length p2, .slice D2 g.sh.length d2]); replace O1 := Lib.hid (O1.out.puts X.out.ty (by decide) 0 [.int .i64 g.t, .int .i64 g.s, .int .i64 g.sp, .slice P2 g.wt.length p2, .slice D2 g.sh.length d2]); replace O2 := Lib.hid (O2.out.puts X.out.ty (by decide) 0 [.int .i64 g.t, .int .i64 g.s, .int .i64 g.sp, .slice P2 g.wt.length p2, .slice D2 g.sh.length d2]); replace Y := Lib.hid (Y.out.putsfar q1 (by omega) 0 [.int .i64 g.t, .int .i64 g.s, .int .i64 g.sp, .slice P2 g.wt.length p2, .slice D2 g.sh.length d2]); replace N1 := Lib.hid (N1.out.puts X.out.ty (by decide) 0 [.int .i64 g.t, .int .i64 g.s, .int .i64 g.sp, .slice P2 g.wt.length p2, .slice D2 g.sh.length d2]); replace N2 := Lib.hid (N2.out.puts X.out.ty (by decide) 0 [.int .i64 g.t, .int .i64 g.s, .int .i64 g.sp, .slice P2 g.wt.length p2, .slice D2 g.sh.length d2]); replace X := Lib.hid (X.out.puts [.int .i64 g.t, .int .i64 g.s, .int .i64 g.sp, .slice P2 g.wt.length p2, .slice D2 g.sh.length d2] (by rfl))))
          go_roundw
          case rel => exact ⟨j - 1, _, P2, p2, D2, d2, g, by go_num, by omega, by omega, by omega, by omega, S, Z, X, N1, N2⟩
          case measure => (first | (simp [intOf]; done) | (simp [intOf]; omega))
        · rw [hk]
          go_wp2
          go_roundw
          case rel => exact ⟨j - 1, _, P, p, D, d, f, by go_num, by omega, by omega, by omega, by omega, S, Z, X, O1, O2⟩
          case measure => (first | (simp [intOf]; done) | (simp [intOf]; omega))
      · skip
        have hlo := S.out.sz
        go_wp2_with (refine wpList_load_mid rfl 29 _ rfl q1 0 rfl [.int .i64 f.t, .int .i64 f.s, .int .i64 f.sp, .slice P f.wt.length p, .slice D f.sh.length d] _ X.out.rng Try.underlying29 rfl (by kernel_rfl) ?_)
        refine (rNextSpeaker ⟨O1.out.rd, O2.out.rd⟩).mono ?_
        rintro e v33 ⟨P2, p2, D2, d2, rfl, o1, o2, hb⟩
        replace S := Lib.hid (S.out.call hb)
        replace Z := Lib.hid (Z.out.call hb)
        replace X := Lib.hid (X.out.call hb)
        replace O1 := Lib.hid (O1.out.call hb)
        replace O2 := Lib.hid (O2.out.call hb)
        replace Y := Lib.hid (Y.out.call hb)
        clear hb
        have N1 := Lib.hid (OwD.low (show OwD IntK 3 _ v33 P2 p2 (nxF f).wt from o1) hlo)
        have N2 := Lib.hid (OwD.low (show OwD ShareK 43 _ v33 D2 d2 (nxF f).sh from o2) hlo)
        clear o1 o2 hlo
        have hgl := nxF_len f
        obtain ⟨g, hg⟩ : ∃ g, nxF f = g := ⟨_, rfl⟩
        rw [hg] at hgl N1 N2 ⊢
        clear hg
        rcases Bool.eq_false_or_eq_true (nxB f) with hk | hk
        · rw [hk]
          go_wp2_with (first | ((refine wpList_store_mid rfl 29 _ _ rfl q6 0 #[.int .i64 g.t, .int .i64 g.s, .int .i64 g.sp, .slice P2 g.wt.length p2, .slice D2 g.sh.length d2] rfl rfl Y.out.there (by kernel_rfl) (by simp [Value.oneCell']) ?_); replace S := Lib.hid (S.out.puts (q := q6) (by omega) 0 [.int .i64 g.t, .int .i64 g.s, .int .i64 g.sp, .slice P2 g.wt.length p2, .slice D2 g.sh.length d2]); replace Z := Lib.hid (Z.out.putsfar q6 (by omega) 0 [.int .i64 g.t, .int .i64 g.s, .int .i64 g.sp, .slice P2 g.wt.length p2, .slice D2 g.sh.length d2]); replace X := Lib.hid (X.out.putsfar q6 (by omega) 0 [.int .i64 g.t, .int .i64 g.s, .int .i64 g.sp, .slice P2 g.wt.length p2, .slice D2 g.sh.length d2]); replace O1 := Lib.hid (O1.out.puts Y.out.ty (by decide) 0 [.int .i64 g.t, .int .i64 g.s, .int .i64 g.sp, .slice P2 g.wt.length p2, .slice D2 g.sh.length d2]); replace O2 := Lib.hid (O2.out.puts Y.out.ty (by decide) 0 [.int .i64 g.t, .int .i64 g.s, .int .i64 g.sp, .slice P2 g.wt.length p2, .slice D2 g.sh.length d2]); replace N1 := Lib.hid (N1.out.puts Y.out.ty (by decide) 0 [.int .i64 g.t, .int .i64 g.s, .int .i64 g.sp, .slice P2 g.wt.length p2, .slice D2 g.sh.length d2]); replace N2 := Lib.hid (N2.out.puts Y.out.ty (by decide) 0 [.int .i64 g.t, .int .i64 g.s, .int .i64 g.sp, .slice P2 g.wt.length p2, .slice D2 g.sh.length d2]); replace Y := Lib.hid (Y.out.puts [.int .i64 g.t, .int .i64 g.s, .int .i64 g.sp, .slice P2 g.wt.length p2, .slice D2 g.sh.length d2] (by rfl))) | (refine wpList_load_mid rfl 29 _ rfl q6 0 rfl [.int .i64 g.t, .int .i64 g.s, .int .i64 g.sp, .slice P2 g.wt.length p2, .slice D2 g.sh.length d2] _ Y.out.rng Try.underlying29 rfl (by kernel_rfl) ?_) | ((refine wpList_store_mid rfl 29 _ _ rfl q1 0 #[.int .i64 g.t, .int .i64 g.s, .int .i64 g.sp, .slice P2 g.wt.length p2, .slice D2 g.sh.length d2] rfl rfl X.out.there (by kernel_rfl) (by simp [Value.oneCell']) ?_); replace S := Lib.hid (S.out.puts (q := q1) (by omega) 0 [.int .i64 g.t, .int .i64 g.s, .int .i64 g.sp, .slice P2 g.wt.length p2, .slice D2 g.sh.length d2]); replace Z := Lib.hid (Z.out.putsfar q1 (by omega) 0 [.int .i64 g.t, .int .i64 g.s, .int .i64 g.sp, .slice P2 g.wt.length p2, .slice D2 g.sh.length d2]); replace O1 := Lib.hid (O1.out.puts X.out.ty (by decide) 0 [.int .i64 g.t, .int .i64 g.s, .int .i64 g.sp, .slice P2 g.wt.length p2, .slice D2 g.sh.length d2]); replace O2 := Lib.hid (O2.out.puts X.out.ty (by decide) 0 [.int .i64 g.t, .int .i64 g.s, .int .i64 g.sp, .slice P2 g.wt.length p2, .slice D2 g.sh.length d2]); replace Y := Lib.hid (Y.out.putsfar q1 (by omega) 0 [.int .i64 g.t, .int .i64 g.s, .int .i64 g.sp, .slice P2 g.wt.length p2, .slice D2 g.sh.length d2]); replace N1 := Lib.hid (N1.out.puts X.out.ty (by decide) 0 [.int .i64 g.t, .int .i64 g.s, .int .i64 g.sp, .slice P2 g.wt.length p2, .slice D2 g.sh.length d2]); replace N2 := Lib.hid (N2.out.puts X.out.ty (by decide) 0 [.int .i64 g.t, .int .i64 g.s, .int .i64 g.sp, .slice P2 g.wt.length p2, .slice D2 g.sh.length d2]); replace X := Lib.hid (X.out.puts [.int .i64 g.t, .int .i64 g.s, .int .i64 g.sp, .slice P2 g.wt.length p2, .slice D2 g.sh.length d2] (by rfl))))
          go_roundw
          case rel => exact ⟨j - 1, _, P2, p2, D2, d2, g, by go_num, by omega, by omega, by omega, by omega, S, Z, X, N1, N2⟩
          case measure => (first | (simp [intOf]; done) | (simp [intOf]; omega))
        · rw [hk]
          go_wp2_with (((refine wpList_store_mid rfl 29 _ _ rfl q6 0 #[.int .i64 g.t, .int .i64 g.s, .int .i64 g.sp, .slice P2 g.wt.length p2, .slice D2 g.sh.length d2] rfl rfl Y.out.there (by kernel_rfl) (by simp [Value.oneCell']) ?_); replace S := Lib.hid (S.out.puts (q := q6) (by omega) 0 [.int .i64 g.t, .int .i64 g.s, .int .i64 g.sp, .slice P2 g.wt.length p2, .slice D2 g.sh.length d2]); replace Z := Lib.hid (Z.out.putsfar q6 (by omega) 0 [.int .i64 g.t, .int .i64 g.s, .int .i64 g.sp, .slice P2 g.wt.length p2, .slice D2 g.sh.length d2]); replace X := Lib.hid (X.out.putsfar q6 (by omega) 0 [.int .i64 g.t, .int .i64 g.s, .int .i64 g.sp, .slice P2 g.wt.length p2, .slice D2 g.sh.length d2]); replace O1 := Lib.hid (O1.out.puts Y.out.ty (by decide) 0 [.int .i64 g.t, .int .i64 g.s, .int .i64 g.sp, .slice P2 g.wt.length p2, .slice D2 g.sh.length d2]); replace O2 := Lib.hid (O2.out.puts Y.out.ty (by decide) 0 [.int .i64 g.t, .int .i64 g.s, .int .i64 g.sp, .slice P2 g.wt.length p2, .slice D2 g.sh.length d2]); replace N1 := Lib.hid (N1.out.puts Y.out.ty (by decide) 0 [.int .i64 g.t, .int .i64 g.s, .int .i64 g.sp, .slice P2 g.wt.length p2, .slice D2 g.sh.length d2]); replace N2 := Lib.hid (N2.out.puts Y.out.ty (by decide) 0 [.int .i64 g.t, .int .i64 g.s, .int .i64 g.sp, .slice P2 g.wt.length p2, .slice D2 g.sh.length d2]); replace Y := Lib.hid (Y.out.puts [.int .i64 g.t, .int .i64 g.s, .int .i64 g.sp, .slice P2 g.wt.length p2, .slice D2 g.sh.length d2] (by rfl))))
          go_roundw
          case rel => exact ⟨j - 1, _, P, p, D, d, f, by go_num, by omega, by omega, by omega, by omega, S, Z, X, O1, O2⟩
          case measure => (first | (simp [intOf]; done) | (simp [intOf]; omega))
      · skip
        have hlo := S.out.sz
        go_wp2_with (refine wpList_load_mid rfl 29 _ rfl q1 0 rfl [.int .i64 f.t, .int .i64 f.s, .int .i64 f.sp, .slice P f.wt.length p, .slice D f.sh.length d] _ X.out.rng Try.underlying29 rfl (by kernel_rfl) ?_)
        refine (rNextSpeaker ⟨O1.out.rd, O2.out.rd⟩).mono ?_
        rintro e v34 ⟨P2, p2, D2, d2, rfl, o1, o2, hb⟩
        replace S := Lib.hid (S.out.call hb)
        replace Z := Lib.hid (Z.out.call hb)
        replace X := Lib.hid (X.out.call hb)
        replace O1 := Lib.hid (O1.out.call hb)
        replace O2 := Lib.hid (O2.out.call hb)
        replace Y := Lib.hid (Y.out.call hb)
        clear hb
        have N1 := Lib.hid (OwD.low (show OwD IntK 3 _ v34 P2 p2 (nxF f).wt from o1) hlo)
        have N2 := Lib.hid (OwD.low (show OwD ShareK 43 _ v34 D2 d2 (nxF f).sh from o2) hlo)
        clear o1 o2 hlo
        have hgl := nxF_len f
        obtain ⟨g, hg⟩ : ∃ g, nxF f = g := ⟨_, rfl⟩
        rw [hg] at hgl N1 N2 ⊢
        clear hg
        rcases Bool.eq_false_or_eq_true (nxB f) with hk | hk
        · rw [hk]
          go_wp2_with (first | ((refine wpList_store_mid rfl 29 _ _ rfl q6 0 #[.int .i64 g.t, .int .i64 g.s, .int .i64 g.sp, .slice P2 g.wt.length p2, .slice D2 g.sh.length d2] rfl rfl Y.out.there (by kernel_rfl) (by simp [Value.oneCell']) ?_); replace S := Lib.hid (S.out.puts (q := q6) (by omega) 0 [.int .i64 g.t, .int .i64 g.s, .int .i64 g.sp, .slice P2 g.wt.length p2, .slice D2 g.sh.length d2]); replace Z := Lib.hid (Z.out.putsfar q6 (by omega) 0 [.int .i64 g.t, .int .i64 g.s, .int .i64 g.sp, .slice P2 g.wt.length p2, .slice D2 g.sh.length d2]); replace X := Lib.hid (X.out.putsfar q6 (by omega) 0 [.int .i64 g.t, .int .i64 g.s, .int .i64 g.sp, .slice P2 g.wt.length p2, .slice D2 g.sh.length d2]); replace O1 := Lib.hid (O1.out.puts Y.out.ty (by decide) 0 [.int .i64 g.t, .int .i64 g.s, .int .i64 g.sp, .slice P2 g.wt.length p2, .slice D2 g.sh.length d2]); replace O2 := Lib.hid (O2.out.puts Y.out.ty (by decide) 0 [.int .i64 g.t, .int .i64 g.s, .int .i64 g.sp, .slice P2 g.wt.length p2, .slice D2 g.sh.length d2]); replace N1 := Lib.hid (N1.out.puts Y.out.ty (by decide) 0 [.int .i64 g.t, .int .i64 g.s, .int .i64 g.sp, .slice P2 g.wt.length p2, .slice D2 g.sh.length d2]); replace N2 := Lib.hid (N2.out.puts Y.out.ty (by decide) 0 [.int .i64 g.t, .int .i64 g.s, .int .i64 g.sp, .slice P2 g.wt.length p2, .slice D2 g.sh.length d2]); replace Y := Lib.hid (Y.out.puts [.int .i64 g.t, .int .i64 g.s, .int .i64 g.sp, .slice P2 g.wt.length p2, .slice D2 g.sh.length d2] (by rfl))) | (refine wpList_load_mid rfl 29 _ rfl q6 0 rfl [.int .i64 g.t, .int .i64 g.s, .int .i64 g.sp, .slice P2 g.wt.length p2, .slice D2 g.sh.length d2] _ Y.out.rng Try.underlying29 rfl (by kernel_rfl) ?_) | ((refine wpList_store_mid rfl 29 _ _ rfl q1 0 #[.int .i64 g.t, .int .i64 g.s, .int .i64 g.sp, .slice P2 g.wt.length p2, .slice D2 g.sh.length d2] rfl rfl X.out.there (by kernel_rfl) (by simp [Value.oneCell']) ?_); replace S := Lib.hid (S.out.puts (q := q1) (by omega) 0 [.int .i64 g.t, .int .i64 g.s, .int .i64 g.sp, .slice P2 g.wt.length p2, .slice D2 g.sh.length d2]); replace Z := Lib.hid (Z.out.putsfar q1 (by omega) 0 [.int .i64 g.t, .int .i64 g.s, .int .i64 g.sp, .slice P2 g.wt.length p2, .slice D2 g.sh.length d2]); replace O1 := Lib.hid (O1.out.puts X.out.ty (by decide) 0 [.int .i64 g.t, .int .i64 g.s, .int .i64 g.sp, .slice P2 g.wt.length p2, .slice D2 g.sh.length d2]); replace O2 := Lib.hid (O2.out.puts X.out.ty (by decide) 0 [.int .i64 g.t, .int .i64 g.s, .int .i64 g.sp, .slice P2 g.wt.length p2, .slice D2 g.sh.length d2]); replace Y := Lib.hid (Y.out.putsfar q1 (by omega) 0 [.int .i64 g.t, .int .i64 g.s, .int .i64 g.sp, .slice P2 g.wt.length p2, .slice D2 g.sh.length d2]); replace N1 := Lib.hid (N1.out.puts X.out.ty (by decide) 0 [.int .i64 g.t, .int .i64 g.s, .int .i64 g.sp, .slice P2 g.wt.length p2, .slice D2 g.sh.length d2]); replace N2 := Lib.hid (N2.out.puts X.out.ty (by decide) 0 [.int .i64 g.t, .int .i64 g.s, .int .i64 g.sp, .slice P2 g.wt.length p2, .slice D2 g.sh.length d2]); replace X := Lib.hid (X.out.puts [.int .i64 g.t, .int .i64 g.s, .int .i64 g.sp, .slice P2 g.wt.length p2, .slice D2 g.sh.length d2] (by rfl))))
          go_roundw
          case rel => exact ⟨j - 1, _, P2, p2, D2, d2, g, by go_num, by omega, by omega, by omega, by omega, S, Z, X, N1, N2⟩
          case measure => (first | (simp [intOf]; done) | (simp [intOf]; omega))
        · rw [hk]
          go_wp2_with (((refine wpList_store_mid rfl 29 _ _ rfl q6 0 #[.int .i64 g.t, .int .i64 g.s, .int .i64 g.sp, .slice P2 g.wt.length p2, .slice D2 g.sh.length d2] rfl rfl Y.out.there (by kernel_rfl) (by simp [Value.oneCell']) ?_); replace S := Lib.hid (S.out.puts (q := q6) (by omega) 0 [.int .i64 g.t, .int .i64 g.s, .int .i64 g.sp, .slice P2 g.wt.length p2, .slice D2 g.sh.length d2]); replace Z := Lib.hid (Z.out.putsfar q6 (by omega) 0 [.int .i64 g.t, .int .i64 g.s, .int .i64 g.sp, .slice P2 g.wt.length p2, .slice D2 g.sh.length d2]); replace X := Lib.hid (X.out.putsfar q6 (by omega) 0 [.int .i64 g.t, .int .i64 g.s, .int .i64 g.sp, .slice P2 g.wt.length p2, .slice D2 g.sh.length d2]); replace O1 := Lib.hid (O1.out.puts Y.out.ty (by decide) 0 [.int .i64 g.t, .int .i64 g.s, .int .i64 g.sp, .slice P2 g.wt.length p2, .slice D2 g.sh.length d2]); replace O2 := Lib.hid (O2.out.puts Y.out.ty (by decide) 0 [.int .i64 g.t, .int .i64 g.s, .int .i64 g.sp, .slice P2 g.wt.length p2, .slice D2 g.sh.length d2]); replace N1 := Lib.hid (N1.out.puts Y.out.ty (by decide) 0 [.int .i64 g.t, .int .i64 g.s, .int .i64 g.sp, .slice P2 g.wt.length p2, .slice D2 g.sh.length d2]); replace N2 := Lib.hid (N2.out.puts Y.out.ty (by decide) 0 [.int .i64 g.t, .int .i64 g.s, .int .i64 g.sp, .slice P2 g.wt.length p2, .slice D2 g.sh.length d2]); replace Y := Lib.hid (Y.out.puts [.int .i64 g.t, .int .i64 g.s, .int .i64 g.sp, .slice P2 g.wt.length p2, .slice D2 g.sh.length d2] (by rfl))))
          go_roundw
          case rel => exact ⟨j - 1, _, P, p, D, d, f, by go_num, by omega, by omega, by omega, by omega, S, Z, X, O1, O2⟩
          case measure => (first | (simp [intOf]; done) | (simp [intOf]; omega))
      · skip
        go_upto_region 15 with fail
        refine wp_region_noPanic ?_
        refine wp_region_held_drew (S := (fun w'' => w''.cell? ⟨q1, 0, none⟩ = some (.int .i64 f.t) ∧ w''.cell? ⟨q1, 1, none⟩ = some (.int .i64 f.s) ∧ w''.cell? ⟨q1, 2, none⟩ = some (.int .i64 f.sp) ∧ w''.cell? ⟨q1, 3, none⟩ = some (.slice P f.wt.length p) ∧ w''.cell? ⟨q1, 4, none⟩ = some (.slice D f.sh.length d))) (by kernel_rfl) ?_ (fun hHeld => ?_)
        · ((try dsimp only); exact KX ⟨X.out.box.drew, Ty.below X.out.ty (Below.refl _ _).drew X.out.lt⟩)
        replace S := Lib.hid (S.out.call (show Below v24.heap.size v24 v24.drew from (Below.refl _ _).drew))
        replace Z := Lib.hid (Z.out.call (show Below v24.heap.size v24 v24.drew from (Below.refl _ _).drew))
        replace X := Lib.hid (X.out.call (show Below v24.heap.size v24 v24.drew from (Below.refl _ _).drew))
        replace O1 := Lib.hid (O1.out.call (show Below v24.heap.size v24 v24.drew from (Below.refl _ _).drew))
        replace O2 := Lib.hid (O2.out.call (show Below v24.heap.size v24 v24.drew from (Below.refl _ _).drew))
        replace Y := Lib.hid (Y.out.call (show Below v24.heap.size v24 v24.drew from (Below.refl _ _).drew))
        generalize v24.drew = v35 at *
        refine take_yes (i := 0) (d := 56) (v := ?_) rfl rfl (by kernel_rfl) (by kernel_rfl) (by kernel_rfl) (fun _ _ _ h => h) (by kernel_rfl) ?_ hHeld ?_
        rotate_left
        · (intro w hSw; (try dsimp only at hSw); go_simp; try (with_reducible rfl))
        try simp only [Act.put, List.setIfInBounds_toArray, List.set_cons_zero, List.set_cons_succ]
        refine take_yes (i := 1) (d := 57) (v := ?_) rfl rfl (by kernel_rfl) (by kernel_rfl) (by kernel_rfl) (fun _ _ _ h => h) (by kernel_rfl) ?_ hHeld ?_
        rotate_left
        · (intro w hSw; (try dsimp only at hSw); go_simp; try (with_reducible rfl))
        try simp only [Act.put, List.setIfInBounds_toArray, List.set_cons_zero, List.set_cons_succ]
        refine wpAnyH_ready (rs := [2]) (by kernel_rfl) (by simp) ?_
        refine AllReadyH.cons rfl (fun K hK => ?_) (AllReadyH.nil)
        try go_simp
        have HL := Lib.hid (lit_cellsI v35 [1, 5, 30, 100] 3 v35.heap.size rfl)
        have HLb : v35.heap.size ≠ b := by have := S.out.bw; omega
        have hbl := below1 v35 (.cells ((([1, 5, 30, 100] : List Int).map (Value.int .i64)).toArray) 3)
        replace S := Lib.hid (S.out.call hbl)
        replace Z := Lib.hid (Z.out.call hbl)
        replace X := Lib.hid (X.out.call hbl)
        replace O1 := Lib.hid (O1.out.call hbl)
        replace O2 := Lib.hid (O2.out.call hbl)
        replace Y := Lib.hid (Y.out.call hbl)
        clear hbl
        (first | refine hK.out _ _ ?_ (fun hHeld1 => ?_) | (go_wp2_with fail; refine hK.out _ _ ?_ (fun hHeld1 => ?_)))
        · ((try dsimp only); exact KX X.out)
        clear hK K hHeld
        have hHeld := hHeld1
        clear hHeld1
        try simp only [Act.put, List.setIfInBounds_toArray, List.set_cons_zero, List.set_cons_succ]
        refine wpAnyH_ready (rs := [3]) (by kernel_rfl) (by simp) ?_
        refine AllReadyH.cons rfl (fun K hK => ?_) (AllReadyH.nil)
        go_simp
        (go_at_call 78; refine (among_any [1, 5, 30, 100] (some ⟨v35.heap.size, 0, none⟩) 4 (by simp) (by simp) b A n c _ _ S.out.cur (by omega) HL.out (fun a ha => by obtain rfl := Option.some.inj ha; exact HLb)).mono ?_; rintro e v36 ⟨⟨y, rfl, hy⟩, hc, ho⟩; have HC := Lib.hid hc; have HO := Lib.hid ho; clear hc ho)
        replace X := Lib.hid (X.out.draw HO.out (by omega))
        (first | refine hK.out _ _ ?_ (fun hHeld1 => ?_) | (go_wp2_with fail; refine hK.out _ _ ?_ (fun hHeld1 => ?_)))
        · ((try dsimp only); exact KX X.out)
        clear hK K hHeld
        have hHeld := hHeld1
        clear hHeld1
        try simp only [Act.put, List.setIfInBounds_toArray, List.set_cons_zero, List.set_cons_succ]
        replace S := Lib.hid (S.out.draw HC.out HO.out)
        replace Z := Lib.hid (Z.out.draw HO.out (by omega))
        replace O1 := Lib.hid (O1.out.draw HO.out (by omega))
        replace O2 := Lib.hid (O2.out.draw HO.out (by omega))
        replace Y := Lib.hid (Y.out.draw HO.out (by omega))
        clear HC HO
        clear HL HLb hy
        refine wpAnyH_ready (rs := [4]) (by kernel_rfl) (by simp) ?_
        refine AllReadyH.cons rfl (fun K hK => ?_) (AllReadyH.nil)
        have hlo := S.out.sz
        go_simp
        (go_at_call 14; refine (rSpeakFor ⟨O1.out.rd, O2.out.rd⟩ y).mono ?_; rintro e v37 ⟨P2, p2, D2, d2, rfl, o1, o2, hb⟩; have HB := Lib.hid hb; clear hb)
        replace X := Lib.hid (X.out.call HB.out)
        (first | refine hK.out _ _ ?_ (fun hHeld1 => ?_) | (go_wp2_with fail; refine hK.out _ _ ?_ (fun hHeld1 => ?_)))
        · ((try dsimp only); exact KX X.out)
        clear hK K hHeld
        have hHeld := hHeld1
        clear hHeld1
        try simp only [Act.put, List.setIfInBounds_toArray, List.set_cons_zero, List.set_cons_succ]
        replace S := Lib.hid (S.out.call HB.out)
        replace Z := Lib.hid (Z.out.call HB.out)
        replace O1 := Lib.hid (O1.out.call HB.out)
        replace O2 := Lib.hid (O2.out.call HB.out)
        replace Y := Lib.hid (Y.out.call HB.out)
        clear HB
        have N1 := Lib.hid (OwD.low (show OwD IntK 3 _ v37 P2 p2 (sfF f y).wt from o1) hlo)
        have N2 := Lib.hid (OwD.low (show OwD ShareK 43 _ v37 D2 d2 (sfF f y).sh from o2) hlo)
        clear o1 o2 hlo
        refine take_yes (i := 5) (d := 55) (v := ?_) rfl rfl (by kernel_rfl) (by kernel_rfl) (by kernel_rfl) (fun _ _ _ h => h) (by kernel_rfl) ?_ hHeld ?_
        rotate_left
        · (intro w hSw; (try dsimp only at hSw); go_simp; try (with_reducible rfl))
        try simp only [Act.put, List.setIfInBounds_toArray, List.set_cons_zero, List.set_cons_succ]
        refine take_yes (i := 6) (d := 61) (v := ?_) rfl rfl (by kernel_rfl) (by kernel_rfl) (by kernel_rfl) (fun _ _ _ h => h) (by kernel_rfl) ?_ hHeld ?_
        rotate_left
        · (intro w hSw; (try dsimp only at hSw); go_simp; try (with_reducible rfl))
        try simp only [Act.put, List.setIfInBounds_toArray, List.set_cons_zero, List.set_cons_succ]
        refine take_yes (i := 7) (d := 62) (v := ?_) rfl rfl (by kernel_rfl) (by kernel_rfl) (by kernel_rfl) (fun _ _ _ h => h) (by kernel_rfl) ?_ hHeld ?_
        rotate_left
        · (intro w hSw; (try dsimp only at hSw); go_simp; try (with_reducible rfl))
        try simp only [Act.put, List.setIfInBounds_toArray, List.set_cons_zero, List.set_cons_succ]
        refine take_yes (i := 8) (d := 63) (v := ?_) rfl rfl (by kernel_rfl) (by kernel_rfl) (by kernel_rfl) (fun _ _ _ h => h) (by kernel_rfl) ?_ hHeld ?_
        rotate_left
        · (intro w hSw; (try dsimp only at hSw); go_simp; try (with_reducible rfl))
        try simp only [Act.put, List.setIfInBounds_toArray, List.set_cons_zero, List.set_cons_succ]
        refine wpAnyH_ready (rs := [9]) (by kernel_rfl) (by simp) ?_
        refine AllReadyH.cons rfl (fun K hK => ?_) (AllReadyH.nil)
        have hsc : v37.setCells q6 0 (#[.int .i64 (sfF f y).t, .int .i64 (sfF f y).s, .int .i64 (sfF f y).sp, .slice P2 (sfF f y).wt.length p2, .slice D2 (sfF f y).sh.length d2] : Array Value).toList = v37.setCells q6 0 [.int .i64 (sfF f y).t, .int .i64 (sfF f y).s, .int .i64 (sfF f y).sp, .slice P2 (sfF f y).wt.length p2, .slice D2 (sfF f y).sh.length d2] := rfl
        rw [if_pos (by kernel_rfl)]
        refine wp_store_mid 29 _ _ (by rfl) q6 0 #[.int .i64 (sfF f y).t, .int .i64 (sfF f y).s, .int .i64 (sfF f y).sp, .slice P2 (sfF f y).wt.length p2, .slice D2 (sfF f y).sh.length d2] (by rfl) (by rfl) Y.out.there (by kernel_rfl) (by simp [Value.oneCell']) ?_
        rw [hsc]
        clear hsc
        replace S := Lib.hid (S.out.puts (q := q6) (by omega) 0 [.int .i64 (sfF f y).t, .int .i64 (sfF f y).s, .int .i64 (sfF f y).sp, .slice P2 (sfF f y).wt.length p2, .slice D2 (sfF f y).sh.length d2])
        replace Z := Lib.hid (Z.out.putsfar q6 (by omega) 0 [.int .i64 (sfF f y).t, .int .i64 (sfF f y).s, .int .i64 (sfF f y).sp, .slice P2 (sfF f y).wt.length p2, .slice D2 (sfF f y).sh.length d2])
        replace X := Lib.hid (X.out.putsfar q6 (by omega) 0 [.int .i64 (sfF f y).t, .int .i64 (sfF f y).s, .int .i64 (sfF f y).sp, .slice P2 (sfF f y).wt.length p2, .slice D2 (sfF f y).sh.length d2])
        replace O1 := Lib.hid (O1.out.puts Y.out.ty (by decide) 0 [.int .i64 (sfF f y).t, .int .i64 (sfF f y).s, .int .i64 (sfF f y).sp, .slice P2 (sfF f y).wt.length p2, .slice D2 (sfF f y).sh.length d2])
        replace O2 := Lib.hid (O2.out.puts Y.out.ty (by decide) 0 [.int .i64 (sfF f y).t, .int .i64 (sfF f y).s, .int .i64 (sfF f y).sp, .slice P2 (sfF f y).wt.length p2, .slice D2 (sfF f y).sh.length d2])
        replace N1 := Lib.hid (N1.out.puts Y.out.ty (by decide) 0 [.int .i64 (sfF f y).t, .int .i64 (sfF f y).s, .int .i64 (sfF f y).sp, .slice P2 (sfF f y).wt.length p2, .slice D2 (sfF f y).sh.length d2])
        replace N2 := Lib.hid (N2.out.puts Y.out.ty (by decide) 0 [.int .i64 (sfF f y).t, .int .i64 (sfF f y).s, .int .i64 (sfF f y).sp, .slice P2 (sfF f y).wt.length p2, .slice D2 (sfF f y).sh.length d2])
        replace Y := Lib.hid (Y.out.puts [.int .i64 (sfF f y).t, .int .i64 (sfF f y).s, .int .i64 (sfF f y).sp, .slice P2 (sfF f y).wt.length p2, .slice D2 (sfF f y).sh.length d2] (by rfl))
        (first | refine hK.out _ _ ?_ (fun hHeld1 => ?_) | (go_wp2_with fail; refine hK.out _ _ ?_ (fun hHeld1 => ?_)))
        · ((try dsimp only); exact KX X.out)
        clear hK K hHeld
        have hHeld := hHeld1
        clear hHeld1
        try simp only [Act.put, List.setIfInBounds_toArray, List.set_cons_zero, List.set_cons_succ]
        generalize (v37.setCells q6 0 [.int .i64 (sfF f y).t, .int .i64 (sfF f y).s, .int .i64 (sfF f y).sp, .slice P2 (sfF f y).wt.length p2, .slice D2 (sfF f y).sh.length d2]) = v38 at *
        refine take_yes (i := 10) (d := 7) (v := ?_) rfl rfl (by kernel_rfl) (by kernel_rfl) (by kernel_rfl) (fun _ _ _ h => h) (by kernel_rfl) ?_ hHeld ?_
        rotate_left
        · (intro w hSw; (try dsimp only at hSw); go_simp; try (with_reducible rfl))
        try simp only [Act.put, List.setIfInBounds_toArray, List.set_cons_zero, List.set_cons_succ]
        refine wpAnyH_done (by kernel_rfl) ?_ _
        refine NoPanic.normal ?_
        clear hHeld
        have hgl := sfF_len f y
        obtain ⟨g, hg⟩ : ∃ g, sfF f y = g := ⟨_, rfl⟩
        rw [hg] at hgl Y N1 N2 ⊢
        clear hg
        rcases Bool.eq_false_or_eq_true (sfB f y) with hk | hk
        · rw [hk]
          go_wp2_with (first | (refine wpList_load_mid rfl 29 _ rfl q6 0 rfl [.int .i64 g.t, .int .i64 g.s, .int .i64 g.sp, .slice P2 g.wt.length p2, .slice D2 g.sh.length d2] _ Y.out.rng Try.underlying29 rfl (by kernel_rfl) ?_) | ((refine wpList_store_mid rfl 29 _ _ rfl q1 0 #[.int .i64 g.t, .int .i64 g.s, .int .i64 g.sp, .slice P2 g.wt.length p2, .slice D2 g.sh.length d2] rfl rfl X.out.there (by kernel_rfl) (by simp [Value.oneCell']) ?_); replace S := Lib.hid (S.out.puts (q := q1) (by omega) 0 [.int .i64 g.t, .int .i64 g.s, .int .i64 g.sp, .slice P2 g.wt.length p2, .slice D2 g.sh.length d2]); replace Z := Lib.hid (Z.out.putsfar q1 (by omega) 0 [.int .i64 g.t, .int .i64 g.s, .int .i64 g.sp, .slice P2 g.wt.length p2, .slice D2 g.sh.length d2]); replace O1 := Lib.hid (O1.out.puts X.out.ty (by decide) 0 [.int .i64 g.t, .int .i64 g.s, .int .i64 g.sp, .slice P2 g.wt.length p2, .slice D2 g.sh.length d2]); replace O2 := Lib.hid (O2.out.puts X.out.ty (by decide) 0 [.int .i64 g.t, .int .i64 g.s, .int .i64 g.sp, .slice P2 g.wt.length p2, .slice D2 g.sh.length d2]); replace Y := Lib.hid (Y.out.putsfar q1 (by omega) 0 [.int .i64 g.t, .int .i64 g.s, .int .i64 g.sp, .slice P2 g.wt.length p2, .slice D2 g.sh.length d2]); replace N1 := Lib.hid (N1.out.puts X.out.ty (by decide) 0 [.int .i64 g.t, .int .i64 g.s, .int .i64 g.sp, .slice P2 g.wt.length p2, .slice D2 g.sh.length d2]); replace N2 := Lib.hid (N2.out.puts X.out.ty (by decide) 0 [.int .i64 g.t, .int .i64 g.s, .int .i64 g.sp, .slice P2 g.wt.length p2, .slice D2 g.sh.length d2]); replace X := Lib.hid (X.out.puts [.int .i64 g.t, .int .i64 g.s, .int .i64 g.sp, .slice P2 g.wt.length p2, .slice D2 g.sh.length d2] (by rfl))))
          go_roundw
          case rel => exact ⟨j - 1, _, P2, p2, D2, d2, g, by go_num, by omega, by omega, by omega, by omega, S, Z, X, N1, N2⟩
          case measure => (first | (simp [intOf]; done) | (simp [intOf]; omega))
        · rw [hk]
          go_wp2
          go_roundw
          case rel => exact ⟨j - 1, _, P, p, D, d, f, by go_num, by omega, by omega, by omega, by omega, S, Z, X, O1, O2⟩
          case measure => (first | (simp [intOf]; done) | (simp [intOf]; omega))
      · skip
        have hlo := S.out.sz
        go_wp2_with (refine wpList_load_mid rfl 29 _ rfl q1 0 rfl [.int .i64 f.t, .int .i64 f.s, .int .i64 f.sp, .slice P f.wt.length p, .slice D f.sh.length d] _ X.out.rng Try.underlying29 rfl (by kernel_rfl) ?_)
        refine (rYieldFloor ⟨O1.out.rd, O2.out.rd⟩).mono ?_
        rintro e v39 ⟨P2, p2, D2, d2, rfl, o1, o2, hb⟩
        replace S := Lib.hid (S.out.call hb)
        replace Z := Lib.hid (Z.out.call hb)
        replace X := Lib.hid (X.out.call hb)
        replace O1 := Lib.hid (O1.out.call hb)
        replace O2 := Lib.hid (O2.out.call hb)
        replace Y := Lib.hid (Y.out.call hb)
        clear hb
        have N1 := Lib.hid (OwD.low (show OwD IntK 3 _ v39 P2 p2 (yfF f).wt from o1) hlo)
        have N2 := Lib.hid (OwD.low (show OwD ShareK 43 _ v39 D2 d2 (yfF f).sh from o2) hlo)
        clear o1 o2 hlo
        have hgl := yfF_len f
        obtain ⟨g, hg⟩ : ∃ g, yfF f = g := ⟨_, rfl⟩
        rw [hg] at hgl N1 N2 ⊢
        clear hg
        rcases Bool.eq_false_or_eq_true (yfB f) with hk | hk
        · rw [hk]
          go_wp2_with (first | ((refine wpList_store_mid rfl 29 _ _ rfl q6 0 #[.int .i64 g.t, .int .i64 g.s, .int .i64 g.sp, .slice P2 g.wt.length p2, .slice D2 g.sh.length d2] rfl rfl Y.out.there (by kernel_rfl) (by simp [Value.oneCell']) ?_); replace S := Lib.hid (S.out.puts (q := q6) (by omega) 0 [.int .i64 g.t, .int .i64 g.s, .int .i64 g.sp, .slice P2 g.wt.length p2, .slice D2 g.sh.length d2]); replace Z := Lib.hid (Z.out.putsfar q6 (by omega) 0 [.int .i64 g.t, .int .i64 g.s, .int .i64 g.sp, .slice P2 g.wt.length p2, .slice D2 g.sh.length d2]); replace X := Lib.hid (X.out.putsfar q6 (by omega) 0 [.int .i64 g.t, .int .i64 g.s, .int .i64 g.sp, .slice P2 g.wt.length p2, .slice D2 g.sh.length d2]); replace O1 := Lib.hid (O1.out.puts Y.out.ty (by decide) 0 [.int .i64 g.t, .int .i64 g.s, .int .i64 g.sp, .slice P2 g.wt.length p2, .slice D2 g.sh.length d2]); replace O2 := Lib.hid (O2.out.puts Y.out.ty (by decide) 0 [.int .i64 g.t, .int .i64 g.s, .int .i64 g.sp, .slice P2 g.wt.length p2, .slice D2 g.sh.length d2]); replace N1 := Lib.hid (N1.out.puts Y.out.ty (by decide) 0 [.int .i64 g.t, .int .i64 g.s, .int .i64 g.sp, .slice P2 g.wt.length p2, .slice D2 g.sh.length d2]); replace N2 := Lib.hid (N2.out.puts Y.out.ty (by decide) 0 [.int .i64 g.t, .int .i64 g.s, .int .i64 g.sp, .slice P2 g.wt.length p2, .slice D2 g.sh.length d2]); replace Y := Lib.hid (Y.out.puts [.int .i64 g.t, .int .i64 g.s, .int .i64 g.sp, .slice P2 g.wt.length p2, .slice D2 g.sh.length d2] (by rfl))) | (refine wpList_load_mid rfl 29 _ rfl q6 0 rfl [.int .i64 g.t, .int .i64 g.s, .int .i64 g.sp, .slice P2 g.wt.length p2, .slice D2 g.sh.length d2] _ Y.out.rng Try.underlying29 rfl (by kernel_rfl) ?_) | ((refine wpList_store_mid rfl 29 _ _ rfl q1 0 #[.int .i64 g.t, .int .i64 g.s, .int .i64 g.sp, .slice P2 g.wt.length p2, .slice D2 g.sh.length d2] rfl rfl X.out.there (by kernel_rfl) (by simp [Value.oneCell']) ?_); replace S := Lib.hid (S.out.puts (q := q1) (by omega) 0 [.int .i64 g.t, .int .i64 g.s, .int .i64 g.sp, .slice P2 g.wt.length p2, .slice D2 g.sh.length d2]); replace Z := Lib.hid (Z.out.putsfar q1 (by omega) 0 [.int .i64 g.t, .int .i64 g.s, .int .i64 g.sp, .slice P2 g.wt.length p2, .slice D2 g.sh.length d2]); replace O1 := Lib.hid (O1.out.puts X.out.ty (by decide) 0 [.int .i64 g.t, .int .i64 g.s, .int .i64 g.sp, .slice P2 g.wt.length p2, .slice D2 g.sh.length d2]); replace O2 := Lib.hid (O2.out.puts X.out.ty (by decide) 0 [.int .i64 g.t, .int .i64 g.s, .int .i64 g.sp, .slice P2 g.wt.length p2, .slice D2 g.sh.length d2]); replace Y := Lib.hid (Y.out.putsfar q1 (by omega) 0 [.int .i64 g.t, .int .i64 g.s, .int .i64 g.sp, .slice P2 g.wt.length p2, .slice D2 g.sh.length d2]); replace N1 := Lib.hid (N1.out.puts X.out.ty (by decide) 0 [.int .i64 g.t, .int .i64 g.s, .int .i64 g.sp, .slice P2 g.wt.length p2, .slice D2 g.sh.length d2]); replace N2 := Lib.hid (N2.out.puts X.out.ty (by decide) 0 [.int .i64 g.t, .int .i64 g.s, .int .i64 g.sp, .slice P2 g.wt.length p2, .slice D2 g.sh.length d2]); replace X := Lib.hid (X.out.puts [.int .i64 g.t, .int .i64 g.s, .int .i64 g.sp, .slice P2 g.wt.length p2, .slice D2 g.sh.length d2] (by rfl))))
          go_roundw
          case rel => exact ⟨j - 1, _, P2, p2, D2, d2, g, by go_num, by omega, by omega, by omega, by omega, S, Z, X, N1, N2⟩
          case measure => (first | (simp [intOf]; done) | (simp [intOf]; omega))
        · rw [hk]
          go_wp2_with (((refine wpList_store_mid rfl 29 _ _ rfl q6 0 #[.int .i64 g.t, .int .i64 g.s, .int .i64 g.sp, .slice P2 g.wt.length p2, .slice D2 g.sh.length d2] rfl rfl Y.out.there (by kernel_rfl) (by simp [Value.oneCell']) ?_); replace S := Lib.hid (S.out.puts (q := q6) (by omega) 0 [.int .i64 g.t, .int .i64 g.s, .int .i64 g.sp, .slice P2 g.wt.length p2, .slice D2 g.sh.length d2]); replace Z := Lib.hid (Z.out.putsfar q6 (by omega) 0 [.int .i64 g.t, .int .i64 g.s, .int .i64 g.sp, .slice P2 g.wt.length p2, .slice D2 g.sh.length d2]); replace X := Lib.hid (X.out.putsfar q6 (by omega) 0 [.int .i64 g.t, .int .i64 g.s, .int .i64 g.sp, .slice P2 g.wt.length p2, .slice D2 g.sh.length d2]); replace O1 := Lib.hid (O1.out.puts Y.out.ty (by decide) 0 [.int .i64 g.t, .int .i64 g.s, .int .i64 g.sp, .slice P2 g.wt.length p2, .slice D2 g.sh.length d2]); replace O2 := Lib.hid (O2.out.puts Y.out.ty (by decide) 0 [.int .i64 g.t, .int .i64 g.s, .int .i64 g.sp, .slice P2 g.wt.length p2, .slice D2 g.sh.length d2]); replace N1 := Lib.hid (N1.out.puts Y.out.ty (by decide) 0 [.int .i64 g.t, .int .i64 g.s, .int .i64 g.sp, .slice P2 g.wt.length p2, .slice D2 g.sh.length d2]); replace N2 := Lib.hid (N2.out.puts Y.out.ty (by decide) 0 [.int .i64 g.t, .int .i64 g.s, .int .i64 g.sp, .slice P2 g.wt.length p2, .slice D2 g.sh.length d2]); replace Y := Lib.hid (Y.out.puts [.int .i64 g.t, .int .i64 g.s, .int .i64 g.sp, .slice P2 g.wt.length p2, .slice D2 g.sh.length d2] (by rfl))))
          go_roundw
          case rel => exact ⟨j - 1, _, P, p, D, d, f, by go_num, by omega, by omega, by omega, by omega, S, Z, X, O1, O2⟩
          case measure => (first | (simp [intOf]; done) | (simp [intOf]; omega))
end Go.Proofs.Ytbpikbcnpmplfaa
