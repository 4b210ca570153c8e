/- The draws of the laws on documents. Conditions: the ranges named. -/
import Derived.Test.YtifahgdalgjgfaaSeD
import Derived.Test.YtifahgdalgjgfaaLst
namespace Go.Proofs.Ytifahgdalgjgfaa
open Go.RowKit
set_option linter.unusedVariables false
set_option linter.unusedSimpArgs false
attribute [local go_sem ↓] Go.wp_at_zero Go.wp_at_succ
/-- What a draw of a document leaves. -/
def DrS (w : World) (P : Option Addr) (p : Nat) (xs : List Sec) (w' : World) : Prop := OwD SectionK 78 w.heap.size w' P p xs ∧ xs.length ≤ 20 ∧ Below w.heap.size w w'
theorem OwD.putsN {α : Type} {K : Kd α} {e lo c : Nat} {O : Option Addr} {xs : List α} (q : Nat) (hq : q < lo) : ∀ {w : World}, OwD K e lo w O c xs → ∀ (o : Nat) (vs : List Value), OwD K e lo (w.setCells q o vs) O c xs := by
  intro w h o vs
  induction vs generalizing o w with
  | nil => exact h
  | cons v vs ih => exact ih ⟨ownsRow_setCell_other h.1 (fun e9 => absurd (h.1.lt _ e9).1 (by show ¬ lo ≤ q; omega)) v, h.2.1.mono (by simp), h.2.2⟩ (o + 1)
theorem tmp2_cell {fn : Func} {p u t : Tmp} {ty : TypeId} (h : fn.results = #[.tmp u, .tmp t, .cell p ty]) (tmps : Array Value) (P : Program) (w : World) :
    (results fn tmps).run P w = ((asAddr (tmps.getD p undef)).run P w).andThen fun a w1 => ((loadVar ty a).run P w1).andThen fun v w2 => .ok (.tuple #[tmps.getD u undef, tmps.getD t undef, v]) w2 := by
  simp only [results, h]
  simp [Sem.run_bind, Result.andThen]
theorem sectionOf_any (P : Option Addr) (p k : Nat) (hk : k ≤ 20) (b : Nat) (A : Option Addr) (n c m : Nat) (w : World) (h : Cur w b A n c m) (hm : m ≤ 900000) :
    Calls Try.prog 120 #[.pointer (some ⟨b, 0, none⟩), .slice P k p] w fun e w' => (∃ x : Int, e = .returned (.int .i64 x)) ∧ Cur w' b A n c (m + 2) ∧ Only b (b + 1) w w' := by
  have hb0 := h.lt
  have S := Lib.hid (Std.start h)
  have qk : IntKind.i64.wrap ((k : Int) + 1) = (k : Int) + 1 := by rw [IntKind.wrap_i64]; omega
  clear h
  go_enter Try.func120, Try.ntmps120
  go_wp2_with fail
  refine (pickZ_any ((k : Int) + 1) (by omega) b A n c _ _ S.out.cur (by omega)).mono ?_
  rintro e v1 ⟨⟨y, rfl, hy⟩, hc, ho⟩
  replace S := Lib.hid (S.out.draw hc ho)
  clear hc ho 
  go_wp2_with fail
  refine (pick_any 20 (by omega) (by omega) b A n c _ _ S.out.cur (by omega)).mono ?_
  rintro e v2 ⟨⟨t, rfl, ht⟩, hc, ho⟩
  replace S := Lib.hid (S.out.draw hc ho)
  clear hc ho 
  go_wp2_with (go_ret; exact ⟨⟨_, rfl⟩, S.out.cur, S.out.on⟩)
set_option maxRecDepth 100000 in
set_option maxHeartbeats 4000000 in
theorem DrawSectionNumber_any (A : Option Addr) (n c : Nat) (w : World) (h : BytesC w A n) (hn : n ≤ 65536) :
    Calls Try.prog 108 #[.slice A n c] w fun e w' => ∃ (P : Option Addr) (p : Nat) (xs : List Sec) (i : Int), e = .returned (.tuple #[.slice P xs.length p, .int .i64 i]) ∧ DrS w P p xs w' := by
  have S := Lib.hid (Tst.mk (Cur.new_ (c := c) h hn 88) (below1 w _) h (Nat.le_refl _))
  have hb0 : w.heap.size < (w.alloc (.cells #[.slice A n c, .int .i64 0, .int .u64 0] 88)).heap.size := by simp
  clear h
  go_enter Try.func108, Try.ntmps108
  go_upto_region 2 with fail
  generalize (w.alloc (.cells #[.slice A n c, .int .i64 0, .int .u64 0] 88)) = v1 at *
  go_wp2_with fail
  refine (document_any w.heap.size A n c _ _ S.out.cur (by omega)).mono ?_
  rintro e v2 ⟨P, p, xs, rfl, hxl, o1, hc, ho⟩
  replace S := Lib.hid (S.out.draw hc ho)
  have RR := Lib.hid o1
  clear hc ho o1
  go_wp2_with fail
  refine (sectionOf_any P p xs.length hxl w.heap.size A n c _ _ S.out.cur (by omega)).mono ?_
  rintro e v3 ⟨⟨i, rfl⟩, hc, ho⟩
  replace S := Lib.hid (S.out.draw hc ho)
  replace RR := Lib.hid (RR.out.draw ho (by omega))
  clear hc ho 
  go_wp2_with (refine bodyPost_ret (v := .tuple #[.slice P xs.length p, .int .i64 i]) (by simp [results, Try.results108, go_sem]) rfl ?_; exact ⟨P, p, xs, i, rfl, RR.out.low (by omega), hxl, S.out.on⟩)
set_option maxRecDepth 100000 in
set_option maxHeartbeats 4000000 in
theorem DrawCutSection_any (A : Option Addr) (n c : Nat) (w : World) (h : BytesC w A n) (hn : n ≤ 65536) :
    Calls Try.prog 51 #[.slice A n c] w fun e w' => ∃ (P : Option Addr) (p : Nat) (xs : List Sec) (i : Int), e = .returned (.tuple #[.slice P xs.length p, .int .i64 i]) ∧ DrS w P p xs w' := by
  have H := Lib.hid h
  clear h
  go_enter Try.func51, Try.ntmps51
  go_wp2_with fail
  refine (DrawSectionNumber_any A n c w H.out hn).mono ?_
  rintro e w1 ⟨P, p, xs, i, rfl, hd⟩
  have HD := Lib.hid hd
  clear hd
  go_wp2_with (refine bodyPost_ret (v := .tuple #[.slice P xs.length p, .int .i64 i]) (by simp [results, Try.results51, go_sem]) rfl ?_; exact ⟨P, p, xs, i, rfl, HD.out⟩)
set_option maxRecDepth 100000 in
set_option maxHeartbeats 4000000 in
theorem DrawBelongsTo_any (A : Option Addr) (n c : Nat) (w : World) (h : BytesC w A n) (hn : n ≤ 65536) :
    Calls Try.prog 64 #[.slice A n c] w fun e w' => ∃ (P : Option Addr) (p : Nat) (xs : List Sec) (i : Int), e = .returned (.tuple #[.slice P xs.length p, .int .i64 i]) ∧ DrS w P p xs w' := by
  have H := Lib.hid h
  clear h
  go_enter Try.func64, Try.ntmps64
  go_wp2_with fail
  refine (DrawSectionNumber_any A n c w H.out hn).mono ?_
  rintro e w1 ⟨P, p, xs, i, rfl, hd⟩
  have HD := Lib.hid hd
  clear hd
  go_wp2_with (refine bodyPost_ret (v := .tuple #[.slice P xs.length p, .int .i64 i]) (by simp [results, Try.results64, go_sem]) rfl ?_; exact ⟨P, p, xs, i, rfl, HD.out⟩)
set_option maxRecDepth 100000 in
set_option maxHeartbeats 4000000 in
theorem DrawShiftSection_any (A : Option Addr) (n c : Nat) (w : World) (h : BytesC w A n) (hn : n ≤ 65536) :
    Calls Try.prog 61 #[.slice A n c] w fun e w' => ∃ (P : Option Addr) (p : Nat) (xs : List Sec) (i q : Int), e = .returned (.tuple #[.slice P xs.length p, .int .i64 i, .int .i64 q]) ∧ DrS w P p xs w' := by
  have S := Lib.hid (Tst.mk (Cur.new_ (c := c) h hn 88) (below1 w _) h (Nat.le_refl _))
  have hb0 : w.heap.size < (w.alloc (.cells #[.slice A n c, .int .i64 0, .int .u64 0] 88)).heap.size := by simp
  clear h
  go_enter Try.func61, Try.ntmps61
  go_upto_region 2 with fail
  generalize (w.alloc (.cells #[.slice A n c, .int .i64 0, .int .u64 0] 88)) = v1 at *
  go_wp2_with fail
  refine (document_any w.heap.size A n c _ _ S.out.cur (by omega)).mono ?_
  rintro e v2 ⟨P, p, xs, rfl, hxl, o1, hc, ho⟩
  replace S := Lib.hid (S.out.draw hc ho)
  have RR := Lib.hid o1
  clear hc ho o1
  go_wp2_with fail
  refine (sectionOf_any P p xs.length hxl w.heap.size A n c _ _ S.out.cur (by omega)).mono ?_
  rintro e v3 ⟨⟨i, rfl⟩, hc, ho⟩
  replace S := Lib.hid (S.out.draw hc ho)
  replace RR := Lib.hid (RR.out.draw ho (by omega))
  clear hc ho 
  have HL := Lib.hid (lit_cellsI v3 [0, 1, -1, 1, -1, 2, 4, -4, 5] 3 v3.heap.size rfl)
  have HLb : v3.heap.size ≠ w.heap.size := by have := S.out.bw; omega
  have hbl := below1 v3 (.cells ((([0, 1, -1, 1, -1, 2, 4, -4, 5] : List Int).map (Value.int .i64)).toArray) 3)
  replace S := Lib.hid (S.out.call hbl)
  replace RR := Lib.hid (RR.out.call hbl)
  clear hbl
  go_wp2_with fail
  refine (among_any [0, 1, -1, 1, -1, 2, 4, -4, 5] (some ⟨v3.heap.size, 0, none⟩) 9 (by simp) (by simp) w.heap.size A n c _ _ S.out.cur (by omega) HL.out (fun a ha => by obtain rfl := Option.some.inj ha; exact HLb)).mono ?_
  rintro e v4 ⟨⟨q, rfl, hq⟩, hc, ho⟩
  replace S := Lib.hid (S.out.draw hc ho)
  replace RR := Lib.hid (RR.out.draw ho (by omega))
  clear hc ho HL HLb
  clear hq
  go_wp2_with (refine bodyPost_ret (v := .tuple #[.slice P xs.length p, .int .i64 i, .int .i64 q]) (by simp [results, Try.results61, go_sem]) rfl ?_; exact ⟨P, p, xs, i, q, rfl, RR.out.low (by omega), hxl, S.out.on⟩)
set_option maxRecDepth 100000 in
set_option maxHeartbeats 4000000 in
theorem DrawAddSection_any (A : Option Addr) (n c : Nat) (w : World) (h : BytesC w A n) (hn : n ≤ 65536) :
    Calls Try.prog 58 #[.slice A n c] w fun e w' => ∃ (P : Option Addr) (p : Nat) (xs : List Sec) (i : Int) (x : Sec), e = .returned (.tuple #[.slice P xs.length p, .int .i64 i, .agg #[.int .i64 x.d, .string x.t]]) ∧ SectionK.fit x ∧ DrS w P p xs w' := by
  have Z := Lib.hid (BT.new w #[.int .i64 0, .string ⟨#[]⟩] 78 w.heap.size rfl)
  have HB0 := Lib.hid (below1 w (.cells #[.int .i64 0, .string ⟨#[]⟩] 78))
  have hs0 : w.heap.size + 1 = (w.alloc (.cells #[.int .i64 0, .string ⟨#[]⟩] 78)).heap.size := by simp
  have h0 := h.below_ HB0.out
  clear h
  go_enter Try.func58, Try.ntmps58
  go_upto_region 1 with fail
  generalize (w.alloc (.cells #[.int .i64 0, .string ⟨#[]⟩] 78)) = w0 at *
  have S := Lib.hid (Tst.mk (Cur.new_ (c := c) h0 hn 88) (below1 w0 _) h0 (Nat.le_refl _))
  have hb0 : w0.heap.size < (w0.alloc (.cells #[.slice A n c, .int .i64 0, .int .u64 0] 88)).heap.size := by simp
  replace Z := Lib.hid (Z.out.call (below1 w0 (.cells #[.slice A n c, .int .i64 0, .int .u64 0] 88)))
  clear h0
  go_upto_region 2 with fail
  generalize (w0.alloc (.cells #[.slice A n c, .int .i64 0, .int .u64 0] 88)) = v1 at *
  go_wp2_with fail
  refine (document_any w0.heap.size A n c _ _ S.out.cur (by omega)).mono ?_
  rintro e v2 ⟨P, p, xs, rfl, hxl, o1, hc, ho⟩
  replace Z := Lib.hid (Z.out.draw ho (by omega))
  replace S := Lib.hid (S.out.draw hc ho)
  have RR := Lib.hid o1
  clear hc ho o1
  have qk : IntKind.i64.wrap ((xs.length : Int) + 2) = (xs.length : Int) + 2 := by rw [IntKind.wrap_i64]; omega
  go_wp2_with fail
  refine (pickZ_any ((xs.length : Int) + 2) (by omega) w0.heap.size A n c _ _ S.out.cur (by omega)).mono ?_
  rintro e v3 ⟨⟨y, rfl, hy⟩, hc, ho⟩
  replace Z := Lib.hid (Z.out.draw ho (by omega))
  replace S := Lib.hid (S.out.draw hc ho)
  replace RR := Lib.hid (RR.out.draw ho (by omega))
  clear hc ho 
  go_wp2_with fail
  refine (pick_any 20 (by omega) (by omega) w0.heap.size A n c _ _ S.out.cur (by omega)).mono ?_
  rintro e v4 ⟨⟨t, rfl, ht⟩, hc, ho⟩
  replace Z := Lib.hid (Z.out.draw ho (by omega))
  replace S := Lib.hid (S.out.draw hc ho)
  replace RR := Lib.hid (RR.out.draw ho (by omega))
  clear hc ho 
  clear hy ht qk
  go_upto_region 4 with fail
  obtain ⟨i, hi⟩ : ∃ i : Int, wrap64 ((y : Int) - wrap64 ((t : Int) / 19)) = i := ⟨_, rfl⟩
  rw [hi]
  clear hi
  have HL := Lib.hid (lit_cellsI v4 [1, 1, 2, 2, 3, 4, 0, 5] 3 v4.heap.size rfl)
  have HLb : v4.heap.size ≠ w0.heap.size := by have := S.out.bw; omega
  have hbl := below1 v4 (.cells ((([1, 1, 2, 2, 3, 4, 0, 5] : List Int).map (Value.int .i64)).toArray) 3)
  replace Z := Lib.hid (Z.out.call hbl)
  replace S := Lib.hid (S.out.call hbl)
  replace RR := Lib.hid (RR.out.call hbl)
  clear hbl
  go_wp2_with fail
  refine (pick_any 24 (by omega) (by omega) w0.heap.size A n c _ _ S.out.cur (by omega)).mono ?_
  rintro e v5 ⟨⟨t, rfl, ht⟩, hc, ho⟩
  replace Z := Lib.hid (Z.out.draw ho (by omega))
  replace S := Lib.hid (S.out.draw hc ho)
  replace RR := Lib.hid (RR.out.draw ho (by omega))
  replace HL := Lib.hid (HL.out.block2 (w' := v5) (fun a ha hl => ho.block _ hl (by (obtain rfl := Option.some.inj ha); (have := HLb); (show v4.heap.size < w0.heap.size ∨ w0.heap.size + 1 ≤ v4.heap.size); omega)))
  clear hc ho 
  obtain ⟨z, hz⟩ : ∃ z : Nat, z = t / 11 := ⟨_, rfl⟩
  have hz2 : z = 0 ∨ z = 1 ∨ z = 2 := by omega
  have e2 : (t : Int) / 11 = (z : Int) := by omega
  have e3 : (t : Int).tdiv 11 = (z : Int) := by rw [Int.tdiv_eq_ediv_of_nonneg (by omega)]; exact e2
  clear hz
  rcases hz2 with rfl | rfl | rfl
  · skip
    go_wp2_with fail
    refine (among_any [1, 1, 2, 2, 3, 4] (some ⟨v4.heap.size, 0, none⟩) 8 (by simp) (by simp) w0.heap.size A n c _ _ S.out.cur (by omega) (show Cells _ _ (IntK.row [1, 1, 2, 2, 3, 4]) from takeS IntK (n := 6) HL.out) (fun a ha => by obtain rfl := Option.some.inj ha; exact HLb)).mono ?_
    rintro e v6 ⟨⟨d, rfl, hd⟩, hc, ho⟩
    replace Z := Lib.hid (Z.out.draw ho (by omega))
    replace S := Lib.hid (S.out.draw hc ho)
    replace RR := Lib.hid (RR.out.draw ho (by omega))
    clear hc ho 
    clear hd HL HLb
    go_wp2_with fail
    refine (word_any w0.heap.size A n c _ _ S.out.cur (by omega)).mono ?_
    rintro e v7 ⟨⟨t, rfl, ht⟩, hc, ho⟩
    replace Z := Lib.hid (Z.out.draw ho (by omega))
    replace S := Lib.hid (S.out.draw hc ho)
    replace RR := Lib.hid (RR.out.draw ho (by omega))
    have HX := Lib.hid (fitS11 (x := ⟨d, t⟩) ht)
    clear hc ho ht
    go_wp2_with (first | ((refine wpList_store_mid rfl 78 _ _ rfl w.heap.size 0 #[.int .i64 d, .string t] rfl rfl Z.out.there (by kernel_rfl) (by simp [Value.oneCell']) ?_); replace Z := Lib.hid (Z.out.puts [.int .i64 d, .string t] (by rfl)); have KS := Z.out.box; have k0 := KS.1 0 _ rfl; have k1 := KS.1 1 _ rfl; clear KS; have HB9 := Lib.hid (show Below w.heap.size w (v7.setCells w.heap.size 0 [.int .i64 d, .string t]) from below_puts_ (HB0.out.trans (S.out.on.mono HB0.out.size)) (Nat.le_refl _) _ _); replace RR := Lib.hid (OwD.putsN w.heap.size (by omega) RR.out 0 [.int .i64 d, .string t])) | (refine bodyPost_ret (v := .tuple #[.slice P xs.length p, .int .i64 i, .agg #[.int .i64 d, .string t]]) (by rw [tmp2_cell Try.results58]; simp [go_sem, k0, k1]) rfl ?_; exact ⟨P, p, xs, i, ⟨d, t⟩, rfl, HX.out, RR.out.low (by omega), hxl, HB9.out⟩))
  · skip
    go_wp2_with fail
    refine (among_any [1, 1, 2, 2, 3, 4, 0] (some ⟨v4.heap.size, 0, none⟩) 8 (by simp) (by simp) w0.heap.size A n c _ _ S.out.cur (by omega) (show Cells _ _ (IntK.row [1, 1, 2, 2, 3, 4, 0]) from takeS IntK (n := 7) HL.out) (fun a ha => by obtain rfl := Option.some.inj ha; exact HLb)).mono ?_
    rintro e v8 ⟨⟨d, rfl, hd⟩, hc, ho⟩
    replace Z := Lib.hid (Z.out.draw ho (by omega))
    replace S := Lib.hid (S.out.draw hc ho)
    replace RR := Lib.hid (RR.out.draw ho (by omega))
    clear hc ho 
    clear hd HL HLb
    go_wp2_with fail
    refine (word_any w0.heap.size A n c _ _ S.out.cur (by omega)).mono ?_
    rintro e v9 ⟨⟨t, rfl, ht⟩, hc, ho⟩
    replace Z := Lib.hid (Z.out.draw ho (by omega))
    replace S := Lib.hid (S.out.draw hc ho)
    replace RR := Lib.hid (RR.out.draw ho (by omega))
    have HX := Lib.hid (fitS11 (x := ⟨d, t⟩) ht)
    clear hc ho ht
    go_wp2_with (first | ((refine wpList_store_mid rfl 78 _ _ rfl w.heap.size 0 #[.int .i64 d, .string t] rfl rfl Z.out.there (by kernel_rfl) (by simp [Value.oneCell']) ?_); replace Z := Lib.hid (Z.out.puts [.int .i64 d, .string t] (by rfl)); have KS := Z.out.box; have k0 := KS.1 0 _ rfl; have k1 := KS.1 1 _ rfl; clear KS; have HB9 := Lib.hid (show Below w.heap.size w (v9.setCells w.heap.size 0 [.int .i64 d, .string t]) from below_puts_ (HB0.out.trans (S.out.on.mono HB0.out.size)) (Nat.le_refl _) _ _); replace RR := Lib.hid (OwD.putsN w.heap.size (by omega) RR.out 0 [.int .i64 d, .string t])) | (refine bodyPost_ret (v := .tuple #[.slice P xs.length p, .int .i64 i, .agg #[.int .i64 d, .string t]]) (by rw [tmp2_cell Try.results58]; simp [go_sem, k0, k1]) rfl ?_; exact ⟨P, p, xs, i, ⟨d, t⟩, rfl, HX.out, RR.out.low (by omega), hxl, HB9.out⟩))
  · skip
    go_wp2_with fail
    refine (among_any [1, 1, 2, 2, 3, 4, 0, 5] (some ⟨v4.heap.size, 0, none⟩) 8 (by simp) (by simp) w0.heap.size A n c _ _ S.out.cur (by omega) (show Cells _ _ (IntK.row [1, 1, 2, 2, 3, 4, 0, 5]) from takeS IntK (n := 8) HL.out) (fun a ha => by obtain rfl := Option.some.inj ha; exact HLb)).mono ?_
    rintro e v10 ⟨⟨d, rfl, hd⟩, hc, ho⟩
    replace Z := Lib.hid (Z.out.draw ho (by omega))
    replace S := Lib.hid (S.out.draw hc ho)
    replace RR := Lib.hid (RR.out.draw ho (by omega))
    clear hc ho 
    clear hd HL HLb
    go_wp2_with fail
    refine (word_any w0.heap.size A n c _ _ S.out.cur (by omega)).mono ?_
    rintro e v11 ⟨⟨t, rfl, ht⟩, hc, ho⟩
    replace Z := Lib.hid (Z.out.draw ho (by omega))
    replace S := Lib.hid (S.out.draw hc ho)
    replace RR := Lib.hid (RR.out.draw ho (by omega))
    have HX := Lib.hid (fitS11 (x := ⟨d, t⟩) ht)
    clear hc ho ht
    go_wp2_with (first | ((refine wpList_store_mid rfl 78 _ _ rfl w.heap.size 0 #[.int .i64 d, .string t] rfl rfl Z.out.there (by kernel_rfl) (by simp [Value.oneCell']) ?_); replace Z := Lib.hid (Z.out.puts [.int .i64 d, .string t] (by rfl)); have KS := Z.out.box; have k0 := KS.1 0 _ rfl; have k1 := KS.1 1 _ rfl; clear KS; have HB9 := Lib.hid (show Below w.heap.size w (v11.setCells w.heap.size 0 [.int .i64 d, .string t]) from below_puts_ (HB0.out.trans (S.out.on.mono HB0.out.size)) (Nat.le_refl _) _ _); replace RR := Lib.hid (OwD.putsN w.heap.size (by omega) RR.out 0 [.int .i64 d, .string t])) | (refine bodyPost_ret (v := .tuple #[.slice P xs.length p, .int .i64 i, .agg #[.int .i64 d, .string t]]) (by rw [tmp2_cell Try.results58]; simp [go_sem, k0, k1]) rfl ?_; exact ⟨P, p, xs, i, ⟨d, t⟩, rfl, HX.out, RR.out.low (by omega), hxl, HB9.out⟩))
end Go.Proofs.Ytifahgdalgjgfaa
