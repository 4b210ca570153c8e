/- The draw of an amendment. Conditions: the ranges named. -/
import Derived.Test.YtgchbimjgdoifaaDw2
import Derived.Test.YtgchbimjgdoifaaDo
import Derived.Deep.Cut
import Derived.Deep.DeepCutAuto
namespace Go.Proofs.Ytgchbimjgdoifaa
open Go.RowKit
set_option linter.unusedVariables false
set_option linter.unusedSimpArgs false
theorem lit_cellsI (w : World) (xs : List Int) (T : TypeId) (g : Nat) (hg : g = w.heap.size) : Cells (w.alloc (.cells (xs.map (Value.int .i64)).toArray T)) (some ⟨g, 0, none⟩) (IntK.row xs) := fun i u hi => by
  subst hg
  rw [intK_row] at hi
  refine ⟨_, rfl, ?_⟩
  rw [add_head]
  exact (BoxL.new w _ T).2 i u (by simpa using hi)
theorem BoxF.only_ {w w' : World} {q lo hi : Nat} {vs : List Value} (h : BoxF w q vs) (ho : Only lo hi w w') (hq : q < w.heap.size) (hd : hi ≤ q) : BoxF w' q vs := h.blk (ho.block q hq (.inr hd))
theorem BoxF.setO {w : World} {r q i : Nat} {vs : List Value} (h : BoxF w r vs) (hq : q ≠ r) (u : Value) : BoxF (w.setCell ⟨q, i, none⟩ u) r vs := h.blk (Below.heap_setCell w _ _ _ (by simp; omega))
def wdNew : ByteArray := ⟨#[110, 101, 119]⟩
def wdBad : List ByteArray := [⟨#[65]⟩, ⟨#[120]⟩, ⟨#[]⟩]
theorem wdBad_short : ∀ s ∈ wdBad, s.size ≤ 11 := by
  intro s hs
  simp only [wdBad, List.mem_cons, List.not_mem_nil, or_false] at hs
  rcases hs with rfl | rfl | rfl <;> decide
set_option maxRecDepth 100000 in
set_option maxHeartbeats 4000000 in
theorem amendment_any (T : Option Addr) (t l : Nat) (b : Nat) (A : Option Addr) (n c m : Nat) (w : World) (h : Cur w b A n c m) (hm : m ≤ 800000) (hl : l ≤ 100) :
    Calls Try.prog 85 #[.pointer (some ⟨b, 0, none⟩), .slice T l t] w fun e w' => ∃ (N : Option Addr) (d : Nat) (a : Amd), e = .returned (.agg #[.int .i64 a.k, .int .i64 a.p, .int .i64 a.n, .slice N a.ws.length d]) ∧ a.ws.length ≤ 5 ∧ Short a.ws ∧ w'.ownsRow w.heap.size 9 1 (.slice N a.ws.length d) a.ws.length (strs a.ws) ∧ Cur w' b A n c (m + 20) ∧ Only b (b + 1) w w' := by
  have HB0 := Lib.hid h.bytes
  have hlt := h.lt
  have hbl := below1 w (.cells #[.int .i64 0, .int .i64 0, .int .i64 0, .slice none 0 0] 40)
  have HC := Lib.hid (h.below hbl)
  have HR := Lib.hid (BoxF.new' w #[.int .i64 0, .int .i64 0, .int .i64 0, .slice none 0 0] 40 w.heap.size rfl)
  have HN := Lib.hid (show Only b (b + 1) w (w.alloc (.cells #[.int .i64 0, .int .i64 0, .int .i64 0, .slice none 0 0] 40)) from Only.of_below hbl)
  have hrz : w.heap.size < (w.alloc (.cells #[.int .i64 0, .int .i64 0, .int .i64 0, .slice none 0 0] 40)).heap.size := by simp
  clear h hbl
  go_enter Try.func85, Try.ntmps85
  go_upto_region 1 with fail
  generalize w.alloc (.cells #[.int .i64 0, .int .i64 0, .int .i64 0, .slice none 0 0] 40) = W0 at *
  have q1 : IntKind.i64.wrap ((l : Int) + 1) = (l : Int) + 1 := by rw [IntKind.wrap_i64]; omega
  go_wp2_with fail
  refine (pickZ_any ((l : Int) + 1) (by omega) b A n c m W0 HC.out (by omega)).mono ?_
  rintro e w1 ⟨⟨x1, rfl, hx1⟩, hc, ho⟩
  have hx1l : x1 ≤ l := by omega
  have HC := Lib.hid hc
  have HR := Lib.hid (HR.out.only_ ho hrz (by omega))
  have HN := Lib.hid (HN.out.trans ho)
  have hrz := Nat.lt_of_lt_of_le hrz ho.size
  clear hc ho hx1
  have q2 : IntKind.i64.wrap ((l : Int) - x1) = (l : Int) - x1 := by rw [IntKind.wrap_i64]; omega
  have q3 : IntKind.i64.wrap ((l : Int) - x1 + 1) = (l : Int) - x1 + 1 := by rw [IntKind.wrap_i64]; omega
  obtain ⟨M, hM⟩ : ∃ M, Hid ((if (l : Int) - x1 + 1 < 4 then (l : Int) - x1 + 1 else 4) = M) := ⟨_, Lib.hid rfl⟩
  have hM2 : M ≤ 200 := by rw [← hM.out]; split <;> omega
  go_wp2_with fail
  refine (l1Least_any 4 ((l : Int) - x1 + 1) w1).mono ?_
  rintro e w' ⟨rfl, hw⟩
  rw [hw, hM.out]
  clear hw
  go_wp2_with fail
  refine (pickZ_any M hM2 b A n c _ w1 HC.out (by omega)).mono ?_
  rintro e w2 ⟨⟨x3, rfl, hx3⟩, hc, ho⟩
  have HC := Lib.hid hc
  have HR := Lib.hid (HR.out.only_ ho hrz (by omega))
  have HN := Lib.hid (HN.out.trans ho)
  have hrz := Nat.lt_of_lt_of_le hrz ho.size
  clear hc ho hx3 hM hM2 q1 q2 q3
  go_wp2_with fail
  refine (words_any 3 (by omega) (by omega) b A n c _ w2 HC.out (by omega)).mono ?_
  rintro e w3 ⟨O, d, ss, rfl, hsl, hss, own, hc, ho⟩
  have HC := Lib.hid hc
  have HR := Lib.hid (HR.out.only_ ho hrz (by omega))
  have HN := Lib.hid (HN.out.trans ho)
  have HO := Lib.hid (own_mono own (show w.heap.size + 1 ≤ w2.heap.size from hrz))
  have HS := Lib.hid hss
  have hrz := Nat.lt_of_lt_of_le hrz ho.size
  clear hc ho hss own
  go_upto_region 5 with fail
  obtain ⟨B, hB⟩ : ∃ B, Hid (((x3 : Int) == 0 && (ss.length : Int) == 0) = B) := ⟨_, Lib.hid rfl⟩
  go_cut [31] (fun s wx => s = .bool B ∧ wx = w3)
  case first =>
    rcases Bool.eq_false_or_eq_true ((x3 : Int) == 0) with e3 | e3
    · rcases Bool.eq_false_or_eq_true ((ss.length : Int) == 0) with e4 | e4
      · have hBB := hB.out
        rw [e3, e4] at hBB
        go_wp2_with fail
        go_meet
        exact ⟨by rw [← hBB]; rfl, rfl⟩
      · have hBB := hB.out
        rw [e3, e4] at hBB
        go_wp2_with fail
        go_meet
        exact ⟨by rw [← hBB]; rfl, rfl⟩
    · have hBB := hB.out
      rw [e3] at hBB
      go_wp2_with fail
      go_meet
      exact ⟨by rw [← hBB]; rfl, rfl⟩
  obtain ⟨rfl, hwc⟩ := hcut
  have hwc2 := hwc.symm
  clear hwc
  subst hwc2
  go_upto_if 31 with fail
  go_cut [8] (fun u wx => ∃ (O : Option Addr) (d : Nat) (ws : List ByteArray), u = .slice O ws.length d ∧ ws.length ≤ 4 ∧ Hid (Short ws) ∧ Hid (wx.ownsRow (w.heap.size + 1) 9 1 (.slice O ws.length d) ws.length (strs ws)) ∧ Hid (BoxF wx w.heap.size [.int .i64 0, .int .i64 0, .int .i64 0, .slice none 0 0]) ∧ Hid (Cur wx b A n c (m + 10)) ∧ Hid (Only b (b + 1) w wx) ∧ w.heap.size < wx.heap.size)
  case first =>
    rcases Bool.eq_false_or_eq_true B with e3 | e3
    · subst e3
      have HB := Lib.hid (below1 w3 (.cells #[.string wdNew] 9))
      have HO2 : Hid ((w3.alloc (.cells #[.string wdNew] 9)).ownsRow (w.heap.size + 1) 9 1 (.slice (some ⟨w3.heap.size, 0, none⟩) 1 1) 1 (strs [wdNew])) := Lib.hid (World.ownsRow_lit w3 #[.string wdNew] 1 hrz (by unfold maxLen; omega) (by rfl))
      go_wp2_with fail
      go_meet
      exact ⟨_, _, [wdNew], rfl, by simp, Lib.hid (fun s hs => by simp at hs; subst hs; decide), HO2, Lib.hid (HR.out.below HB.out hrz), Lib.hid ((HC.out.below HB.out).mono (by omega)), Lib.hid (HN.out.trans (Only.of_below HB.out)), by simp; omega⟩
    · subst e3
      go_wp2_with fail
      go_meet
      exact ⟨_, _, ss, rfl, by omega, HS, HO, HR, Lib.hid (HC.out.mono (by omega)), HN, hrz⟩
  case rest =>
    clear HO HR HC HN HS hrz hsl
    obtain ⟨W, rfl⟩ : ∃ W, W = wc := ⟨_, rfl⟩
    obtain ⟨O, d, ws, rfl, hwl, HSW, HO, HR, HC, HN, hrz⟩ := hcut
    obtain ⟨K, hK⟩ : ∃ K, Hid (kindI (x3 : Int) ws = K) := ⟨_, Lib.hid rfl⟩
    go_wp2_with fail
    refine (l9Kind_any (x1 : Int) (x3 : Int) O d ws W (Cells.of_own HO.out) (by omega)).mono ?_
    rintro e w4 ⟨N, nd, rfl, own, hb⟩
    rw [hK.out]
    rw [hK.out] at *
    have hb2 := hb.trans ((below1 w4 (.cells #[.int .i64 K, .int .i64 x1, .int .i64 x3, .slice N ws.length nd] 40)).mono hb.size)
    have HC := Lib.hid (HC.out.below hb2)
    have HR := Lib.hid (HR.out.below hb2 hrz)
    have HN := Lib.hid (HN.out.trans (Only.of_below hb2))
    have HU := Lib.hid (Under.own own)
    have HO := Lib.hid (own_mono (own_alloc own (.cells #[.int .i64 K, .int .i64 x1, .int .i64 x3, .slice N ws.length nd] 40)) (show w.heap.size + 1 ≤ W.heap.size from hrz))
    have HQ := Lib.hid (BoxF.new' w4 #[.int .i64 K, .int .i64 x1, .int .i64 x3, .slice N ws.length nd] 40 w4.heap.size rfl)
    have HNQ := Lib.hid (show (Value.slice N ws.length nd).ownBlock ≠ some w4.heap.size from fun e => Nat.lt_irrefl _ (own.lt _ e).2)
    have hqz : w4.heap.size < (w4.alloc (.cells #[.int .i64 K, .int .i64 x1, .int .i64 x3, .slice N ws.length nd] 40)).heap.size := by simp
    have hrz : w.heap.size < (w4.alloc (.cells #[.int .i64 K, .int .i64 x1, .int .i64 x3, .slice N ws.length nd] 40)).heap.size := Nat.lt_of_lt_of_le hrz hb2.size
    have hq1 : w.heap.size + 1 ≤ w4.heap.size := by have := hb.size; have := HN.out.size; omega
    clear own hb hb2
    go_wp2_with fail
    generalize w4.alloc (.cells #[.int .i64 K, .int .i64 x1, .int .i64 x3, .slice N ws.length nd] 40) = W4 at *
    generalize w4.heap.size = q at *
    refine (pick_any 20 (by omega) (by omega) b A n c _ W4 HC.out (by omega)).mono ?_
    rintro e w5 ⟨⟨z, rfl, hz⟩, hc, ho⟩
    have HC := Lib.hid hc
    have HR := Lib.hid (HR.out.only_ ho hrz (by omega))
    have HQ := Lib.hid (HQ.out.only_ ho hqz (by omega))
    have HO := Lib.hid (own_off HO.out ho (by omega))
    have HN := Lib.hid (HN.out.trans ho)
    have hrz := Nat.lt_of_lt_of_le hrz ho.size
    have hqz := Nat.lt_of_lt_of_le hqz ho.size
    clear hc ho hz
    by_cases z0 : z = 0
    · have e0 : ((z : Int) == 0) = true := by simp [z0]
      clear z0
      have hb7 := below1 w5 (.cells ((([0, 4, 1, 2, 3] : List Int).map (Value.int .i64)).toArray) 3)
      have HL7 := Lib.hid (lit_cellsI w5 [0, 4, 1, 2, 3] 3 w5.heap.size rfl)
      have HC7 := Lib.hid (HC.out.below hb7)
      have HO7 := Lib.hid (own_keep HO.out hb7)
      have HQ7 := Lib.hid (HQ.out.below hb7 hqz)
      have HR7 := Lib.hid (HR.out.below hb7 hrz)
      have HN7 := Lib.hid (HN.out.trans (Only.of_below hb7))
      have hne : w5.heap.size ≠ b := by omega
      have hq7 : q < (w5.alloc (.cells ((([0, 4, 1, 2, 3] : List Int).map (Value.int .i64)).toArray) 3)).heap.size := by simp; omega
      have hr7 : w.heap.size < (w5.alloc (.cells ((([0, 4, 1, 2, 3] : List Int).map (Value.int .i64)).toArray) 3)).heap.size := by simp; omega
      go_wp2_with fail
      refine (among_any [0, 4, 1, 2, 3] (some ⟨w5.heap.size, 0, none⟩) 5 (by simp) (by simp) b A n c _ (w5.alloc (.cells ((([0, 4, 1, 2, 3] : List Int).map (Value.int .i64)).toArray) 3)) HC7.out (by omega) HL7.out (fun a ha => by obtain rfl := Option.some.inj ha; exact hne)).mono ?_
      rintro e w6 ⟨⟨y, rfl, hy⟩, hc, ho⟩
      have HC := Lib.hid hc
      have HO := Lib.hid (own_off HO7.out ho (by omega))
      have HQ := Lib.hid (HQ7.out.only_ ho hq7 (by omega))
      have HR := Lib.hid (HR7.out.only_ ho hr7 (by omega))
      have HN := Lib.hid (HN7.out.trans ho)
      have hqz := Nat.lt_of_lt_of_le hq7 ho.size
      have hrz := Nat.lt_of_lt_of_le hr7 ho.size
      clear hc ho hy HC7 HO7 HQ7 HR7 HN7 HL7 hb7
      have y0 := HQ.out.1 0 _ rfl
      have y1 := HQ.out.1 1 _ rfl
      have y2 := HQ.out.1 2 _ rfl
      have y3 := HQ.out.1 3 _ rfl
      have yf := HQ.out.2
      have HQ9 := Lib.hid (HQ.out.set (k := 0) (by simp) (.int .i64 y))
      have HO9 := Lib.hid (ownsRow_setCell_other HO.out HNQ.out (a := ⟨q, 0, none⟩) (.int .i64 y))
      have HR9 := Lib.hid (HR.out.setO (q := q) (i := 0) (by omega) (.int .i64 y))
      have HC9 := Lib.hid (HC.out.belowB HB0.out (Below.setCell (p := ⟨q, 0, none⟩) (Below.refl (w.heap.size + 1) w6) hq1 (.int .i64 y)) (by omega) (by omega))
      have HN9 := Lib.hid (HN.out.of_belowB (Below.setCell (p := ⟨q, 0, none⟩) (Below.refl (w.heap.size + 1) w6) hq1 (.int .i64 y)) (by omega))
      go_upto_region 17 with fail
      generalize w6.setCell ⟨q, 0, none⟩ (.int .i64 y) = W9 at *
      simp only [List.set_cons_zero, List.set_cons_succ] at HQ9
      have HQ := HQ9
      have HO := HO9
      have HR := HR9
      have HC := HC9
      have HN := HN9
      have t0 := HQ.out.1 0 _ rfl
      have t1 := HQ.out.1 1 _ rfl
      have t2 := HQ.out.1 2 _ rfl
      have t3 := HQ.out.1 3 _ rfl
      have rf := HR.out.2
      have r0 := HR.out.1 0 _ rfl
      have r1 := HR.out.1 1 _ rfl
      have r2 := HR.out.1 2 _ rfl
      have r3 := HR.out.1 3 _ rfl
      go_wp2
      have KS := HR.out.set4 (.int .i64 y) (.int .i64 (x1 : Int)) (.int .i64 (x3 : Int)) (.slice N ws.length nd)
      have k0 := KS.1 0 _ rfl
      have k1 := KS.1 1 _ rfl
      have k2 := KS.1 2 _ rfl
      have k3 := KS.1 3 _ rfl
      refine bodyPost_ret (v := .agg #[.int .i64 y, .int .i64 (x1 : Int), .int .i64 (x3 : Int), .slice N ws.length nd]) (by simp [results, Try.results85, go_sem, k0, k1, k2, k3]) rfl ?_
      have hst : Below w.heap.size W9 ((((W9.setCell ⟨w.heap.size, 0, none⟩ (.int .i64 y)).setCell ⟨w.heap.size, 1, none⟩ (.int .i64 (x1 : Int))).setCell ⟨w.heap.size, 2, none⟩ (.int .i64 (x3 : Int))).setCell ⟨w.heap.size, 3, none⟩ (.slice N ws.length nd)) := by go_grown
      exact ⟨N, nd, ⟨y, (x1 : Int), (x3 : Int), ws⟩, rfl, (show ws.length ≤ 5 by omega), HSW.out, own_mono (own_off HO.out (only4 W9 w.heap.size _ _ _ _) (Nat.le_refl _)) (Nat.le_succ _), (HC.out.belowB HB0.out hst (Nat.le_refl _) hlt).mono (by omega), HN.out.of_belowB hst (Nat.le_refl _)⟩
    · have e0 : ((z : Int) == 0) = false := by simp; omega
      by_cases z1 : z = 1
      · have e1 : ((z : Int) == 1) = true := by simp [z1]
        have q1 : IntKind.i64.wrap ((l : Int) + 1) = (l : Int) + 1 := by rw [IntKind.wrap_i64]; omega
        clear z0 z1
        have hb7 := below1 w5 (.cells ((([-1, (l : Int) + 1, 20, 21] : List Int).map (Value.int .i64)).toArray) 3)
        have HL7 := Lib.hid (lit_cellsI w5 [-1, (l : Int) + 1, 20, 21] 3 w5.heap.size rfl)
        have HC7 := Lib.hid (HC.out.below hb7)
        have HO7 := Lib.hid (own_keep HO.out hb7)
        have HQ7 := Lib.hid (HQ.out.below hb7 hqz)
        have HR7 := Lib.hid (HR.out.below hb7 hrz)
        have HN7 := Lib.hid (HN.out.trans (Only.of_below hb7))
        have hne : w5.heap.size ≠ b := by omega
        have hq7 : q < (w5.alloc (.cells ((([-1, (l : Int) + 1, 20, 21] : List Int).map (Value.int .i64)).toArray) 3)).heap.size := by simp; omega
        have hr7 : w.heap.size < (w5.alloc (.cells ((([-1, (l : Int) + 1, 20, 21] : List Int).map (Value.int .i64)).toArray) 3)).heap.size := by simp; omega
        go_wp2_with fail
        refine (among_any [-1, (l : Int) + 1, 20, 21] (some ⟨w5.heap.size, 0, none⟩) 4 (by simp) (by simp) b A n c _ (w5.alloc (.cells ((([-1, (l : Int) + 1, 20, 21] : List Int).map (Value.int .i64)).toArray) 3)) HC7.out (by omega) HL7.out (fun a ha => by obtain rfl := Option.some.inj ha; exact hne)).mono ?_
        rintro e w6 ⟨⟨y, rfl, hy⟩, hc, ho⟩
        have HC := Lib.hid hc
        have HO := Lib.hid (own_off HO7.out ho (by omega))
        have HQ := Lib.hid (HQ7.out.only_ ho hq7 (by omega))
        have HR := Lib.hid (HR7.out.only_ ho hr7 (by omega))
        have HN := Lib.hid (HN7.out.trans ho)
        have hqz := Nat.lt_of_lt_of_le hq7 ho.size
        have hrz := Nat.lt_of_lt_of_le hr7 ho.size
        clear hc ho hy HC7 HO7 HQ7 HR7 HN7 HL7 hb7
        have y0 := HQ.out.1 0 _ rfl
        have y1 := HQ.out.1 1 _ rfl
        have y2 := HQ.out.1 2 _ rfl
        have y3 := HQ.out.1 3 _ rfl
        have yf := HQ.out.2
        have HQ9 := Lib.hid (HQ.out.set (k := 1) (by simp) (.int .i64 y))
        have HO9 := Lib.hid (ownsRow_setCell_other HO.out HNQ.out (a := ⟨q, 1, none⟩) (.int .i64 y))
        have HR9 := Lib.hid (HR.out.setO (q := q) (i := 1) (by omega) (.int .i64 y))
        have HC9 := Lib.hid (HC.out.belowB HB0.out (Below.setCell (p := ⟨q, 1, none⟩) (Below.refl (w.heap.size + 1) w6) hq1 (.int .i64 y)) (by omega) (by omega))
        have HN9 := Lib.hid (HN.out.of_belowB (Below.setCell (p := ⟨q, 1, none⟩) (Below.refl (w.heap.size + 1) w6) hq1 (.int .i64 y)) (by omega))
        go_upto_region 17 with fail
        generalize w6.setCell ⟨q, 1, none⟩ (.int .i64 y) = W9 at *
        simp only [List.set_cons_zero, List.set_cons_succ] at HQ9
        have HQ := HQ9
        have HO := HO9
        have HR := HR9
        have HC := HC9
        have HN := HN9
        have t0 := HQ.out.1 0 _ rfl
        have t1 := HQ.out.1 1 _ rfl
        have t2 := HQ.out.1 2 _ rfl
        have t3 := HQ.out.1 3 _ rfl
        have rf := HR.out.2
        have r0 := HR.out.1 0 _ rfl
        have r1 := HR.out.1 1 _ rfl
        have r2 := HR.out.1 2 _ rfl
        have r3 := HR.out.1 3 _ rfl
        go_wp2
        have KS := HR.out.set4 (.int .i64 K) (.int .i64 y) (.int .i64 (x3 : Int)) (.slice N ws.length nd)
        have k0 := KS.1 0 _ rfl
        have k1 := KS.1 1 _ rfl
        have k2 := KS.1 2 _ rfl
        have k3 := KS.1 3 _ rfl
        refine bodyPost_ret (v := .agg #[.int .i64 K, .int .i64 y, .int .i64 (x3 : Int), .slice N ws.length nd]) (by simp [results, Try.results85, go_sem, k0, k1, k2, k3]) rfl ?_
        have hst : Below w.heap.size W9 ((((W9.setCell ⟨w.heap.size, 0, none⟩ (.int .i64 K)).setCell ⟨w.heap.size, 1, none⟩ (.int .i64 y)).setCell ⟨w.heap.size, 2, none⟩ (.int .i64 (x3 : Int))).setCell ⟨w.heap.size, 3, none⟩ (.slice N ws.length nd)) := by go_grown
        exact ⟨N, nd, ⟨K, y, (x3 : Int), ws⟩, rfl, (show ws.length ≤ 5 by omega), HSW.out, own_mono (own_off HO.out (only4 W9 w.heap.size _ _ _ _) (Nat.le_refl _)) (Nat.le_succ _), (HC.out.belowB HB0.out hst (Nat.le_refl _) hlt).mono (by omega), HN.out.of_belowB hst (Nat.le_refl _)⟩
      · have e1 : ((z : Int) == 1) = false := by simp; omega
        by_cases z2 : z = 2
        · have e2 : ((z : Int) == 2) = true := by simp [z2]
          clear z0 z1 z2
          have hb7 := below1 w5 (.cells ((([-1, 5, 6] : List Int).map (Value.int .i64)).toArray) 3)
          have HL7 := Lib.hid (lit_cellsI w5 [-1, 5, 6] 3 w5.heap.size rfl)
          have HC7 := Lib.hid (HC.out.below hb7)
          have HO7 := Lib.hid (own_keep HO.out hb7)
          have HQ7 := Lib.hid (HQ.out.below hb7 hqz)
          have HR7 := Lib.hid (HR.out.below hb7 hrz)
          have HN7 := Lib.hid (HN.out.trans (Only.of_below hb7))
          have hne : w5.heap.size ≠ b := by omega
          have hq7 : q < (w5.alloc (.cells ((([-1, 5, 6] : List Int).map (Value.int .i64)).toArray) 3)).heap.size := by simp; omega
          have hr7 : w.heap.size < (w5.alloc (.cells ((([-1, 5, 6] : List Int).map (Value.int .i64)).toArray) 3)).heap.size := by simp; omega
          go_wp2_with fail
          refine (among_any [-1, 5, 6] (some ⟨w5.heap.size, 0, none⟩) 3 (by simp) (by simp) b A n c _ (w5.alloc (.cells ((([-1, 5, 6] : List Int).map (Value.int .i64)).toArray) 3)) HC7.out (by omega) HL7.out (fun a ha => by obtain rfl := Option.some.inj ha; exact hne)).mono ?_
          rintro e w6 ⟨⟨y, rfl, hy⟩, hc, ho⟩
          have HC := Lib.hid hc
          have HO := Lib.hid (own_off HO7.out ho (by omega))
          have HQ := Lib.hid (HQ7.out.only_ ho hq7 (by omega))
          have HR := Lib.hid (HR7.out.only_ ho hr7 (by omega))
          have HN := Lib.hid (HN7.out.trans ho)
          have hqz := Nat.lt_of_lt_of_le hq7 ho.size
          have hrz := Nat.lt_of_lt_of_le hr7 ho.size
          clear hc ho hy HC7 HO7 HQ7 HR7 HN7 HL7 hb7
          have y0 := HQ.out.1 0 _ rfl
          have y1 := HQ.out.1 1 _ rfl
          have y2 := HQ.out.1 2 _ rfl
          have y3 := HQ.out.1 3 _ rfl
          have yf := HQ.out.2
          have HQ9 := Lib.hid (HQ.out.set (k := 2) (by simp) (.int .i64 y))
          have HO9 := Lib.hid (ownsRow_setCell_other HO.out HNQ.out (a := ⟨q, 2, none⟩) (.int .i64 y))
          have HR9 := Lib.hid (HR.out.setO (q := q) (i := 2) (by omega) (.int .i64 y))
          have HC9 := Lib.hid (HC.out.belowB HB0.out (Below.setCell (p := ⟨q, 2, none⟩) (Below.refl (w.heap.size + 1) w6) hq1 (.int .i64 y)) (by omega) (by omega))
          have HN9 := Lib.hid (HN.out.of_belowB (Below.setCell (p := ⟨q, 2, none⟩) (Below.refl (w.heap.size + 1) w6) hq1 (.int .i64 y)) (by omega))
          go_upto_region 17 with fail
          generalize w6.setCell ⟨q, 2, none⟩ (.int .i64 y) = W9 at *
          simp only [List.set_cons_zero, List.set_cons_succ] at HQ9
          have HQ := HQ9
          have HO := HO9
          have HR := HR9
          have HC := HC9
          have HN := HN9
          have t0 := HQ.out.1 0 _ rfl
          have t1 := HQ.out.1 1 _ rfl
          have t2 := HQ.out.1 2 _ rfl
          have t3 := HQ.out.1 3 _ rfl
          have rf := HR.out.2
          have r0 := HR.out.1 0 _ rfl
          have r1 := HR.out.1 1 _ rfl
          have r2 := HR.out.1 2 _ rfl
          have r3 := HR.out.1 3 _ rfl
          go_wp2
          have KS := HR.out.set4 (.int .i64 K) (.int .i64 (x1 : Int)) (.int .i64 y) (.slice N ws.length nd)
          have k0 := KS.1 0 _ rfl
          have k1 := KS.1 1 _ rfl
          have k2 := KS.1 2 _ rfl
          have k3 := KS.1 3 _ rfl
          refine bodyPost_ret (v := .agg #[.int .i64 K, .int .i64 (x1 : Int), .int .i64 y, .slice N ws.length nd]) (by simp [results, Try.results85, go_sem, k0, k1, k2, k3]) rfl ?_
          have hst : Below w.heap.size W9 ((((W9.setCell ⟨w.heap.size, 0, none⟩ (.int .i64 K)).setCell ⟨w.heap.size, 1, none⟩ (.int .i64 (x1 : Int))).setCell ⟨w.heap.size, 2, none⟩ (.int .i64 y)).setCell ⟨w.heap.size, 3, none⟩ (.slice N ws.length nd)) := by go_grown
          exact ⟨N, nd, ⟨K, (x1 : Int), y, ws⟩, rfl, (show ws.length ≤ 5 by omega), HSW.out, own_mono (own_off HO.out (only4 W9 w.heap.size _ _ _ _) (Nat.le_refl _)) (Nat.le_succ _), (HC.out.belowB HB0.out hst (Nat.le_refl _) hlt).mono (by omega), HN.out.of_belowB hst (Nat.le_refl _)⟩
        · have e2 : ((z : Int) == 2) = false := by simp; omega
          by_cases z3 : z = 3
          · have e3 : ((z : Int) == 3) = true := by simp [z3]
            clear z0 z1 z2 z3
            have HB1 := Lib.hid (below1 w5 (.cells #[] 9))
            have hz5 := HN.out.size
            have y0 := HQ.out.1 0 _ rfl
            have y1 := HQ.out.1 1 _ rfl
            have y2 := HQ.out.1 2 _ rfl
            have y3 := HQ.out.1 3 _ rfl
            have yf := HQ.out.2
            have y3 := (HB1.out.cell (p := ⟨q, 3, none⟩) hqz).trans y3
            go_wp2_with (at_builtin; go_must (refine list_append_lit elStr _ rfl _ _ rfl w5.heap.size w5.heap.size N ws.length nd (strs ws) rfl rfl (strs_len1 ws) (own_nil_lit w5 _ _ _ _ rfl (Nat.le_refl _)) (Cells.of_own (own_keep HO.out HB1.out)) strs_one (by simp) (by omega) ?_); intro O6 d6 w6 own hb hq6; have HO6 := Lib.hid own; have HB6 := Lib.hid ((HB1.out.trans (hb.mono HB1.out.size)).trans (below1 w6 (.cells (strs wdBad).toArray 9) |>.mono (Nat.le_trans HB1.out.size hb.size))); have HB66 := Lib.hid (HB1.out.trans (hb.mono HB1.out.size)); clear own hb hq6 y0 y1 y2 y3 yf; skip)
            have HL6 := Lib.hid (cells_arr w6 (strs wdBad).toArray 9 w6.heap.size rfl)
            have HO6 := Lib.hid (own_alloc HO6.out (.cells (strs wdBad).toArray 9))
            have HC6 := Lib.hid (HC.out.below HB6.out)
            have HQ6 := Lib.hid (HQ.out.below HB6.out hqz)
            have HR6 := Lib.hid (HR.out.below HB6.out hrz)
            have HN6 := Lib.hid (HN.out.trans (Only.of_below HB6.out))
            have hq6 := Nat.lt_of_lt_of_le hqz HB6.out.size
            have hr6 := Nat.lt_of_lt_of_le hrz HB6.out.size
            have hne : w6.heap.size ≠ b := by have := HB66.out.size; omega
            refine (of_any wdBad (some ⟨w6.heap.size, 0, none⟩) 3 (by decide) (by decide) b A n c _ (w6.alloc (.cells (strs wdBad).toArray 9)) HC6.out (by omega) HL6.out (fun a ha => by obtain rfl := Option.some.inj ha; exact hne)).mono ?_
            rintro e w7 ⟨⟨s, rfl, hs⟩, hc, ho⟩
            have HSS := Lib.hid (wdBad_short s hs)
            have HC := Lib.hid hc
            have HO := Lib.hid (own_off HO6.out ho (by omega))
            have HQ := Lib.hid (HQ6.out.only_ ho hq6 (by omega))
            have HR := Lib.hid (HR6.out.only_ ho hr6 (by omega))
            have HN := Lib.hid (HN6.out.trans ho)
            have hz7 : w5.heap.size ≤ w7.heap.size := Nat.le_trans HB6.out.size ho.size
            clear hc ho hs HC6 HO6 HQ6 HR6 HN6 HL6 hq6 hr6
            go_upto_region 17 with (at_builtin; go_must (refine list_append_gr elStr _ rfl _ _ rfl w5.heap.size O6 _ d6 ws.length 1 1 (strs ws) (strs [s]) rfl rfl rfl (own_alloc HO.out _) (cells_arr _ #[.string s] _ _ rfl) strs_one (by simp; omega) (by omega) ?_); intro O8 d8 w8 own hb hg; have HO8 := Lib.hid own; have HB8 := Lib.hid (((below1 w7 (.cells #[.string s] 9)).mono hz7).trans hb); have y3 := (HB8.out.cell (p := ⟨q, 3, none⟩) hqz).trans (HQ.out.1 3 _ rfl); have yf := fun i => (HB8.out.frozen (p := ⟨q, i, none⟩) hqz).trans (HQ.out.2 i); clear own hb hg)
            have HQ := Lib.hid ((HQ.out.below HB8.out hqz).set (k := 3) (by simp) (.slice O8 (ws.length + 1) d8))
            have HO := Lib.hid (own_mono (ownsRow_setCell_other HO8.out (fun e => Nat.lt_irrefl q (Nat.lt_of_lt_of_le hqz (HO8.out.lt _ e).1)) (a := ⟨q, 3, none⟩) (.slice O8 (ws.length + 1) d8)) (show w.heap.size + 1 ≤ w5.heap.size from hrz))
            have HR := Lib.hid ((HR.out.below HB8.out hrz).setO (q := q) (i := 3) (by omega) (.slice O8 (ws.length + 1) d8))
            have hbs := Below.setCell (p := ⟨q, 3, none⟩) (HB8.out.mono (show w.heap.size + 1 ≤ w5.heap.size from hrz)) hq1 (.slice O8 (ws.length + 1) d8)
            have HC := Lib.hid (HC.out.belowB HB0.out hbs (by omega) (by omega))
            have HN := Lib.hid (HN.out.of_belowB hbs (by omega))
            obtain ⟨vs, hvs⟩ : ∃ v, Hid (ws ++ [s] = v) := ⟨_, Lib.hid rfl⟩
            have HEQ := Lib.hid (show vs.length = ws.length + 1 by rw [← hvs.out]; simp)
            have HSV := Lib.hid (show Short vs by rw [← hvs.out]; exact HSW.out.snoc HSS.out)
            clear hbs y3 yf
            generalize w8.setCell ⟨q, 3, none⟩ (.slice O8 (ws.length + 1) d8) = W9 at *
            simp only [List.set_cons_zero, List.set_cons_succ] at HQ
            rw [← HEQ.out, ← strs_append, hvs.out] at HO
            rw [← HEQ.out] at HQ ⊢
            have t0 := HQ.out.1 0 _ rfl
            have t1 := HQ.out.1 1 _ rfl
            have t2 := HQ.out.1 2 _ rfl
            have t3 := HQ.out.1 3 _ rfl
            have rf := HR.out.2
            have r0 := HR.out.1 0 _ rfl
            have r1 := HR.out.1 1 _ rfl
            have r2 := HR.out.1 2 _ rfl
            have r3 := HR.out.1 3 _ rfl
            go_wp2
            have KS := HR.out.set4 (.int .i64 K) (.int .i64 (x1 : Int)) (.int .i64 (x3 : Int)) (.slice O8 vs.length d8)
            have k0 := KS.1 0 _ rfl
            have k1 := KS.1 1 _ rfl
            have k2 := KS.1 2 _ rfl
            have k3 := KS.1 3 _ rfl
            refine bodyPost_ret (v := .agg #[.int .i64 K, .int .i64 (x1 : Int), .int .i64 (x3 : Int), .slice O8 vs.length d8]) (by simp [results, Try.results85, go_sem, k0, k1, k2, k3]) rfl ?_
            have hst : Below w.heap.size W9 ((((W9.setCell ⟨w.heap.size, 0, none⟩ (.int .i64 K)).setCell ⟨w.heap.size, 1, none⟩ (.int .i64 (x1 : Int))).setCell ⟨w.heap.size, 2, none⟩ (.int .i64 (x3 : Int))).setCell ⟨w.heap.size, 3, none⟩ (.slice O8 vs.length d8)) := by go_grown
            exact ⟨O8, d8, ⟨K, (x1 : Int), (x3 : Int), vs⟩, rfl, (show vs.length ≤ 5 by have := HEQ.out; omega), HSV.out, own_mono (own_off HO.out (only4 W9 w.heap.size _ _ _ _) (Nat.le_refl _)) (Nat.le_succ _), (HC.out.belowB HB0.out hst (Nat.le_refl _) hlt).mono (by omega), HN.out.of_belowB hst (Nat.le_refl _)⟩
          · have e3 : ((z : Int) == 3) = false := by simp; omega
            clear z0 z1 z2 z3
            go_upto_region 17 with fail
            have t0 := HQ.out.1 0 _ rfl
            have t1 := HQ.out.1 1 _ rfl
            have t2 := HQ.out.1 2 _ rfl
            have t3 := HQ.out.1 3 _ rfl
            have rf := HR.out.2
            have r0 := HR.out.1 0 _ rfl
            have r1 := HR.out.1 1 _ rfl
            have r2 := HR.out.1 2 _ rfl
            have r3 := HR.out.1 3 _ rfl
            go_wp2
            have KS := HR.out.set4 (.int .i64 K) (.int .i64 (x1 : Int)) (.int .i64 (x3 : Int)) (.slice N ws.length nd)
            have k0 := KS.1 0 _ rfl
            have k1 := KS.1 1 _ rfl
            have k2 := KS.1 2 _ rfl
            have k3 := KS.1 3 _ rfl
            refine bodyPost_ret (v := .agg #[.int .i64 K, .int .i64 (x1 : Int), .int .i64 (x3 : Int), .slice N ws.length nd]) (by simp [results, Try.results85, go_sem, k0, k1, k2, k3]) rfl ?_
            have hst : Below w.heap.size w5 ((((w5.setCell ⟨w.heap.size, 0, none⟩ (.int .i64 K)).setCell ⟨w.heap.size, 1, none⟩ (.int .i64 (x1 : Int))).setCell ⟨w.heap.size, 2, none⟩ (.int .i64 (x3 : Int))).setCell ⟨w.heap.size, 3, none⟩ (.slice N ws.length nd)) := by go_grown
            exact ⟨N, nd, ⟨K, (x1 : Int), (x3 : Int), ws⟩, rfl, (show ws.length ≤ 5 by omega), HSW.out, own_mono (own_off HO.out (only4 w5 w.heap.size _ _ _ _) (Nat.le_refl _)) (Nat.le_succ _), (HC.out.belowB HB0.out hst (Nat.le_refl _) hlt).mono (by omega), HN.out.of_belowB hst (Nat.le_refl _)⟩
end Go.Proofs.Ytgchbimjgdoifaa
