/- The draws of chapter 8's laws. Conditions: the ranges named. -/
import Derived.Test.YtbpikbcnpmplfaaDr8
namespace Go.Proofs.Ytbpikbcnpmplfaa
open Go.RowKit
set_option linter.unusedVariables false
set_option linter.unusedSimpArgs false
attribute [local go_sem ↓] Go.wp_at_zero Go.wp_at_succ
open Ss3
/-- A floor that a draw returns: its lists are the draw's own, and not long. -/
def DrF (w : World) (P : Option Addr) (p : Nat) (D : Option Addr) (d : Nat) (f : Flr) (w' : World) : Prop := OwF w.heap.size w'.heap.size w' P p D d f ∧ f.wt.length ≤ 60 ∧ f.sh.length ≤ 70 ∧ Below w.heap.size w w'
theorem DrF.mk_ {w w' : World} {lo : Nat} {P : Option Addr} {p : Nat} {D : Option Addr} {d : Nat} {f : Flr} (o1 : OwD IntK 3 lo w' P p f.wt) (o2 : OwD ShareK 43 lo w' D d f.sh) (hl : w.heap.size ≤ lo) (h1 : f.wt.length ≤ 60) (h2 : f.sh.length ≤ 70) (hb : Below w.heap.size w w') : DrF w P p D d f w' := ⟨⟨o1.low hl, o2.low hl⟩, h1, h2, hb⟩
theorem results_cell_tmp {fn : Func} {p u : Tmp} {ty : TypeId} (h : fn.results = #[.cell p ty, .tmp u]) (tmps : Array Value) (P : Program) (w : World) :
    (results fn tmps).run P w = ((asAddr (tmps.getD p undef)).run P w).andThen fun a w1 => ((loadVar ty a).run P w1).andThen fun v w2 => .ok (.tuple #[v, tmps.getD u undef]) w2 := by
  simp only [results, h]
  simp [Sem.run_bind, Result.andThen]
set_option maxRecDepth 100000 in
set_option maxHeartbeats 4000000 in
theorem DrawIsValidFloor_any (A : Option Addr) (n c : Nat) (w : World) (h : BytesC w A n) (hn : n ≤ 65536) :
    Calls Try.prog 66 #[.slice A n c] w fun e w' => ∃ (P : Option Addr) (p : Nat) (D : Option Addr) (d : Nat) (f : Flr), e = .returned (.agg #[.int .i64 f.t, .int .i64 f.s, .int .i64 f.sp, .slice P f.wt.length p, .slice D f.sh.length d]) ∧ DrF w P p D d f w' := by
  have hb1 := below1 w (.cells #[.int .i64 0, .int .i64 0, .int .i64 0, .slice none 0 0, .slice none 0 0] 29)
  have hbe : (w.alloc (.cells #[.int .i64 0, .int .i64 0, .int .i64 0, .slice none 0 0, .slice none 0 0] 29)).heap.size = w.heap.size + 1 := by simp
  have C := Cur.new_ (c := c) (h.below_ hb1) hn 77
  rw [hbe] at C
  have S := Lib.hid (Tst.mk C (below2 w (.cells #[.int .i64 0, .int .i64 0, .int .i64 0, .slice none 0 0, .slice none 0 0] 29) _) h (Nat.le_succ _))
  have Z := Lib.hid ((BT.new w #[.int .i64 0, .int .i64 0, .int .i64 0, .slice none 0 0, .slice none 0 0] 29 w.heap.size rfl).alloc (.cells #[.slice A n c, .int .i64 0, .int .u64 0] 77))
  have hsz : w.heap.size + 1 < ((w.alloc (.cells #[.int .i64 0, .int .i64 0, .int .i64 0, .slice none 0 0, .slice none 0 0] 29)).alloc (.cells #[.slice A n c, .int .i64 0, .int .u64 0] 77)).heap.size := by simp
  clear h C hb1 hbe
  go_enter Try.func66, Try.ntmps66
  go_upto_region 2 with fail
  generalize ((w.alloc (.cells #[.int .i64 0, .int .i64 0, .int .i64 0, .slice none 0 0, .slice none 0 0] 29)).alloc (.cells #[.slice A n c, .int .i64 0, .int .u64 0] 77)) = v1 at *
  go_wp2_with fail
  have hls := S.out.sz
  refine (floor_any (w.heap.size + 1) A n c _ _ S.out.cur (by omega)).mono ?_
  rintro e v2 ⟨P, p, D, d, f, rfl, ow, hl1, hl2, hc, ho⟩
  replace S := Lib.hid (S.out.draw hc ho)
  replace Z := Lib.hid (Z.out.draw ho (by omega))
  have O1 := Lib.hid (show OwD IntK 3 v1.heap.size v2 P p f.wt from ow.1)
  have O2 := Lib.hid (show OwD ShareK 43 v1.heap.size v2 D d f.sh from ow.2)
  clear hc ho ow
  go_wp2_with (first | ((refine wpList_store_mid rfl 29 _ _ rfl w.heap.size 0 #[.int .i64 f.t, .int .i64 f.s, .int .i64 f.sp, .slice P f.wt.length p, .slice D f.sh.length d] rfl rfl Z.out.there (by kernel_rfl) (by simp [Value.oneCell']) ?_); replace S := Lib.hid (S.out.puts (q := w.heap.size) (by omega) 0 [.int .i64 f.t, .int .i64 f.s, .int .i64 f.sp, .slice P f.wt.length p, .slice D f.sh.length d]); replace O1 := Lib.hid (O1.out.puts Z.out.ty (by decide) 0 [.int .i64 f.t, .int .i64 f.s, .int .i64 f.sp, .slice P f.wt.length p, .slice D f.sh.length d]); replace O2 := Lib.hid (O2.out.puts Z.out.ty (by decide) 0 [.int .i64 f.t, .int .i64 f.s, .int .i64 f.sp, .slice P f.wt.length p, .slice D f.sh.length d]); replace Z := Lib.hid (Z.out.puts [.int .i64 f.t, .int .i64 f.s, .int .i64 f.sp, .slice P f.wt.length p, .slice D f.sh.length d] (by rfl)); have KS := Z.out.box; have k0 := KS.1 0 _ rfl; have k1 := KS.1 1 _ rfl; have k2 := KS.1 2 _ rfl; have k3 := KS.1 3 _ rfl; have k4 := KS.1 4 _ rfl; clear KS) | (refine bodyPost_ret (v := .agg #[.int .i64 f.t, .int .i64 f.s, .int .i64 f.sp, .slice P f.wt.length p, .slice D f.sh.length d]) (by (simp [results, Try.results66, go_sem, k0, k1, k2, k3, k4])) rfl ?_; exact ⟨P, p, D, d, f, rfl, DrF.mk_ O1.out O2.out (by omega) (by omega) (by omega) S.out.on⟩))
theorem below_puts {B q : Nat} {w0 w : World} (h : Below B w0 w) (hq : B ≤ q) : ∀ (o : Nat) (vs : List Value), Below B w0 (w.setCells q o vs) := by
  intro o vs
  induction vs generalizing o w with
  | nil => exact h
  | cons v vs ih => exact ih (h.setCell (p := ⟨q, o, none⟩) hq v) (o + 1)
set_option maxRecDepth 100000 in
set_option maxHeartbeats 4000000 in
theorem DrawSpeakingOrder_any (A : Option Addr) (n c : Nat) (w : World) (h : BytesC w A n) (hn : n ≤ 65536) :
    Calls Try.prog 21 #[.slice A n c] w fun e w' => ∃ (P : Option Addr) (p : Nat) (D : Option Addr) (d : Nat) (f : Flr), e = .returned (.agg #[.int .i64 f.t, .int .i64 f.s, .int .i64 f.sp, .slice P f.wt.length p, .slice D f.sh.length d]) ∧ DrF w P p D d f w' := by
  have Z := Lib.hid (BT.new w #[.int .i64 0, .int .i64 0, .int .i64 0, .slice none 0 0, .slice none 0 0] 29 w.heap.size rfl)
  have hb1 := below1 w (.cells #[.int .i64 0, .int .i64 0, .int .i64 0, .slice none 0 0, .slice none 0 0] 29)
  have HY := Lib.hid (h.below_ hb1)
  have hsz : w.heap.size < (w.alloc (.cells #[.int .i64 0, .int .i64 0, .int .i64 0, .slice none 0 0, .slice none 0 0] 29)).heap.size := by simp
  have HB := Lib.hid hb1
  clear h hb1
  go_enter Try.func21, Try.ntmps21
  go_upto_region 1 with fail
  generalize (w.alloc (.cells #[.int .i64 0, .int .i64 0, .int .i64 0, .slice none 0 0, .slice none 0 0] 29)) = W at *
  go_wp2_with fail
  refine (DrawIsValidFloor_any A n c W HY.out hn).mono ?_
  rintro e v ⟨P, p, D, d, f, rfl, ⟨ow1, ow2⟩, hl1, hl2, hb⟩
  have O1 := Lib.hid (show OwD IntK 3 W.heap.size v P p f.wt from ow1)
  have O2 := Lib.hid (show OwD ShareK 43 W.heap.size v D d f.sh from ow2)
  replace Z := Lib.hid (Z.out.call hb)
  replace HB := Lib.hid (HB.out.trans (hb.mono HB.out.size))
  clear ow1 ow2 hb
  go_wp2_with (first | ((refine wpList_store_mid rfl 29 _ _ rfl w.heap.size 0 #[.int .i64 f.t, .int .i64 f.s, .int .i64 f.sp, .slice P f.wt.length p, .slice D f.sh.length d] rfl rfl Z.out.there (by kernel_rfl) (by simp [Value.oneCell']) ?_); replace O1 := Lib.hid (O1.out.puts Z.out.ty (by decide) 0 [.int .i64 f.t, .int .i64 f.s, .int .i64 f.sp, .slice P f.wt.length p, .slice D f.sh.length d]); replace O2 := Lib.hid (O2.out.puts Z.out.ty (by decide) 0 [.int .i64 f.t, .int .i64 f.s, .int .i64 f.sp, .slice P f.wt.length p, .slice D f.sh.length d]); replace Z := Lib.hid (Z.out.puts [.int .i64 f.t, .int .i64 f.s, .int .i64 f.sp, .slice P f.wt.length p, .slice D f.sh.length d] (by rfl)); have KS := Z.out.box; replace HB := Lib.hid (below_puts HB.out (Nat.le_refl _) 0 [.int .i64 f.t, .int .i64 f.s, .int .i64 f.sp, .slice P f.wt.length p, .slice D f.sh.length d]); have k0 := KS.1 0 _ rfl; have k1 := KS.1 1 _ rfl; have k2 := KS.1 2 _ rfl; have k3 := KS.1 3 _ rfl; have k4 := KS.1 4 _ rfl; clear KS) | (refine bodyPost_ret (v := .agg #[.int .i64 f.t, .int .i64 f.s, .int .i64 f.sp, .slice P f.wt.length p, .slice D f.sh.length d]) (by (simp [results, Try.results21, go_sem, k0, k1, k2, k3, k4])) rfl ?_; exact ⟨P, p, D, d, f, rfl, DrF.mk_ O1.out O2.out (by omega) (by omega) (by omega) HB.out⟩))
set_option maxRecDepth 100000 in
set_option maxHeartbeats 4000000 in
theorem DrawNextSpeaker_any (A : Option Addr) (n c : Nat) (w : World) (h : BytesC w A n) (hn : n ≤ 65536) :
    Calls Try.prog 36 #[.slice A n c] w fun e w' => ∃ (P : Option Addr) (p : Nat) (D : Option Addr) (d : Nat) (f : Flr), e = .returned (.agg #[.int .i64 f.t, .int .i64 f.s, .int .i64 f.sp, .slice P f.wt.length p, .slice D f.sh.length d]) ∧ DrF w P p D d f w' := by
  have Z := Lib.hid (BT.new w #[.int .i64 0, .int .i64 0, .int .i64 0, .slice none 0 0, .slice none 0 0] 29 w.heap.size rfl)
  have hb1 := below1 w (.cells #[.int .i64 0, .int .i64 0, .int .i64 0, .slice none 0 0, .slice none 0 0] 29)
  have HY := Lib.hid (h.below_ hb1)
  have hsz : w.heap.size < (w.alloc (.cells #[.int .i64 0, .int .i64 0, .int .i64 0, .slice none 0 0, .slice none 0 0] 29)).heap.size := by simp
  have HB := Lib.hid hb1
  clear h hb1
  go_enter Try.func36, Try.ntmps36
  go_upto_region 1 with fail
  generalize (w.alloc (.cells #[.int .i64 0, .int .i64 0, .int .i64 0, .slice none 0 0, .slice none 0 0] 29)) = W at *
  go_wp2_with fail
  refine (DrawIsValidFloor_any A n c W HY.out hn).mono ?_
  rintro e v ⟨P, p, D, d, f, rfl, ⟨ow1, ow2⟩, hl1, hl2, hb⟩
  have O1 := Lib.hid (show OwD IntK 3 W.heap.size v P p f.wt from ow1)
  have O2 := Lib.hid (show OwD ShareK 43 W.heap.size v D d f.sh from ow2)
  replace Z := Lib.hid (Z.out.call hb)
  replace HB := Lib.hid (HB.out.trans (hb.mono HB.out.size))
  clear ow1 ow2 hb
  go_wp2_with (first | ((refine wpList_store_mid rfl 29 _ _ rfl w.heap.size 0 #[.int .i64 f.t, .int .i64 f.s, .int .i64 f.sp, .slice P f.wt.length p, .slice D f.sh.length d] rfl rfl Z.out.there (by kernel_rfl) (by simp [Value.oneCell']) ?_); replace O1 := Lib.hid (O1.out.puts Z.out.ty (by decide) 0 [.int .i64 f.t, .int .i64 f.s, .int .i64 f.sp, .slice P f.wt.length p, .slice D f.sh.length d]); replace O2 := Lib.hid (O2.out.puts Z.out.ty (by decide) 0 [.int .i64 f.t, .int .i64 f.s, .int .i64 f.sp, .slice P f.wt.length p, .slice D f.sh.length d]); replace Z := Lib.hid (Z.out.puts [.int .i64 f.t, .int .i64 f.s, .int .i64 f.sp, .slice P f.wt.length p, .slice D f.sh.length d] (by rfl)); have KS := Z.out.box; replace HB := Lib.hid (below_puts HB.out (Nat.le_refl _) 0 [.int .i64 f.t, .int .i64 f.s, .int .i64 f.sp, .slice P f.wt.length p, .slice D f.sh.length d]); have k0 := KS.1 0 _ rfl; have k1 := KS.1 1 _ rfl; have k2 := KS.1 2 _ rfl; have k3 := KS.1 3 _ rfl; have k4 := KS.1 4 _ rfl; clear KS) | (refine bodyPost_ret (v := .agg #[.int .i64 f.t, .int .i64 f.s, .int .i64 f.sp, .slice P f.wt.length p, .slice D f.sh.length d]) (by (simp [results, Try.results36, go_sem, k0, k1, k2, k3, k4])) rfl ?_; exact ⟨P, p, D, d, f, rfl, DrF.mk_ O1.out O2.out (by omega) (by omega) (by omega) HB.out⟩))
set_option maxRecDepth 100000 in
set_option maxHeartbeats 4000000 in
theorem DrawAskFloor_any (A : Option Addr) (n c : Nat) (w : World) (h : BytesC w A n) (hn : n ≤ 65536) :
    Calls Try.prog 30 #[.slice A n c] w fun e w' => ∃ (P : Option Addr) (p : Nat) (D : Option Addr) (d : Nat) (f : Flr) (x : Int), e = .returned (.tuple #[.agg #[.int .i64 f.t, .int .i64 f.s, .int .i64 f.sp, .slice P f.wt.length p, .slice D f.sh.length d], .int .i64 x]) ∧ DrF w P p D d f w' := by
  have hb1 := below1 w (.cells #[.int .i64 0, .int .i64 0, .int .i64 0, .slice none 0 0, .slice none 0 0] 29)
  have hbe : (w.alloc (.cells #[.int .i64 0, .int .i64 0, .int .i64 0, .slice none 0 0, .slice none 0 0] 29)).heap.size = w.heap.size + 1 := by simp
  have C := Cur.new_ (c := c) (h.below_ hb1) hn 77
  rw [hbe] at C
  have S := Lib.hid (Tst.mk C (below2 w (.cells #[.int .i64 0, .int .i64 0, .int .i64 0, .slice none 0 0, .slice none 0 0] 29) _) h (Nat.le_succ _))
  have Z := Lib.hid ((BT.new w #[.int .i64 0, .int .i64 0, .int .i64 0, .slice none 0 0, .slice none 0 0] 29 w.heap.size rfl).alloc (.cells #[.slice A n c, .int .i64 0, .int .u64 0] 77))
  have hsz : w.heap.size + 1 < ((w.alloc (.cells #[.int .i64 0, .int .i64 0, .int .i64 0, .slice none 0 0, .slice none 0 0] 29)).alloc (.cells #[.slice A n c, .int .i64 0, .int .u64 0] 77)).heap.size := by simp
  clear h C hb1 hbe
  go_enter Try.func30, Try.ntmps30
  go_upto_region 2 with fail
  generalize ((w.alloc (.cells #[.int .i64 0, .int .i64 0, .int .i64 0, .slice none 0 0, .slice none 0 0] 29)).alloc (.cells #[.slice A n c, .int .i64 0, .int .u64 0] 77)) = v1 at *
  go_wp2_with fail
  have hls := S.out.sz
  refine (floor_any (w.heap.size + 1) A n c _ _ S.out.cur (by omega)).mono ?_
  rintro e v2 ⟨P, p, D, d, f, rfl, ow, hl1, hl2, hc, ho⟩
  replace S := Lib.hid (S.out.draw hc ho)
  replace Z := Lib.hid (Z.out.draw ho (by omega))
  have O1 := Lib.hid (show OwD IntK 3 v1.heap.size v2 P p f.wt from ow.1)
  have O2 := Lib.hid (show OwD ShareK 43 v1.heap.size v2 D d f.sh from ow.2)
  clear hc ho ow
  go_wp2_with fail
  refine (member_any (w.heap.size + 1) A n c _ _ S.out.cur (by omega)).mono ?_
  rintro e v3 ⟨⟨x, rfl, hx⟩, hc, ho⟩
  replace S := Lib.hid (S.out.draw hc ho)
  replace Z := Lib.hid (Z.out.draw ho (by omega))
  replace O1 := Lib.hid (O1.out.draw ho (by omega))
  replace O2 := Lib.hid (O2.out.draw ho (by omega))
  clear hc ho 
  go_wp2_with (first | ((refine wpList_store_mid rfl 29 _ _ rfl w.heap.size 0 #[.int .i64 f.t, .int .i64 f.s, .int .i64 f.sp, .slice P f.wt.length p, .slice D f.sh.length d] rfl rfl Z.out.there (by kernel_rfl) (by simp [Value.oneCell']) ?_); replace S := Lib.hid (S.out.puts (q := w.heap.size) (by omega) 0 [.int .i64 f.t, .int .i64 f.s, .int .i64 f.sp, .slice P f.wt.length p, .slice D f.sh.length d]); replace O1 := Lib.hid (O1.out.puts Z.out.ty (by decide) 0 [.int .i64 f.t, .int .i64 f.s, .int .i64 f.sp, .slice P f.wt.length p, .slice D f.sh.length d]); replace O2 := Lib.hid (O2.out.puts Z.out.ty (by decide) 0 [.int .i64 f.t, .int .i64 f.s, .int .i64 f.sp, .slice P f.wt.length p, .slice D f.sh.length d]); replace Z := Lib.hid (Z.out.puts [.int .i64 f.t, .int .i64 f.s, .int .i64 f.sp, .slice P f.wt.length p, .slice D f.sh.length d] (by rfl)); have KS := Z.out.box; have k0 := KS.1 0 _ rfl; have k1 := KS.1 1 _ rfl; have k2 := KS.1 2 _ rfl; have k3 := KS.1 3 _ rfl; have k4 := KS.1 4 _ rfl; clear KS) | (refine bodyPost_ret (v := .tuple #[.agg #[.int .i64 f.t, .int .i64 f.s, .int .i64 f.sp, .slice P f.wt.length p, .slice D f.sh.length d], .int .i64 x]) (by (rw [results_cell_tmp Try.results30]; simp [go_sem, k0, k1, k2, k3, k4])) rfl ?_; exact ⟨P, p, D, d, f, x, rfl, DrF.mk_ O1.out O2.out (by omega) (by omega) (by omega) S.out.on⟩))
set_option maxRecDepth 100000 in
set_option maxHeartbeats 4000000 in
theorem DrawSecondsLeft_any (A : Option Addr) (n c : Nat) (w : World) (h : BytesC w A n) (hn : n ≤ 65536) :
    Calls Try.prog 27 #[.slice A n c] w fun e w' => ∃ (P : Option Addr) (p : Nat) (D : Option Addr) (d : Nat) (f : Flr) (x : Int), e = .returned (.tuple #[.agg #[.int .i64 f.t, .int .i64 f.s, .int .i64 f.sp, .slice P f.wt.length p, .slice D f.sh.length d], .int .i64 x]) ∧ DrF w P p D d f w' := by
  have Z := Lib.hid (BT.new w #[.int .i64 0, .int .i64 0, .int .i64 0, .slice none 0 0, .slice none 0 0] 29 w.heap.size rfl)
  have hb1 := below1 w (.cells #[.int .i64 0, .int .i64 0, .int .i64 0, .slice none 0 0, .slice none 0 0] 29)
  have HY := Lib.hid (h.below_ hb1)
  have hsz : w.heap.size < (w.alloc (.cells #[.int .i64 0, .int .i64 0, .int .i64 0, .slice none 0 0, .slice none 0 0] 29)).heap.size := by simp
  have HB := Lib.hid hb1
  clear h hb1
  go_enter Try.func27, Try.ntmps27
  go_upto_region 1 with fail
  generalize (w.alloc (.cells #[.int .i64 0, .int .i64 0, .int .i64 0, .slice none 0 0, .slice none 0 0] 29)) = W at *
  go_wp2_with fail
  refine (DrawAskFloor_any A n c W HY.out hn).mono ?_
  rintro e v ⟨P, p, D, d, f, x, rfl, ⟨ow1, ow2⟩, hl1, hl2, hb⟩
  have O1 := Lib.hid (show OwD IntK 3 W.heap.size v P p f.wt from ow1)
  have O2 := Lib.hid (show OwD ShareK 43 W.heap.size v D d f.sh from ow2)
  replace Z := Lib.hid (Z.out.call hb)
  replace HB := Lib.hid (HB.out.trans (hb.mono HB.out.size))
  clear ow1 ow2 hb
  go_wp2_with (first | ((refine wpList_store_mid rfl 29 _ _ rfl w.heap.size 0 #[.int .i64 f.t, .int .i64 f.s, .int .i64 f.sp, .slice P f.wt.length p, .slice D f.sh.length d] rfl rfl Z.out.there (by kernel_rfl) (by simp [Value.oneCell']) ?_); replace O1 := Lib.hid (O1.out.puts Z.out.ty (by decide) 0 [.int .i64 f.t, .int .i64 f.s, .int .i64 f.sp, .slice P f.wt.length p, .slice D f.sh.length d]); replace O2 := Lib.hid (O2.out.puts Z.out.ty (by decide) 0 [.int .i64 f.t, .int .i64 f.s, .int .i64 f.sp, .slice P f.wt.length p, .slice D f.sh.length d]); replace Z := Lib.hid (Z.out.puts [.int .i64 f.t, .int .i64 f.s, .int .i64 f.sp, .slice P f.wt.length p, .slice D f.sh.length d] (by rfl)); have KS := Z.out.box; replace HB := Lib.hid (below_puts HB.out (Nat.le_refl _) 0 [.int .i64 f.t, .int .i64 f.s, .int .i64 f.sp, .slice P f.wt.length p, .slice D f.sh.length d]); have k0 := KS.1 0 _ rfl; have k1 := KS.1 1 _ rfl; have k2 := KS.1 2 _ rfl; have k3 := KS.1 3 _ rfl; have k4 := KS.1 4 _ rfl; clear KS) | (refine bodyPost_ret (v := .tuple #[.agg #[.int .i64 f.t, .int .i64 f.s, .int .i64 f.sp, .slice P f.wt.length p, .slice D f.sh.length d], .int .i64 x]) (by (rw [results_cell_tmp Try.results27]; simp [go_sem, k0, k1, k2, k3, k4])) rfl ?_; exact ⟨P, p, D, d, f, x, rfl, DrF.mk_ O1.out O2.out (by omega) (by omega) (by omega) HB.out⟩))
set_option maxRecDepth 100000 in
set_option maxHeartbeats 4000000 in
theorem DrawSpeakFor_any (A : Option Addr) (n c : Nat) (w : World) (h : BytesC w A n) (hn : n ≤ 65536) :
    Calls Try.prog 35 #[.slice A n c] w fun e w' => ∃ (P : Option Addr) (p : Nat) (D : Option Addr) (d : Nat) (f : Flr) (x : Int), e = .returned (.tuple #[.agg #[.int .i64 f.t, .int .i64 f.s, .int .i64 f.sp, .slice P f.wt.length p, .slice D f.sh.length d], .int .i64 x]) ∧ DrF w P p D d f w' := by
  have hb1 := below1 w (.cells #[.int .i64 0, .int .i64 0, .int .i64 0, .slice none 0 0, .slice none 0 0] 29)
  have hbe : (w.alloc (.cells #[.int .i64 0, .int .i64 0, .int .i64 0, .slice none 0 0, .slice none 0 0] 29)).heap.size = w.heap.size + 1 := by simp
  have C := Cur.new_ (c := c) (h.below_ hb1) hn 77
  rw [hbe] at C
  have S := Lib.hid (Tst.mk C (below2 w (.cells #[.int .i64 0, .int .i64 0, .int .i64 0, .slice none 0 0, .slice none 0 0] 29) _) h (Nat.le_succ _))
  have Z := Lib.hid ((BT.new w #[.int .i64 0, .int .i64 0, .int .i64 0, .slice none 0 0, .slice none 0 0] 29 w.heap.size rfl).alloc (.cells #[.slice A n c, .int .i64 0, .int .u64 0] 77))
  have hsz : w.heap.size + 1 < ((w.alloc (.cells #[.int .i64 0, .int .i64 0, .int .i64 0, .slice none 0 0, .slice none 0 0] 29)).alloc (.cells #[.slice A n c, .int .i64 0, .int .u64 0] 77)).heap.size := by simp
  clear h C hb1 hbe
  go_enter Try.func35, Try.ntmps35
  go_upto_region 2 with fail
  generalize ((w.alloc (.cells #[.int .i64 0, .int .i64 0, .int .i64 0, .slice none 0 0, .slice none 0 0] 29)).alloc (.cells #[.slice A n c, .int .i64 0, .int .u64 0] 77)) = v1 at *
  go_wp2_with fail
  have hls := S.out.sz
  refine (floor_any (w.heap.size + 1) A n c _ _ S.out.cur (by omega)).mono ?_
  rintro e v2 ⟨P, p, D, d, f, rfl, ow, hl1, hl2, hc, ho⟩
  replace S := Lib.hid (S.out.draw hc ho)
  replace Z := Lib.hid (Z.out.draw ho (by omega))
  have O1 := Lib.hid (show OwD IntK 3 v1.heap.size v2 P p f.wt from ow.1)
  have O2 := Lib.hid (show OwD ShareK 43 v1.heap.size v2 D d f.sh from ow.2)
  clear hc ho ow
  have hq5 := Z.out.lt
  have hb5 := S.out.bw
  have Y := Lib.hid (BT.new v2 #[.int .i64 f.t, .int .i64 f.s, .int .i64 f.sp, .slice P f.wt.length p, .slice D f.sh.length d] 29 v2.heap.size rfl)
  have hbl := below1 v2 (.cells #[.int .i64 f.t, .int .i64 f.s, .int .i64 f.sp, .slice P f.wt.length p, .slice D f.sh.length d] 29)
  replace S := Lib.hid (S.out.call hbl)
  replace Z := Lib.hid (Z.out.call hbl)
  replace O1 := Lib.hid (O1.out.call hbl)
  replace O2 := Lib.hid (O2.out.call hbl)
  clear hbl
  go_upto_region 3 with fail
  generalize (v2.alloc (.cells #[.int .i64 f.t, .int .i64 f.s, .int .i64 f.sp, .slice P f.wt.length p, .slice D f.sh.length d] 29)) = v3 at *
  generalize v2.heap.size = q5 at *
  have hlo := S.out.sz
  have hbo := S.out.bw
  skip
  have y0 := Y.out.box.1 0 _ rfl
  have y1 := Y.out.box.1 1 _ rfl
  have y2 := Y.out.box.1 2 _ rfl
  have y3 := Y.out.box.1 3 _ rfl
  have y4 := Y.out.box.1 4 _ rfl
  go_wp2_with fail
  refine (rNextSpeaker ⟨O1.out.rd, O2.out.rd⟩).mono ?_
  rintro e v4 ⟨P2, p2, D2, d2, rfl, o1, o2, hb⟩
  replace S := Lib.hid (S.out.call hb)
  replace Z := Lib.hid (Z.out.call hb)
  replace O1 := Lib.hid (O1.out.call hb)
  replace O2 := Lib.hid (O2.out.call hb)
  replace Y := Lib.hid (Y.out.call hb)
  have N1 := Lib.hid (show OwD IntK 3 v3.heap.size v4 P2 p2 (nxF f).wt from o1)
  have N2 := Lib.hid (show OwD ShareK 43 v3.heap.size v4 D2 d2 (nxF f).sh from o2)
  clear hb o1 o2 y0 y1 y2 y3 y4
  have hgl := nxF_len f
  obtain ⟨g, hg⟩ : ∃ g, nxF f = g := ⟨_, rfl⟩
  rw [hg] at hgl N1 N2 ⊢
  clear hg
  have hq6 := Y.out.lt
  have X := Lib.hid (BT.new v4 #[.int .i64 g.t, .int .i64 g.s, .int .i64 g.sp, .slice P2 g.wt.length p2, .slice D2 g.sh.length d2] 29 v4.heap.size rfl)
  skip
  have hbl := below1 v4 (.cells #[.int .i64 g.t, .int .i64 g.s, .int .i64 g.sp, .slice P2 g.wt.length p2, .slice D2 g.sh.length d2] 29)
  replace S := Lib.hid (S.out.call hbl)
  replace Z := Lib.hid (Z.out.call hbl)
  replace O1 := Lib.hid (O1.out.call hbl)
  replace O2 := Lib.hid (O2.out.call hbl)
  replace Y := Lib.hid (Y.out.call hbl)
  replace N1 := Lib.hid (N1.out.call hbl)
  replace N2 := Lib.hid (N2.out.call hbl)
  clear hbl
  go_upto_region 4 with fail
  generalize (v4.alloc (.cells #[.int .i64 g.t, .int .i64 g.s, .int .i64 g.sp, .slice P2 g.wt.length p2, .slice D2 g.sh.length d2] 29)) = v5 at *
  generalize v4.heap.size = q6 at *
  rcases Bool.eq_false_or_eq_true (nxB f) with hk | hk
  · rw [hk]
    go_wp2_with fail
    refine (one_any 2 (by omega) (by omega) (w.heap.size + 1) A n c _ _ S.out.cur (by omega)).mono ?_
    rintro e v6 ⟨⟨z, rfl⟩, hc, ho⟩
    replace S := Lib.hid (S.out.draw hc ho)
    replace Z := Lib.hid (Z.out.draw ho (by omega))
    replace O1 := Lib.hid (O1.out.draw ho (by omega))
    replace O2 := Lib.hid (O2.out.draw ho (by omega))
    replace Y := Lib.hid (Y.out.draw ho (by omega))
    replace N1 := Lib.hid (N1.out.draw ho (by omega))
    replace N2 := Lib.hid (N2.out.draw ho (by omega))
    replace X := Lib.hid (X.out.draw ho (by omega))
    clear hc ho 
    rcases Bool.eq_false_or_eq_true z with hz | hz
    · subst hz
      have y0 := Y.out.box.1 0 _ rfl
      have y1 := Y.out.box.1 1 _ rfl
      have y2 := Y.out.box.1 2 _ rfl
      have y3 := Y.out.box.1 3 _ rfl
      have y4 := Y.out.box.1 4 _ rfl
      have yf := Y.out.box.2
      have x0 := X.out.box.1 0 _ rfl
      have x1 := X.out.box.1 1 _ rfl
      have x2 := X.out.box.1 2 _ rfl
      have x3 := X.out.box.1 3 _ rfl
      have x4 := X.out.box.1 4 _ rfl
      clear y0 y1 y2 y3 y4 yf x0 x1 x2 x3 x4
      go_upto_region 5 with fail
      have y0 := Y.out.box.1 0 _ rfl
      have y1 := Y.out.box.1 1 _ rfl
      have y2 := Y.out.box.1 2 _ rfl
      have y3 := Y.out.box.1 3 _ rfl
      have y4 := Y.out.box.1 4 _ rfl
      have yf := Y.out.box.2
      have x0 := X.out.box.1 0 _ rfl
      have x1 := X.out.box.1 1 _ rfl
      have x2 := X.out.box.1 2 _ rfl
      have x3 := X.out.box.1 3 _ rfl
      have x4 := X.out.box.1 4 _ rfl
      go_upto_region 6 with fail
      clear y0 y1 y2 y3 y4 yf x0 x1 x2 x3 x4
      have hsc : (((((v6.setCell ⟨q5, 0, none⟩ (.int .i64 g.t)).setCell ⟨q5, 1, none⟩ (.int .i64 g.s)).setCell ⟨q5, 2, none⟩ (.int .i64 g.sp)).setCell ⟨q5, 3, none⟩ (.slice P2 g.wt.length p2)).setCell ⟨q5, 4, none⟩ (.slice D2 g.sh.length d2)) = v6.setCells q5 0 [.int .i64 g.t, .int .i64 g.s, .int .i64 g.sp, .slice P2 g.wt.length p2, .slice D2 g.sh.length d2] := rfl
      rw [hsc]
      clear hsc
      replace S := Lib.hid (S.out.puts (q := q5) (by omega) 0 [.int .i64 g.t, .int .i64 g.s, .int .i64 g.sp, .slice P2 g.wt.length p2, .slice D2 g.sh.length d2])
      replace Z := Lib.hid (Z.out.putsfar q5 (by omega) 0 [.int .i64 g.t, .int .i64 g.s, .int .i64 g.sp, .slice P2 g.wt.length p2, .slice D2 g.sh.length d2])
      replace O1 := Lib.hid (O1.out.puts Y.out.ty (by decide) 0 [.int .i64 g.t, .int .i64 g.s, .int .i64 g.sp, .slice P2 g.wt.length p2, .slice D2 g.sh.length d2])
      replace O2 := Lib.hid (O2.out.puts Y.out.ty (by decide) 0 [.int .i64 g.t, .int .i64 g.s, .int .i64 g.sp, .slice P2 g.wt.length p2, .slice D2 g.sh.length d2])
      replace N1 := Lib.hid (N1.out.puts Y.out.ty (by decide) 0 [.int .i64 g.t, .int .i64 g.s, .int .i64 g.sp, .slice P2 g.wt.length p2, .slice D2 g.sh.length d2])
      replace N2 := Lib.hid (N2.out.puts Y.out.ty (by decide) 0 [.int .i64 g.t, .int .i64 g.s, .int .i64 g.sp, .slice P2 g.wt.length p2, .slice D2 g.sh.length d2])
      replace X := Lib.hid (X.out.putsfar q5 (by omega) 0 [.int .i64 g.t, .int .i64 g.s, .int .i64 g.sp, .slice P2 g.wt.length p2, .slice D2 g.sh.length d2])
      replace Y := Lib.hid (Y.out.puts [.int .i64 g.t, .int .i64 g.s, .int .i64 g.sp, .slice P2 g.wt.length p2, .slice D2 g.sh.length d2] (by rfl))
      generalize (v6.setCells q5 0 [.int .i64 g.t, .int .i64 g.s, .int .i64 g.sp, .slice P2 g.wt.length p2, .slice D2 g.sh.length d2]) = v7 at *
      have KX : ∀ {w'' : World}, BT w'' q5 29 [.int .i64 g.t, .int .i64 g.s, .int .i64 g.sp, .slice P2 g.wt.length p2, .slice D2 g.sh.length d2] → (w''.cell? ⟨q5, 0, none⟩ = some (.int .i64 g.t) ∧ w''.cell? ⟨q5, 1, none⟩ = some (.int .i64 g.s) ∧ w''.cell? ⟨q5, 2, none⟩ = some (.int .i64 g.sp) ∧ w''.cell? ⟨q5, 3, none⟩ = some (.slice P2 g.wt.length p2) ∧ w''.cell? ⟨q5, 4, none⟩ = some (.slice D2 g.sh.length d2)) := fun h => ⟨h.box.1 0 _ rfl, h.box.1 1 _ rfl, h.box.1 2 _ rfl, h.box.1 3 _ rfl, h.box.1 4 _ rfl⟩
      refine wp_region_noPanic ?_
      refine wp_region_held_drew (S := (fun w'' => w''.cell? ⟨q5, 0, none⟩ = some (.int .i64 g.t) ∧ w''.cell? ⟨q5, 1, none⟩ = some (.int .i64 g.s) ∧ w''.cell? ⟨q5, 2, none⟩ = some (.int .i64 g.sp) ∧ w''.cell? ⟨q5, 3, none⟩ = some (.slice P2 g.wt.length p2) ∧ w''.cell? ⟨q5, 4, none⟩ = some (.slice D2 g.sh.length d2))) (by kernel_rfl) ?_ (fun hHeld => ?_)
      · ((try dsimp only); exact KX ⟨Y.out.box.drew, Ty.below Y.out.ty (Below.refl _ _).drew Y.out.lt⟩)
      replace S := Lib.hid (S.out.call (show Below v7.heap.size v7 v7.drew from (Below.refl _ _).drew))
      replace Z := Lib.hid (Z.out.call (show Below v7.heap.size v7 v7.drew from (Below.refl _ _).drew))
      replace O1 := Lib.hid (O1.out.call (show Below v7.heap.size v7 v7.drew from (Below.refl _ _).drew))
      replace O2 := Lib.hid (O2.out.call (show Below v7.heap.size v7 v7.drew from (Below.refl _ _).drew))
      replace Y := Lib.hid (Y.out.call (show Below v7.heap.size v7 v7.drew from (Below.refl _ _).drew))
      replace N1 := Lib.hid (N1.out.call (show Below v7.heap.size v7 v7.drew from (Below.refl _ _).drew))
      replace N2 := Lib.hid (N2.out.call (show Below v7.heap.size v7 v7.drew from (Below.refl _ _).drew))
      replace X := Lib.hid (X.out.call (show Below v7.heap.size v7 v7.drew from (Below.refl _ _).drew))
      generalize v7.drew = v8 at *
      refine take_yes (i := 0) (d := 26) (v := ?_) rfl rfl (by kernel_rfl) (by kernel_rfl) (by kernel_rfl) (fun _ _ _ h => h) (by kernel_rfl) ?_ hHeld ?_
      rotate_left
      · (intro w hSw; (try dsimp only at hSw); go_simp; try (with_reducible rfl))
      try simp only [Act.put, List.setIfInBounds_toArray, List.set_cons_zero, List.set_cons_succ]
      refine take_yes (i := 1) (d := 27) (v := ?_) rfl rfl (by kernel_rfl) (by kernel_rfl) (by kernel_rfl) (fun _ _ _ h => h) (by kernel_rfl) ?_ hHeld ?_
      rotate_left
      · (intro w hSw; (try dsimp only at hSw); go_simp; try (with_reducible rfl))
      try simp only [Act.put, List.setIfInBounds_toArray, List.set_cons_zero, List.set_cons_succ]
      refine wpAnyH_ready (rs := [2]) (by kernel_rfl) (by simp) ?_
      refine AllReadyH.cons rfl (fun K hK => ?_) (AllReadyH.nil)
      try go_simp
      have HL := Lib.hid (lit_cellsI v8 [1, 5, 60, 3600, 3601, 0, 20] 3 v8.heap.size rfl)
      have HLb : v8.heap.size ≠ (w.heap.size + 1) := by have := S.out.bw; omega
      have hbl := below1 v8 (.cells ((([1, 5, 60, 3600, 3601, 0, 20] : List Int).map (Value.int .i64)).toArray) 3)
      replace S := Lib.hid (S.out.call hbl)
      replace Z := Lib.hid (Z.out.call hbl)
      replace O1 := Lib.hid (O1.out.call hbl)
      replace O2 := Lib.hid (O2.out.call hbl)
      replace Y := Lib.hid (Y.out.call hbl)
      replace N1 := Lib.hid (N1.out.call hbl)
      replace N2 := Lib.hid (N2.out.call hbl)
      replace X := Lib.hid (X.out.call hbl)
      clear hbl
      (first | refine hK.out _ _ ?_ (fun hHeld1 => ?_) | (go_wp2_with fail; refine hK.out _ _ ?_ (fun hHeld1 => ?_)))
      · ((try dsimp only); exact KX Y.out)
      clear hK K hHeld
      have hHeld := hHeld1
      clear hHeld1
      try simp only [Act.put, List.setIfInBounds_toArray, List.set_cons_zero, List.set_cons_succ]
      refine wpAnyH_ready (rs := [3]) (by kernel_rfl) (by simp) ?_
      refine AllReadyH.cons rfl (fun K hK => ?_) (AllReadyH.nil)
      go_simp
      (go_at_call 78; refine (among_any [1, 5, 60, 3600, 3601, 0, 20] (some ⟨v8.heap.size, 0, none⟩) 7 (by simp) (by simp) (w.heap.size + 1) A n c _ _ S.out.cur (by omega) HL.out (fun a ha => by obtain rfl := Option.some.inj ha; exact HLb)).mono ?_; rintro e v9 ⟨⟨x, rfl, hx⟩, hc, ho⟩; have HC := Lib.hid hc; have HO := Lib.hid ho; clear hc ho)
      replace Y := Lib.hid (Y.out.draw HO.out (by omega))
      (first | refine hK.out _ _ ?_ (fun hHeld1 => ?_) | (go_wp2_with fail; refine hK.out _ _ ?_ (fun hHeld1 => ?_)))
      · ((try dsimp only); exact KX Y.out)
      clear hK K hHeld
      have hHeld := hHeld1
      clear hHeld1
      try simp only [Act.put, List.setIfInBounds_toArray, List.set_cons_zero, List.set_cons_succ]
      replace S := Lib.hid (S.out.draw HC.out HO.out)
      replace Z := Lib.hid (Z.out.draw HO.out (by omega))
      replace O1 := Lib.hid (O1.out.draw HO.out (by omega))
      replace O2 := Lib.hid (O2.out.draw HO.out (by omega))
      replace N1 := Lib.hid (N1.out.draw HO.out (by omega))
      replace N2 := Lib.hid (N2.out.draw HO.out (by omega))
      replace X := Lib.hid (X.out.draw HO.out (by omega))
      clear HC HO
      clear HL HLb hx
      refine wpAnyH_ready (rs := [4]) (by kernel_rfl) (by simp) ?_
      refine AllReadyH.cons rfl (fun K hK => ?_) (AllReadyH.nil)
      have hsc : v9.setCells w.heap.size 0 (#[.int .i64 g.t, .int .i64 g.s, .int .i64 g.sp, .slice P2 g.wt.length p2, .slice D2 g.sh.length d2] : Array Value).toList = v9.setCells w.heap.size 0 [.int .i64 g.t, .int .i64 g.s, .int .i64 g.sp, .slice P2 g.wt.length p2, .slice D2 g.sh.length d2] := rfl
      rw [if_pos (by kernel_rfl)]
      refine wp_store_mid 29 _ _ (by rfl) w.heap.size 0 #[.int .i64 g.t, .int .i64 g.s, .int .i64 g.sp, .slice P2 g.wt.length p2, .slice D2 g.sh.length d2] (by rfl) (by rfl) Z.out.there (by kernel_rfl) (by simp [Value.oneCell']) ?_
      rw [hsc]
      clear hsc
      replace S := Lib.hid (S.out.puts (q := w.heap.size) (by omega) 0 [.int .i64 g.t, .int .i64 g.s, .int .i64 g.sp, .slice P2 g.wt.length p2, .slice D2 g.sh.length d2])
      replace O1 := Lib.hid (O1.out.puts Z.out.ty (by decide) 0 [.int .i64 g.t, .int .i64 g.s, .int .i64 g.sp, .slice P2 g.wt.length p2, .slice D2 g.sh.length d2])
      replace O2 := Lib.hid (O2.out.puts Z.out.ty (by decide) 0 [.int .i64 g.t, .int .i64 g.s, .int .i64 g.sp, .slice P2 g.wt.length p2, .slice D2 g.sh.length d2])
      replace Y := Lib.hid (Y.out.putsfar w.heap.size (by omega) 0 [.int .i64 g.t, .int .i64 g.s, .int .i64 g.sp, .slice P2 g.wt.length p2, .slice D2 g.sh.length d2])
      replace N1 := Lib.hid (N1.out.puts Z.out.ty (by decide) 0 [.int .i64 g.t, .int .i64 g.s, .int .i64 g.sp, .slice P2 g.wt.length p2, .slice D2 g.sh.length d2])
      replace N2 := Lib.hid (N2.out.puts Z.out.ty (by decide) 0 [.int .i64 g.t, .int .i64 g.s, .int .i64 g.sp, .slice P2 g.wt.length p2, .slice D2 g.sh.length d2])
      replace X := Lib.hid (X.out.putsfar w.heap.size (by omega) 0 [.int .i64 g.t, .int .i64 g.s, .int .i64 g.sp, .slice P2 g.wt.length p2, .slice D2 g.sh.length d2])
      replace Z := Lib.hid (Z.out.puts [.int .i64 g.t, .int .i64 g.s, .int .i64 g.sp, .slice P2 g.wt.length p2, .slice D2 g.sh.length d2] (by rfl))
      (first | refine hK.out _ _ ?_ (fun hHeld1 => ?_) | (go_wp2_with fail; refine hK.out _ _ ?_ (fun hHeld1 => ?_)))
      · ((try dsimp only); exact KX Y.out)
      clear hK K hHeld
      have hHeld := hHeld1
      clear hHeld1
      try simp only [Act.put, List.setIfInBounds_toArray, List.set_cons_zero, List.set_cons_succ]
      generalize (v9.setCells w.heap.size 0 [.int .i64 g.t, .int .i64 g.s, .int .i64 g.sp, .slice P2 g.wt.length p2, .slice D2 g.sh.length d2]) = v10 at *
      refine take_yes (i := 5) (d := 3) (v := ?_) rfl rfl (by kernel_rfl) (by kernel_rfl) (by kernel_rfl) (fun _ _ _ h => h) (by kernel_rfl) ?_ hHeld ?_
      rotate_left
      · (intro w hSw; (try dsimp only at hSw); go_simp; try (with_reducible rfl))
      try simp only [Act.put, List.setIfInBounds_toArray, List.set_cons_zero, List.set_cons_succ]
      refine wpAnyH_done (by kernel_rfl) ?_ _
      refine NoPanic.normal ?_
      clear hHeld KX
      have KS := Z.out.box
      have k0 := KS.1 0 _ rfl
      have k1 := KS.1 1 _ rfl
      have k2 := KS.1 2 _ rfl
      have k3 := KS.1 3 _ rfl
      have k4 := KS.1 4 _ rfl
      clear KS
      go_wp2_with (refine bodyPost_ret (v := .tuple #[.agg #[.int .i64 g.t, .int .i64 g.s, .int .i64 g.sp, .slice P2 g.wt.length p2, .slice D2 g.sh.length d2], .int .i64 x]) (by (rw [results_cell_tmp Try.results35]; simp [go_sem, k0, k1, k2, k3, k4])) rfl ?_; exact ⟨P2, p2, D2, d2, g, x, rfl, DrF.mk_ N1.out N2.out (by omega) (by omega) (by omega) S.out.on⟩)
    · subst hz
      go_upto_region 6 with fail
      have KX : ∀ {w'' : World}, BT w'' q5 29 [.int .i64 f.t, .int .i64 f.s, .int .i64 f.sp, .slice P f.wt.length p, .slice D f.sh.length d] → (w''.cell? ⟨q5, 0, none⟩ = some (.int .i64 f.t) ∧ w''.cell? ⟨q5, 1, none⟩ = some (.int .i64 f.s) ∧ w''.cell? ⟨q5, 2, none⟩ = some (.int .i64 f.sp) ∧ w''.cell? ⟨q5, 3, none⟩ = some (.slice P f.wt.length p) ∧ w''.cell? ⟨q5, 4, none⟩ = some (.slice D f.sh.length d)) := fun h => ⟨h.box.1 0 _ rfl, h.box.1 1 _ rfl, h.box.1 2 _ rfl, h.box.1 3 _ rfl, h.box.1 4 _ rfl⟩
      refine wp_region_noPanic ?_
      refine wp_region_held_drew (S := (fun w'' => w''.cell? ⟨q5, 0, none⟩ = some (.int .i64 f.t) ∧ w''.cell? ⟨q5, 1, none⟩ = some (.int .i64 f.s) ∧ w''.cell? ⟨q5, 2, none⟩ = some (.int .i64 f.sp) ∧ w''.cell? ⟨q5, 3, none⟩ = some (.slice P f.wt.length p) ∧ w''.cell? ⟨q5, 4, none⟩ = some (.slice D f.sh.length d))) (by kernel_rfl) ?_ (fun hHeld => ?_)
      · ((try dsimp only); exact KX ⟨Y.out.box.drew, Ty.below Y.out.ty (Below.refl _ _).drew Y.out.lt⟩)
      replace S := Lib.hid (S.out.call (show Below v6.heap.size v6 v6.drew from (Below.refl _ _).drew))
      replace Z := Lib.hid (Z.out.call (show Below v6.heap.size v6 v6.drew from (Below.refl _ _).drew))
      replace O1 := Lib.hid (O1.out.call (show Below v6.heap.size v6 v6.drew from (Below.refl _ _).drew))
      replace O2 := Lib.hid (O2.out.call (show Below v6.heap.size v6 v6.drew from (Below.refl _ _).drew))
      replace Y := Lib.hid (Y.out.call (show Below v6.heap.size v6 v6.drew from (Below.refl _ _).drew))
      replace N1 := Lib.hid (N1.out.call (show Below v6.heap.size v6 v6.drew from (Below.refl _ _).drew))
      replace N2 := Lib.hid (N2.out.call (show Below v6.heap.size v6 v6.drew from (Below.refl _ _).drew))
      replace X := Lib.hid (X.out.call (show Below v6.heap.size v6 v6.drew from (Below.refl _ _).drew))
      generalize v6.drew = v11 at *
      refine take_yes (i := 0) (d := 26) (v := ?_) rfl rfl (by kernel_rfl) (by kernel_rfl) (by kernel_rfl) (fun _ _ _ h => h) (by kernel_rfl) ?_ hHeld ?_
      rotate_left
      · (intro w hSw; (try dsimp only at hSw); go_simp; try (with_reducible rfl))
      try simp only [Act.put, List.setIfInBounds_toArray, List.set_cons_zero, List.set_cons_succ]
      refine take_yes (i := 1) (d := 27) (v := ?_) rfl rfl (by kernel_rfl) (by kernel_rfl) (by kernel_rfl) (fun _ _ _ h => h) (by kernel_rfl) ?_ hHeld ?_
      rotate_left
      · (intro w hSw; (try dsimp only at hSw); go_simp; try (with_reducible rfl))
      try simp only [Act.put, List.setIfInBounds_toArray, List.set_cons_zero, List.set_cons_succ]
      refine wpAnyH_ready (rs := [2]) (by kernel_rfl) (by simp) ?_
      refine AllReadyH.cons rfl (fun K hK => ?_) (AllReadyH.nil)
      try go_simp
      have HL := Lib.hid (lit_cellsI v11 [1, 5, 60, 3600, 3601, 0, 20] 3 v11.heap.size rfl)
      have HLb : v11.heap.size ≠ (w.heap.size + 1) := by have := S.out.bw; omega
      have hbl := below1 v11 (.cells ((([1, 5, 60, 3600, 3601, 0, 20] : List Int).map (Value.int .i64)).toArray) 3)
      replace S := Lib.hid (S.out.call hbl)
      replace Z := Lib.hid (Z.out.call hbl)
      replace O1 := Lib.hid (O1.out.call hbl)
      replace O2 := Lib.hid (O2.out.call hbl)
      replace Y := Lib.hid (Y.out.call hbl)
      replace N1 := Lib.hid (N1.out.call hbl)
      replace N2 := Lib.hid (N2.out.call hbl)
      replace X := Lib.hid (X.out.call hbl)
      clear hbl
      (first | refine hK.out _ _ ?_ (fun hHeld1 => ?_) | (go_wp2_with fail; refine hK.out _ _ ?_ (fun hHeld1 => ?_)))
      · ((try dsimp only); exact KX Y.out)
      clear hK K hHeld
      have hHeld := hHeld1
      clear hHeld1
      try simp only [Act.put, List.setIfInBounds_toArray, List.set_cons_zero, List.set_cons_succ]
      refine wpAnyH_ready (rs := [3]) (by kernel_rfl) (by simp) ?_
      refine AllReadyH.cons rfl (fun K hK => ?_) (AllReadyH.nil)
      go_simp
      (go_at_call 78; refine (among_any [1, 5, 60, 3600, 3601, 0, 20] (some ⟨v11.heap.size, 0, none⟩) 7 (by simp) (by simp) (w.heap.size + 1) A n c _ _ S.out.cur (by omega) HL.out (fun a ha => by obtain rfl := Option.some.inj ha; exact HLb)).mono ?_; rintro e v12 ⟨⟨x, rfl, hx⟩, hc, ho⟩; have HC := Lib.hid hc; have HO := Lib.hid ho; clear hc ho)
      replace Y := Lib.hid (Y.out.draw HO.out (by omega))
      (first | refine hK.out _ _ ?_ (fun hHeld1 => ?_) | (go_wp2_with fail; refine hK.out _ _ ?_ (fun hHeld1 => ?_)))
      · ((try dsimp only); exact KX Y.out)
      clear hK K hHeld
      have hHeld := hHeld1
      clear hHeld1
      try simp only [Act.put, List.setIfInBounds_toArray, List.set_cons_zero, List.set_cons_succ]
      replace S := Lib.hid (S.out.draw HC.out HO.out)
      replace Z := Lib.hid (Z.out.draw HO.out (by omega))
      replace O1 := Lib.hid (O1.out.draw HO.out (by omega))
      replace O2 := Lib.hid (O2.out.draw HO.out (by omega))
      replace N1 := Lib.hid (N1.out.draw HO.out (by omega))
      replace N2 := Lib.hid (N2.out.draw HO.out (by omega))
      replace X := Lib.hid (X.out.draw HO.out (by omega))
      clear HC HO
      clear HL HLb hx
      refine wpAnyH_ready (rs := [4]) (by kernel_rfl) (by simp) ?_
      refine AllReadyH.cons rfl (fun K hK => ?_) (AllReadyH.nil)
      have hsc : v12.setCells w.heap.size 0 (#[.int .i64 f.t, .int .i64 f.s, .int .i64 f.sp, .slice P f.wt.length p, .slice D f.sh.length d] : Array Value).toList = v12.setCells w.heap.size 0 [.int .i64 f.t, .int .i64 f.s, .int .i64 f.sp, .slice P f.wt.length p, .slice D f.sh.length d] := rfl
      rw [if_pos (by kernel_rfl)]
      refine wp_store_mid 29 _ _ (by rfl) w.heap.size 0 #[.int .i64 f.t, .int .i64 f.s, .int .i64 f.sp, .slice P f.wt.length p, .slice D f.sh.length d] (by rfl) (by rfl) Z.out.there (by kernel_rfl) (by simp [Value.oneCell']) ?_
      rw [hsc]
      clear hsc
      replace S := Lib.hid (S.out.puts (q := w.heap.size) (by omega) 0 [.int .i64 f.t, .int .i64 f.s, .int .i64 f.sp, .slice P f.wt.length p, .slice D f.sh.length d])
      replace O1 := Lib.hid (O1.out.puts Z.out.ty (by decide) 0 [.int .i64 f.t, .int .i64 f.s, .int .i64 f.sp, .slice P f.wt.length p, .slice D f.sh.length d])
      replace O2 := Lib.hid (O2.out.puts Z.out.ty (by decide) 0 [.int .i64 f.t, .int .i64 f.s, .int .i64 f.sp, .slice P f.wt.length p, .slice D f.sh.length d])
      replace Y := Lib.hid (Y.out.putsfar w.heap.size (by omega) 0 [.int .i64 f.t, .int .i64 f.s, .int .i64 f.sp, .slice P f.wt.length p, .slice D f.sh.length d])
      replace N1 := Lib.hid (N1.out.puts Z.out.ty (by decide) 0 [.int .i64 f.t, .int .i64 f.s, .int .i64 f.sp, .slice P f.wt.length p, .slice D f.sh.length d])
      replace N2 := Lib.hid (N2.out.puts Z.out.ty (by decide) 0 [.int .i64 f.t, .int .i64 f.s, .int .i64 f.sp, .slice P f.wt.length p, .slice D f.sh.length d])
      replace X := Lib.hid (X.out.putsfar w.heap.size (by omega) 0 [.int .i64 f.t, .int .i64 f.s, .int .i64 f.sp, .slice P f.wt.length p, .slice D f.sh.length d])
      replace Z := Lib.hid (Z.out.puts [.int .i64 f.t, .int .i64 f.s, .int .i64 f.sp, .slice P f.wt.length p, .slice D f.sh.length d] (by rfl))
      (first | refine hK.out _ _ ?_ (fun hHeld1 => ?_) | (go_wp2_with fail; refine hK.out _ _ ?_ (fun hHeld1 => ?_)))
      · ((try dsimp only); exact KX Y.out)
      clear hK K hHeld
      have hHeld := hHeld1
      clear hHeld1
      try simp only [Act.put, List.setIfInBounds_toArray, List.set_cons_zero, List.set_cons_succ]
      generalize (v12.setCells w.heap.size 0 [.int .i64 f.t, .int .i64 f.s, .int .i64 f.sp, .slice P f.wt.length p, .slice D f.sh.length d]) = v13 at *
      refine take_yes (i := 5) (d := 3) (v := ?_) rfl rfl (by kernel_rfl) (by kernel_rfl) (by kernel_rfl) (fun _ _ _ h => h) (by kernel_rfl) ?_ hHeld ?_
      rotate_left
      · (intro w hSw; (try dsimp only at hSw); go_simp; try (with_reducible rfl))
      try simp only [Act.put, List.setIfInBounds_toArray, List.set_cons_zero, List.set_cons_succ]
      refine wpAnyH_done (by kernel_rfl) ?_ _
      refine NoPanic.normal ?_
      clear hHeld KX
      have KS := Z.out.box
      have k0 := KS.1 0 _ rfl
      have k1 := KS.1 1 _ rfl
      have k2 := KS.1 2 _ rfl
      have k3 := KS.1 3 _ rfl
      have k4 := KS.1 4 _ rfl
      clear KS
      go_wp2_with (refine bodyPost_ret (v := .tuple #[.agg #[.int .i64 f.t, .int .i64 f.s, .int .i64 f.sp, .slice P f.wt.length p, .slice D f.sh.length d], .int .i64 x]) (by (rw [results_cell_tmp Try.results35]; simp [go_sem, k0, k1, k2, k3, k4])) rfl ?_; exact ⟨P, p, D, d, f, x, rfl, DrF.mk_ O1.out O2.out (by omega) (by omega) (by omega) S.out.on⟩)
  · rw [hk]
    go_upto_region 6 with fail
    have KX : ∀ {w'' : World}, BT w'' q5 29 [.int .i64 f.t, .int .i64 f.s, .int .i64 f.sp, .slice P f.wt.length p, .slice D f.sh.length d] → (w''.cell? ⟨q5, 0, none⟩ = some (.int .i64 f.t) ∧ w''.cell? ⟨q5, 1, none⟩ = some (.int .i64 f.s) ∧ w''.cell? ⟨q5, 2, none⟩ = some (.int .i64 f.sp) ∧ w''.cell? ⟨q5, 3, none⟩ = some (.slice P f.wt.length p) ∧ w''.cell? ⟨q5, 4, none⟩ = some (.slice D f.sh.length d)) := fun h => ⟨h.box.1 0 _ rfl, h.box.1 1 _ rfl, h.box.1 2 _ rfl, h.box.1 3 _ rfl, h.box.1 4 _ rfl⟩
    refine wp_region_noPanic ?_
    refine wp_region_held_drew (S := (fun w'' => w''.cell? ⟨q5, 0, none⟩ = some (.int .i64 f.t) ∧ w''.cell? ⟨q5, 1, none⟩ = some (.int .i64 f.s) ∧ w''.cell? ⟨q5, 2, none⟩ = some (.int .i64 f.sp) ∧ w''.cell? ⟨q5, 3, none⟩ = some (.slice P f.wt.length p) ∧ w''.cell? ⟨q5, 4, none⟩ = some (.slice D f.sh.length d))) (by kernel_rfl) ?_ (fun hHeld => ?_)
    · ((try dsimp only); exact KX ⟨Y.out.box.drew, Ty.below Y.out.ty (Below.refl _ _).drew Y.out.lt⟩)
    replace S := Lib.hid (S.out.call (show Below v5.heap.size v5 v5.drew from (Below.refl _ _).drew))
    replace Z := Lib.hid (Z.out.call (show Below v5.heap.size v5 v5.drew from (Below.refl _ _).drew))
    replace O1 := Lib.hid (O1.out.call (show Below v5.heap.size v5 v5.drew from (Below.refl _ _).drew))
    replace O2 := Lib.hid (O2.out.call (show Below v5.heap.size v5 v5.drew from (Below.refl _ _).drew))
    replace Y := Lib.hid (Y.out.call (show Below v5.heap.size v5 v5.drew from (Below.refl _ _).drew))
    replace N1 := Lib.hid (N1.out.call (show Below v5.heap.size v5 v5.drew from (Below.refl _ _).drew))
    replace N2 := Lib.hid (N2.out.call (show Below v5.heap.size v5 v5.drew from (Below.refl _ _).drew))
    replace X := Lib.hid (X.out.call (show Below v5.heap.size v5 v5.drew from (Below.refl _ _).drew))
    generalize v5.drew = v14 at *
    refine take_yes (i := 0) (d := 26) (v := ?_) rfl rfl (by kernel_rfl) (by kernel_rfl) (by kernel_rfl) (fun _ _ _ h => h) (by kernel_rfl) ?_ hHeld ?_
    rotate_left
    · (intro w hSw; (try dsimp only at hSw); go_simp; try (with_reducible rfl))
    try simp only [Act.put, List.setIfInBounds_toArray, List.set_cons_zero, List.set_cons_succ]
    refine take_yes (i := 1) (d := 27) (v := ?_) rfl rfl (by kernel_rfl) (by kernel_rfl) (by kernel_rfl) (fun _ _ _ h => h) (by kernel_rfl) ?_ hHeld ?_
    rotate_left
    · (intro w hSw; (try dsimp only at hSw); go_simp; try (with_reducible rfl))
    try simp only [Act.put, List.setIfInBounds_toArray, List.set_cons_zero, List.set_cons_succ]
    refine wpAnyH_ready (rs := [2]) (by kernel_rfl) (by simp) ?_
    refine AllReadyH.cons rfl (fun K hK => ?_) (AllReadyH.nil)
    try go_simp
    have HL := Lib.hid (lit_cellsI v14 [1, 5, 60, 3600, 3601, 0, 20] 3 v14.heap.size rfl)
    have HLb : v14.heap.size ≠ (w.heap.size + 1) := by have := S.out.bw; omega
    have hbl := below1 v14 (.cells ((([1, 5, 60, 3600, 3601, 0, 20] : List Int).map (Value.int .i64)).toArray) 3)
    replace S := Lib.hid (S.out.call hbl)
    replace Z := Lib.hid (Z.out.call hbl)
    replace O1 := Lib.hid (O1.out.call hbl)
    replace O2 := Lib.hid (O2.out.call hbl)
    replace Y := Lib.hid (Y.out.call hbl)
    replace N1 := Lib.hid (N1.out.call hbl)
    replace N2 := Lib.hid (N2.out.call hbl)
    replace X := Lib.hid (X.out.call hbl)
    clear hbl
    (first | refine hK.out _ _ ?_ (fun hHeld1 => ?_) | (go_wp2_with fail; refine hK.out _ _ ?_ (fun hHeld1 => ?_)))
    · ((try dsimp only); exact KX Y.out)
    clear hK K hHeld
    have hHeld := hHeld1
    clear hHeld1
    try simp only [Act.put, List.setIfInBounds_toArray, List.set_cons_zero, List.set_cons_succ]
    refine wpAnyH_ready (rs := [3]) (by kernel_rfl) (by simp) ?_
    refine AllReadyH.cons rfl (fun K hK => ?_) (AllReadyH.nil)
    go_simp
    (go_at_call 78; refine (among_any [1, 5, 60, 3600, 3601, 0, 20] (some ⟨v14.heap.size, 0, none⟩) 7 (by simp) (by simp) (w.heap.size + 1) A n c _ _ S.out.cur (by omega) HL.out (fun a ha => by obtain rfl := Option.some.inj ha; exact HLb)).mono ?_; rintro e v15 ⟨⟨x, rfl, hx⟩, hc, ho⟩; have HC := Lib.hid hc; have HO := Lib.hid ho; clear hc ho)
    replace Y := Lib.hid (Y.out.draw HO.out (by omega))
    (first | refine hK.out _ _ ?_ (fun hHeld1 => ?_) | (go_wp2_with fail; refine hK.out _ _ ?_ (fun hHeld1 => ?_)))
    · ((try dsimp only); exact KX Y.out)
    clear hK K hHeld
    have hHeld := hHeld1
    clear hHeld1
    try simp only [Act.put, List.setIfInBounds_toArray, List.set_cons_zero, List.set_cons_succ]
    replace S := Lib.hid (S.out.draw HC.out HO.out)
    replace Z := Lib.hid (Z.out.draw HO.out (by omega))
    replace O1 := Lib.hid (O1.out.draw HO.out (by omega))
    replace O2 := Lib.hid (O2.out.draw HO.out (by omega))
    replace N1 := Lib.hid (N1.out.draw HO.out (by omega))
    replace N2 := Lib.hid (N2.out.draw HO.out (by omega))
    replace X := Lib.hid (X.out.draw HO.out (by omega))
    clear HC HO
    clear HL HLb hx
    refine wpAnyH_ready (rs := [4]) (by kernel_rfl) (by simp) ?_
    refine AllReadyH.cons rfl (fun K hK => ?_) (AllReadyH.nil)
    have hsc : v15.setCells w.heap.size 0 (#[.int .i64 f.t, .int .i64 f.s, .int .i64 f.sp, .slice P f.wt.length p, .slice D f.sh.length d] : Array Value).toList = v15.setCells w.heap.size 0 [.int .i64 f.t, .int .i64 f.s, .int .i64 f.sp, .slice P f.wt.length p, .slice D f.sh.length d] := rfl
    rw [if_pos (by kernel_rfl)]
    refine wp_store_mid 29 _ _ (by rfl) w.heap.size 0 #[.int .i64 f.t, .int .i64 f.s, .int .i64 f.sp, .slice P f.wt.length p, .slice D f.sh.length d] (by rfl) (by rfl) Z.out.there (by kernel_rfl) (by simp [Value.oneCell']) ?_
    rw [hsc]
    clear hsc
    replace S := Lib.hid (S.out.puts (q := w.heap.size) (by omega) 0 [.int .i64 f.t, .int .i64 f.s, .int .i64 f.sp, .slice P f.wt.length p, .slice D f.sh.length d])
    replace O1 := Lib.hid (O1.out.puts Z.out.ty (by decide) 0 [.int .i64 f.t, .int .i64 f.s, .int .i64 f.sp, .slice P f.wt.length p, .slice D f.sh.length d])
    replace O2 := Lib.hid (O2.out.puts Z.out.ty (by decide) 0 [.int .i64 f.t, .int .i64 f.s, .int .i64 f.sp, .slice P f.wt.length p, .slice D f.sh.length d])
    replace Y := Lib.hid (Y.out.putsfar w.heap.size (by omega) 0 [.int .i64 f.t, .int .i64 f.s, .int .i64 f.sp, .slice P f.wt.length p, .slice D f.sh.length d])
    replace N1 := Lib.hid (N1.out.puts Z.out.ty (by decide) 0 [.int .i64 f.t, .int .i64 f.s, .int .i64 f.sp, .slice P f.wt.length p, .slice D f.sh.length d])
    replace N2 := Lib.hid (N2.out.puts Z.out.ty (by decide) 0 [.int .i64 f.t, .int .i64 f.s, .int .i64 f.sp, .slice P f.wt.length p, .slice D f.sh.length d])
    replace X := Lib.hid (X.out.putsfar w.heap.size (by omega) 0 [.int .i64 f.t, .int .i64 f.s, .int .i64 f.sp, .slice P f.wt.length p, .slice D f.sh.length d])
    replace Z := Lib.hid (Z.out.puts [.int .i64 f.t, .int .i64 f.s, .int .i64 f.sp, .slice P f.wt.length p, .slice D f.sh.length d] (by rfl))
    (first | refine hK.out _ _ ?_ (fun hHeld1 => ?_) | (go_wp2_with fail; refine hK.out _ _ ?_ (fun hHeld1 => ?_)))
    · ((try dsimp only); exact KX Y.out)
    clear hK K hHeld
    have hHeld := hHeld1
    clear hHeld1
    try simp only [Act.put, List.setIfInBounds_toArray, List.set_cons_zero, List.set_cons_succ]
    generalize (v15.setCells w.heap.size 0 [.int .i64 f.t, .int .i64 f.s, .int .i64 f.sp, .slice P f.wt.length p, .slice D f.sh.length d]) = v16 at *
    refine take_yes (i := 5) (d := 3) (v := ?_) rfl rfl (by kernel_rfl) (by kernel_rfl) (by kernel_rfl) (fun _ _ _ h => h) (by kernel_rfl) ?_ hHeld ?_
    rotate_left
    · (intro w hSw; (try dsimp only at hSw); go_simp; try (with_reducible rfl))
    try simp only [Act.put, List.setIfInBounds_toArray, List.set_cons_zero, List.set_cons_succ]
    refine wpAnyH_done (by kernel_rfl) ?_ _
    refine NoPanic.normal ?_
    clear hHeld KX
    have KS := Z.out.box
    have k0 := KS.1 0 _ rfl
    have k1 := KS.1 1 _ rfl
    have k2 := KS.1 2 _ rfl
    have k3 := KS.1 3 _ rfl
    have k4 := KS.1 4 _ rfl
    clear KS
    go_wp2_with (refine bodyPost_ret (v := .tuple #[.agg #[.int .i64 f.t, .int .i64 f.s, .int .i64 f.sp, .slice P f.wt.length p, .slice D f.sh.length d], .int .i64 x]) (by (rw [results_cell_tmp Try.results35]; simp [go_sem, k0, k1, k2, k3, k4])) rfl ?_; exact ⟨P, p, D, d, f, x, rfl, DrF.mk_ O1.out O2.out (by omega) (by omega) (by omega) S.out.on⟩)
set_option maxRecDepth 100000 in
set_option maxHeartbeats 4000000 in
theorem DrawYieldFloor_any (A : Option Addr) (n c : Nat) (w : World) (h : BytesC w A n) (hn : n ≤ 65536) :
    Calls Try.prog 17 #[.slice A n c] w fun e w' => ∃ (P : Option Addr) (p : Nat) (D : Option Addr) (d : Nat) (f : Flr), e = .returned (.agg #[.int .i64 f.t, .int .i64 f.s, .int .i64 f.sp, .slice P f.wt.length p, .slice D f.sh.length d]) ∧ DrF w P p D d f w' := by
  have Z := Lib.hid (BT.new w #[.int .i64 0, .int .i64 0, .int .i64 0, .slice none 0 0, .slice none 0 0] 29 w.heap.size rfl)
  have hb1 := below1 w (.cells #[.int .i64 0, .int .i64 0, .int .i64 0, .slice none 0 0, .slice none 0 0] 29)
  have HY := Lib.hid (h.below_ hb1)
  have hsz : w.heap.size < (w.alloc (.cells #[.int .i64 0, .int .i64 0, .int .i64 0, .slice none 0 0, .slice none 0 0] 29)).heap.size := by simp
  have HB := Lib.hid hb1
  clear h hb1
  go_enter Try.func17, Try.ntmps17
  go_upto_region 1 with fail
  generalize (w.alloc (.cells #[.int .i64 0, .int .i64 0, .int .i64 0, .slice none 0 0, .slice none 0 0] 29)) = W at *
  go_wp2_with fail
  refine (DrawSpeakFor_any A n c W HY.out hn).mono ?_
  rintro e v ⟨P, p, D, d, f, x, rfl, ⟨ow1, ow2⟩, hl1, hl2, hb⟩
  have O1 := Lib.hid (show OwD IntK 3 W.heap.size v P p f.wt from ow1)
  have O2 := Lib.hid (show OwD ShareK 43 W.heap.size v D d f.sh from ow2)
  replace Z := Lib.hid (Z.out.call hb)
  replace HB := Lib.hid (HB.out.trans (hb.mono HB.out.size))
  clear ow1 ow2 hb
  have hq5 := Z.out.lt
  have Y := Lib.hid (BT.new v #[.int .i64 f.t, .int .i64 f.s, .int .i64 f.sp, .slice P f.wt.length p, .slice D f.sh.length d] 29 v.heap.size rfl)
  replace HB := Lib.hid (HB.out.trans ((below1 v (.cells #[.int .i64 f.t, .int .i64 f.s, .int .i64 f.sp, .slice P f.wt.length p, .slice D f.sh.length d] 29)).mono HB.out.size))
  have hbl := below1 v (.cells #[.int .i64 f.t, .int .i64 f.s, .int .i64 f.sp, .slice P f.wt.length p, .slice D f.sh.length d] 29)
  replace Z := Lib.hid (Z.out.call hbl)
  replace O1 := Lib.hid (O1.out.call hbl)
  replace O2 := Lib.hid (O2.out.call hbl)
  clear hbl
  go_upto_region 2 with fail
  generalize (v.alloc (.cells #[.int .i64 f.t, .int .i64 f.s, .int .i64 f.sp, .slice P f.wt.length p, .slice D f.sh.length d] 29)) = v1 at *
  generalize v.heap.size = q5 at *
  go_wp2_with (first | (refine wpList_load_mid rfl 29 _ rfl q5 0 rfl [.int .i64 f.t, .int .i64 f.s, .int .i64 f.sp, .slice P f.wt.length p, .slice D f.sh.length d] _ Y.out.rng Try.underlying29 rfl (by kernel_rfl) ?_) | ((refine wpList_store_mid rfl 29 _ _ rfl w.heap.size 0 #[.int .i64 f.t, .int .i64 f.s, .int .i64 f.sp, .slice P f.wt.length p, .slice D f.sh.length d] rfl rfl Z.out.there (by kernel_rfl) (by simp [Value.oneCell']) ?_); replace O1 := Lib.hid (O1.out.puts Z.out.ty (by decide) 0 [.int .i64 f.t, .int .i64 f.s, .int .i64 f.sp, .slice P f.wt.length p, .slice D f.sh.length d]); replace O2 := Lib.hid (O2.out.puts Z.out.ty (by decide) 0 [.int .i64 f.t, .int .i64 f.s, .int .i64 f.sp, .slice P f.wt.length p, .slice D f.sh.length d]); replace Y := Lib.hid (Y.out.putsfar w.heap.size (by omega) 0 [.int .i64 f.t, .int .i64 f.s, .int .i64 f.sp, .slice P f.wt.length p, .slice D f.sh.length d]); replace Z := Lib.hid (Z.out.puts [.int .i64 f.t, .int .i64 f.s, .int .i64 f.sp, .slice P f.wt.length p, .slice D f.sh.length d] (by rfl)); have KS := Z.out.box; replace HB := Lib.hid (below_puts HB.out (Nat.le_refl _) 0 [.int .i64 f.t, .int .i64 f.s, .int .i64 f.sp, .slice P f.wt.length p, .slice D f.sh.length d]); have k0 := KS.1 0 _ rfl; have k1 := KS.1 1 _ rfl; have k2 := KS.1 2 _ rfl; have k3 := KS.1 3 _ rfl; have k4 := KS.1 4 _ rfl; clear KS) | (refine bodyPost_ret (v := .agg #[.int .i64 f.t, .int .i64 f.s, .int .i64 f.sp, .slice P f.wt.length p, .slice D f.sh.length d]) (by (simp [results, Try.results17, go_sem, k0, k1, k2, k3, k4])) rfl ?_; exact ⟨P, p, D, d, f, rfl, DrF.mk_ O1.out O2.out (by omega) (by omega) (by omega) HB.out⟩))
set_option maxRecDepth 100000 in
set_option maxHeartbeats 4000000 in
theorem DrawLeaveWaiting_any (A : Option Addr) (n c : Nat) (w : World) (h : BytesC w A n) (hn : n ≤ 65536) :
    Calls Try.prog 24 #[.slice A n c] w fun e w' => ∃ (P : Option Addr) (p : Nat) (D : Option Addr) (d : Nat) (f : Flr) (x : Int), e = .returned (.tuple #[.agg #[.int .i64 f.t, .int .i64 f.s, .int .i64 f.sp, .slice P f.wt.length p, .slice D f.sh.length d], .int .i64 x]) ∧ DrF w P p D d f w' := by
  have hb1 := below1 w (.cells #[.int .i64 0, .int .i64 0, .int .i64 0, .slice none 0 0, .slice none 0 0] 29)
  have hbe : (w.alloc (.cells #[.int .i64 0, .int .i64 0, .int .i64 0, .slice none 0 0, .slice none 0 0] 29)).heap.size = w.heap.size + 1 := by simp
  have C := Cur.new_ (c := c) (h.below_ hb1) hn 77
  rw [hbe] at C
  have S := Lib.hid (Tst.mk C (below2 w (.cells #[.int .i64 0, .int .i64 0, .int .i64 0, .slice none 0 0, .slice none 0 0] 29) _) h (Nat.le_succ _))
  have Z := Lib.hid ((BT.new w #[.int .i64 0, .int .i64 0, .int .i64 0, .slice none 0 0, .slice none 0 0] 29 w.heap.size rfl).alloc (.cells #[.slice A n c, .int .i64 0, .int .u64 0] 77))
  have hsz : w.heap.size + 1 < ((w.alloc (.cells #[.int .i64 0, .int .i64 0, .int .i64 0, .slice none 0 0, .slice none 0 0] 29)).alloc (.cells #[.slice A n c, .int .i64 0, .int .u64 0] 77)).heap.size := by simp
  clear h C hb1 hbe
  go_enter Try.func24, Try.ntmps24
  go_upto_region 2 with fail
  generalize ((w.alloc (.cells #[.int .i64 0, .int .i64 0, .int .i64 0, .slice none 0 0, .slice none 0 0] 29)).alloc (.cells #[.slice A n c, .int .i64 0, .int .u64 0] 77)) = v1 at *
  go_wp2_with fail
  have hls := S.out.sz
  refine (floor_any (w.heap.size + 1) A n c _ _ S.out.cur (by omega)).mono ?_
  rintro e v2 ⟨P, p, D, d, f, rfl, ow, hl1, hl2, hc, ho⟩
  replace S := Lib.hid (S.out.draw hc ho)
  replace Z := Lib.hid (Z.out.draw ho (by omega))
  have O1 := Lib.hid (show OwD IntK 3 v1.heap.size v2 P p f.wt from ow.1)
  have O2 := Lib.hid (show OwD ShareK 43 v1.heap.size v2 D d f.sh from ow.2)
  clear hc ho ow
  have hq5 := Z.out.lt
  have hb5 := S.out.bw
  have Y := Lib.hid (BT.new v2 #[.int .i64 f.t, .int .i64 f.s, .int .i64 f.sp, .slice P f.wt.length p, .slice D f.sh.length d] 29 v2.heap.size rfl)
  have hbl := below1 v2 (.cells #[.int .i64 f.t, .int .i64 f.s, .int .i64 f.sp, .slice P f.wt.length p, .slice D f.sh.length d] 29)
  replace S := Lib.hid (S.out.call hbl)
  replace Z := Lib.hid (Z.out.call hbl)
  replace O1 := Lib.hid (O1.out.call hbl)
  replace O2 := Lib.hid (O2.out.call hbl)
  clear hbl
  go_upto_region 3 with fail
  generalize (v2.alloc (.cells #[.int .i64 f.t, .int .i64 f.s, .int .i64 f.sp, .slice P f.wt.length p, .slice D f.sh.length d] 29)) = v3 at *
  generalize v2.heap.size = q5 at *
  by_cases h0 : 0 < f.wt.length
  · have hd0 : decide ((0 : Int) < (f.wt.length : Int)) = true := decide_eq_true (by omega)
    have i0 : (0 : Int) < (f.wt.length : Int) := by omega
    have y0 := Y.out.box.1 0 _ rfl
    have y1 := Y.out.box.1 1 _ rfl
    have y2 := Y.out.box.1 2 _ rfl
    have y3 := Y.out.box.1 3 _ rfl
    have y4 := Y.out.box.1 4 _ rfl
    go_wp2_with fail
    refine (one_any 3 (by omega) (by omega) (w.heap.size + 1) A n c _ _ S.out.cur (by omega)).mono ?_
    rintro e v4 ⟨⟨z, rfl⟩, hc, ho⟩
    replace S := Lib.hid (S.out.draw hc ho)
    replace Z := Lib.hid (Z.out.draw ho (by omega))
    replace O1 := Lib.hid (O1.out.draw ho (by omega))
    replace O2 := Lib.hid (O2.out.draw ho (by omega))
    replace Y := Lib.hid (Y.out.draw ho (by omega))
    clear hc ho y0 y1 y2 y3 y4
    rcases Bool.eq_false_or_eq_true z with hz | hz
    · subst hz
      go_upto_region 5 with fail
      have KX : ∀ {w'' : World}, BT w'' q5 29 [.int .i64 f.t, .int .i64 f.s, .int .i64 f.sp, .slice P f.wt.length p, .slice D f.sh.length d] → (w''.cell? ⟨q5, 0, none⟩ = some (.int .i64 f.t) ∧ w''.cell? ⟨q5, 1, none⟩ = some (.int .i64 f.s) ∧ w''.cell? ⟨q5, 2, none⟩ = some (.int .i64 f.sp) ∧ w''.cell? ⟨q5, 3, none⟩ = some (.slice P f.wt.length p) ∧ w''.cell? ⟨q5, 4, none⟩ = some (.slice D f.sh.length d)) := fun h => ⟨h.box.1 0 _ rfl, h.box.1 1 _ rfl, h.box.1 2 _ rfl, h.box.1 3 _ rfl, h.box.1 4 _ rfl⟩
      refine wp_region_noPanic ?_
      refine wp_region_held_drew (S := (fun w'' => w''.cell? ⟨q5, 0, none⟩ = some (.int .i64 f.t) ∧ w''.cell? ⟨q5, 1, none⟩ = some (.int .i64 f.s) ∧ w''.cell? ⟨q5, 2, none⟩ = some (.int .i64 f.sp) ∧ w''.cell? ⟨q5, 3, none⟩ = some (.slice P f.wt.length p) ∧ w''.cell? ⟨q5, 4, none⟩ = some (.slice D f.sh.length d))) (by kernel_rfl) ?_ (fun hHeld => ?_)
      · ((try dsimp only); exact KX ⟨Y.out.box.drew, Ty.below Y.out.ty (Below.refl _ _).drew Y.out.lt⟩)
      replace S := Lib.hid (S.out.call (show Below v4.heap.size v4 v4.drew from (Below.refl _ _).drew))
      replace Z := Lib.hid (Z.out.call (show Below v4.heap.size v4 v4.drew from (Below.refl _ _).drew))
      replace O1 := Lib.hid (O1.out.call (show Below v4.heap.size v4 v4.drew from (Below.refl _ _).drew))
      replace O2 := Lib.hid (O2.out.call (show Below v4.heap.size v4 v4.drew from (Below.refl _ _).drew))
      replace Y := Lib.hid (Y.out.call (show Below v4.heap.size v4 v4.drew from (Below.refl _ _).drew))
      generalize v4.drew = v5 at *
      refine take_yes (i := 0) (d := 30) (v := ?_) rfl rfl (by kernel_rfl) (by kernel_rfl) (by kernel_rfl) (fun _ _ _ h => h) (by kernel_rfl) ?_ hHeld ?_
      rotate_left
      · (intro w hSw; (try dsimp only at hSw); go_simp; try (with_reducible rfl))
      try simp only [Act.put, List.setIfInBounds_toArray, List.set_cons_zero, List.set_cons_succ]
      refine take_yes (i := 1) (d := 31) (v := ?_) rfl rfl (by kernel_rfl) (by kernel_rfl) (by kernel_rfl) (fun _ _ _ h => h) (by kernel_rfl) ?_ hHeld ?_
      rotate_left
      · (intro w hSw; (try dsimp only at hSw); go_simp; try (with_reducible rfl))
      try simp only [Act.put, List.setIfInBounds_toArray, List.set_cons_zero, List.set_cons_succ]
      refine wpAnyH_ready (rs := [2]) (by kernel_rfl) (by simp) ?_
      refine AllReadyH.cons rfl (fun K hK => ?_) (AllReadyH.nil)
      go_simp
      (go_at_call 72; refine (member_any (w.heap.size + 1) A n c _ _ S.out.cur (by omega)).mono ?_; rintro e v6 ⟨⟨x, rfl, hx⟩, hc, ho⟩; have HC := Lib.hid hc; have HO := Lib.hid ho; clear hc ho)
      replace Y := Lib.hid (Y.out.draw HO.out (by omega))
      (first | refine hK.out _ _ ?_ (fun hHeld1 => ?_) | (go_wp2_with fail; refine hK.out _ _ ?_ (fun hHeld1 => ?_)))
      · ((try dsimp only); exact KX Y.out)
      clear hK K hHeld
      have hHeld := hHeld1
      clear hHeld1
      try simp only [Act.put, List.setIfInBounds_toArray, List.set_cons_zero, List.set_cons_succ]
      replace S := Lib.hid (S.out.draw HC.out HO.out)
      replace Z := Lib.hid (Z.out.draw HO.out (by omega))
      replace O1 := Lib.hid (O1.out.draw HO.out (by omega))
      replace O2 := Lib.hid (O2.out.draw HO.out (by omega))
      clear HC HO
      refine wpAnyH_ready (rs := [3]) (by kernel_rfl) (by simp) ?_
      refine AllReadyH.cons rfl (fun K hK => ?_) (AllReadyH.nil)
      have hsc : v6.setCells w.heap.size 0 (#[.int .i64 f.t, .int .i64 f.s, .int .i64 f.sp, .slice P f.wt.length p, .slice D f.sh.length d] : Array Value).toList = v6.setCells w.heap.size 0 [.int .i64 f.t, .int .i64 f.s, .int .i64 f.sp, .slice P f.wt.length p, .slice D f.sh.length d] := rfl
      rw [if_pos (by kernel_rfl)]
      refine wp_store_mid 29 _ _ (by rfl) w.heap.size 0 #[.int .i64 f.t, .int .i64 f.s, .int .i64 f.sp, .slice P f.wt.length p, .slice D f.sh.length d] (by rfl) (by rfl) Z.out.there (by kernel_rfl) (by simp [Value.oneCell']) ?_
      rw [hsc]
      clear hsc
      replace S := Lib.hid (S.out.puts (q := w.heap.size) (by omega) 0 [.int .i64 f.t, .int .i64 f.s, .int .i64 f.sp, .slice P f.wt.length p, .slice D f.sh.length d])
      replace O1 := Lib.hid (O1.out.puts Z.out.ty (by decide) 0 [.int .i64 f.t, .int .i64 f.s, .int .i64 f.sp, .slice P f.wt.length p, .slice D f.sh.length d])
      replace O2 := Lib.hid (O2.out.puts Z.out.ty (by decide) 0 [.int .i64 f.t, .int .i64 f.s, .int .i64 f.sp, .slice P f.wt.length p, .slice D f.sh.length d])
      replace Y := Lib.hid (Y.out.putsfar w.heap.size (by omega) 0 [.int .i64 f.t, .int .i64 f.s, .int .i64 f.sp, .slice P f.wt.length p, .slice D f.sh.length d])
      replace Z := Lib.hid (Z.out.puts [.int .i64 f.t, .int .i64 f.s, .int .i64 f.sp, .slice P f.wt.length p, .slice D f.sh.length d] (by rfl))
      (first | refine hK.out _ _ ?_ (fun hHeld1 => ?_) | (go_wp2_with fail; refine hK.out _ _ ?_ (fun hHeld1 => ?_)))
      · ((try dsimp only); exact KX Y.out)
      clear hK K hHeld
      have hHeld := hHeld1
      clear hHeld1
      try simp only [Act.put, List.setIfInBounds_toArray, List.set_cons_zero, List.set_cons_succ]
      generalize (v6.setCells w.heap.size 0 [.int .i64 f.t, .int .i64 f.s, .int .i64 f.sp, .slice P f.wt.length p, .slice D f.sh.length d]) = v7 at *
      refine take_yes (i := 4) (d := 3) (v := ?_) rfl rfl (by kernel_rfl) (by kernel_rfl) (by kernel_rfl) (fun _ _ _ h => h) (by kernel_rfl) ?_ hHeld ?_
      rotate_left
      · (intro w hSw; (try dsimp only at hSw); go_simp; try (with_reducible rfl))
      try simp only [Act.put, List.setIfInBounds_toArray, List.set_cons_zero, List.set_cons_succ]
      refine wpAnyH_done (by kernel_rfl) ?_ _
      refine NoPanic.normal ?_
      clear hHeld KX
      have KS := Z.out.box
      have k0 := KS.1 0 _ rfl
      have k1 := KS.1 1 _ rfl
      have k2 := KS.1 2 _ rfl
      have k3 := KS.1 3 _ rfl
      have k4 := KS.1 4 _ rfl
      clear KS
      go_wp2_with (refine bodyPost_ret (v := .tuple #[.agg #[.int .i64 f.t, .int .i64 f.s, .int .i64 f.sp, .slice P f.wt.length p, .slice D f.sh.length d], .int .i64 x]) (by (rw [results_cell_tmp Try.results24]; simp [go_sem, k0, k1, k2, k3, k4])) rfl ?_; exact ⟨P, p, D, d, f, x, rfl, DrF.mk_ O1.out O2.out (by omega) (by omega) (by omega) S.out.on⟩)
    · subst hz
      go_upto_region 4 with fail
      have KX : ∀ {w'' : World}, BT w'' q5 29 [.int .i64 f.t, .int .i64 f.s, .int .i64 f.sp, .slice P f.wt.length p, .slice D f.sh.length d] → (w''.cell? ⟨q5, 0, none⟩ = some (.int .i64 f.t) ∧ w''.cell? ⟨q5, 1, none⟩ = some (.int .i64 f.s) ∧ w''.cell? ⟨q5, 2, none⟩ = some (.int .i64 f.sp) ∧ w''.cell? ⟨q5, 3, none⟩ = some (.slice P f.wt.length p) ∧ w''.cell? ⟨q5, 4, none⟩ = some (.slice D f.sh.length d)) := fun h => ⟨h.box.1 0 _ rfl, h.box.1 1 _ rfl, h.box.1 2 _ rfl, h.box.1 3 _ rfl, h.box.1 4 _ rfl⟩
      refine wp_region_noPanic ?_
      refine wp_region_held_drew (S := (fun w'' => w''.cell? ⟨q5, 0, none⟩ = some (.int .i64 f.t) ∧ w''.cell? ⟨q5, 1, none⟩ = some (.int .i64 f.s) ∧ w''.cell? ⟨q5, 2, none⟩ = some (.int .i64 f.sp) ∧ w''.cell? ⟨q5, 3, none⟩ = some (.slice P f.wt.length p) ∧ w''.cell? ⟨q5, 4, none⟩ = some (.slice D f.sh.length d))) (by kernel_rfl) ?_ (fun hHeld => ?_)
      · ((try dsimp only); exact KX ⟨Y.out.box.drew, Ty.below Y.out.ty (Below.refl _ _).drew Y.out.lt⟩)
      replace S := Lib.hid (S.out.call (show Below v4.heap.size v4 v4.drew from (Below.refl _ _).drew))
      replace Z := Lib.hid (Z.out.call (show Below v4.heap.size v4 v4.drew from (Below.refl _ _).drew))
      replace O1 := Lib.hid (O1.out.call (show Below v4.heap.size v4 v4.drew from (Below.refl _ _).drew))
      replace O2 := Lib.hid (O2.out.call (show Below v4.heap.size v4 v4.drew from (Below.refl _ _).drew))
      replace Y := Lib.hid (Y.out.call (show Below v4.heap.size v4 v4.drew from (Below.refl _ _).drew))
      generalize v4.drew = v8 at *
      refine take_yes (i := 0) (d := 20) (v := ?_) rfl rfl (by kernel_rfl) (by kernel_rfl) (by kernel_rfl) (fun _ _ _ h => h) (by kernel_rfl) ?_ hHeld ?_
      rotate_left
      · (intro w hSw; (try dsimp only at hSw); go_simp; try (with_reducible rfl))
      try simp only [Act.put, List.setIfInBounds_toArray, List.set_cons_zero, List.set_cons_succ]
      refine take_yes (i := 1) (d := 21) (v := ?_) rfl rfl (by kernel_rfl) (by kernel_rfl) (by kernel_rfl) (fun _ _ _ h => h) (by kernel_rfl) ?_ hHeld ?_
      rotate_left
      · (intro w hSw; (try dsimp only at hSw); go_simp; try (with_reducible rfl))
      try simp only [Act.put, List.setIfInBounds_toArray, List.set_cons_zero, List.set_cons_succ]
      refine take_yes (i := 2) (d := 22) (v := ?_) rfl rfl (by kernel_rfl) (by kernel_rfl) (by kernel_rfl) (fun _ _ _ h => h) (by kernel_rfl) ?_ hHeld ?_
      rotate_left
      · (intro w hSw; (try dsimp only at hSw); go_simp; try (with_reducible rfl))
      try simp only [Act.put, List.setIfInBounds_toArray, List.set_cons_zero, List.set_cons_succ]
      refine take_yes (i := 3) (d := 23) (v := ?_) rfl rfl (by kernel_rfl) (by kernel_rfl) (by kernel_rfl) (fun _ _ _ h => h) (by kernel_rfl) ?_ hHeld ?_
      rotate_left
      · (intro w hSw; (try dsimp only at hSw); go_simp; try (with_reducible rfl))
      try simp only [Act.put, List.setIfInBounds_toArray, List.set_cons_zero, List.set_cons_succ]
      refine take_yes (i := 4) (d := 24) (v := ?_) rfl rfl (by kernel_rfl) (by kernel_rfl) (by kernel_rfl) (fun _ _ _ h => h) (by kernel_rfl) ?_ hHeld ?_
      rotate_left
      · (intro w hSw; (try dsimp only at hSw); go_simp; try (with_reducible rfl))
      try simp only [Act.put, List.setIfInBounds_toArray, List.set_cons_zero, List.set_cons_succ]
      refine take_yes (i := 5) (d := 25) (v := ?_) rfl rfl (by kernel_rfl) (by kernel_rfl) (by kernel_rfl) (fun _ _ _ h => h) (by kernel_rfl) ?_ hHeld ?_
      rotate_left
      · (intro w hSw; (try dsimp only at hSw); go_simp; try (with_reducible rfl))
      try simp only [Act.put, List.setIfInBounds_toArray, List.set_cons_zero, List.set_cons_succ]
      refine take_yes (i := 6) (d := 26) (v := ?_) rfl rfl (by kernel_rfl) (by kernel_rfl) (by kernel_rfl) (fun _ _ _ h => h) (by kernel_rfl) ?_ hHeld ?_
      rotate_left
      · (intro w hSw; (try dsimp only at hSw); go_simp; try (with_reducible rfl))
      try simp only [Act.put, List.setIfInBounds_toArray, List.set_cons_zero, List.set_cons_succ]
      refine wpAnyH_ready (rs := [7]) (by kernel_rfl) (by simp) ?_
      refine AllReadyH.cons rfl (fun K hK => ?_) (AllReadyH.nil)
      go_simp
      (go_at_call 71; refine (pickZ_any (f.wt.length : Int) (by omega) (w.heap.size + 1) A n c _ _ S.out.cur (by omega)).mono ?_; rintro e v9 ⟨⟨y, rfl, hy⟩, hc, ho⟩; have HC := Lib.hid hc; have HO := Lib.hid ho; clear hc ho)
      replace Y := Lib.hid (Y.out.draw HO.out (by omega))
      (first | refine hK.out _ _ ?_ (fun hHeld1 => ?_) | (go_wp2_with fail; refine hK.out _ _ ?_ (fun hHeld1 => ?_)))
      · ((try dsimp only); exact KX Y.out)
      clear hK K hHeld
      have hHeld := hHeld1
      clear hHeld1
      try simp only [Act.put, List.setIfInBounds_toArray, List.set_cons_zero, List.set_cons_succ]
      replace S := Lib.hid (S.out.draw HC.out HO.out)
      replace Z := Lib.hid (Z.out.draw HO.out (by omega))
      replace O1 := Lib.hid (O1.out.draw HO.out (by omega))
      replace O2 := Lib.hid (O2.out.draw HO.out (by omega))
      clear HC HO
      have hyl : y < f.wt.length := by omega
      obtain ⟨a, hPa, hca⟩ := int_at O1.out.rd.cells hyl
      have i1 : (y : Int) < (f.wt.length : Int) := by omega
      obtain ⟨x, hx⟩ : ∃ x, f.wt[y] = x := ⟨_, rfl⟩
      have HXX := Lib.hid hx
      clear hx hca
      subst hPa
      refine take_yes (i := 8) (d := 28) (v := ?_) rfl rfl (by kernel_rfl) (by kernel_rfl) (by kernel_rfl) (fun _ _ _ h => h) (by kernel_rfl) ?_ hHeld ?_
      rotate_left
      · (intro w hSw; (try dsimp only at hSw); go_simp; try (with_reducible rfl))
      try simp only [Act.put, List.setIfInBounds_toArray, List.set_cons_zero, List.set_cons_succ]
      refine wpAnyH_ready (rs := [9, 10]) (by kernel_rfl) (by simp) ?_
      refine AllReadyH.cons rfl (fun K hK => ?_) (AllReadyH.cons rfl (fun K hK => ?_) (AllReadyH.nil))
      · skip
        obtain ⟨a2, ha2, hca⟩ := int_at O1.out.rd.cells hyl
        obtain rfl := Option.some.inj ha2
        rw [HXX.out] at hca
        clear ha2
        go_simp
        (first | refine hK.out _ _ ?_ (fun hHeld1 => ?_) | (go_wp2_with fail; refine hK.out _ _ ?_ (fun hHeld1 => ?_)))
        · ((try dsimp only); exact KX Y.out)
        clear hK K hHeld
        have hHeld := hHeld1
        clear hHeld1
        try simp only [Act.put, List.setIfInBounds_toArray, List.set_cons_zero, List.set_cons_succ]
        refine wpAnyH_ready (rs := [10]) (by kernel_rfl) (by simp) ?_
        refine AllReadyH.cons rfl (fun K hK => ?_) (AllReadyH.nil)
        have hsc : v9.setCells w.heap.size 0 (#[.int .i64 f.t, .int .i64 f.s, .int .i64 f.sp, .slice (some a) f.wt.length p, .slice D f.sh.length d] : Array Value).toList = v9.setCells w.heap.size 0 [.int .i64 f.t, .int .i64 f.s, .int .i64 f.sp, .slice (some a) f.wt.length p, .slice D f.sh.length d] := rfl
        rw [if_pos (by kernel_rfl)]
        refine wp_store_mid 29 _ _ (by rfl) w.heap.size 0 #[.int .i64 f.t, .int .i64 f.s, .int .i64 f.sp, .slice (some a) f.wt.length p, .slice D f.sh.length d] (by rfl) (by rfl) Z.out.there (by kernel_rfl) (by simp [Value.oneCell']) ?_
        rw [hsc]
        clear hsc
        replace S := Lib.hid (S.out.puts (q := w.heap.size) (by omega) 0 [.int .i64 f.t, .int .i64 f.s, .int .i64 f.sp, .slice (some a) f.wt.length p, .slice D f.sh.length d])
        replace O1 := Lib.hid (O1.out.puts Z.out.ty (by decide) 0 [.int .i64 f.t, .int .i64 f.s, .int .i64 f.sp, .slice (some a) f.wt.length p, .slice D f.sh.length d])
        replace O2 := Lib.hid (O2.out.puts Z.out.ty (by decide) 0 [.int .i64 f.t, .int .i64 f.s, .int .i64 f.sp, .slice (some a) f.wt.length p, .slice D f.sh.length d])
        replace Y := Lib.hid (Y.out.putsfar w.heap.size (by omega) 0 [.int .i64 f.t, .int .i64 f.s, .int .i64 f.sp, .slice (some a) f.wt.length p, .slice D f.sh.length d])
        replace Z := Lib.hid (Z.out.puts [.int .i64 f.t, .int .i64 f.s, .int .i64 f.sp, .slice (some a) f.wt.length p, .slice D f.sh.length d] (by rfl))
        (first | refine hK.out _ _ ?_ (fun hHeld1 => ?_) | (go_wp2_with fail; refine hK.out _ _ ?_ (fun hHeld1 => ?_)))
        · ((try dsimp only); exact KX Y.out)
        clear hK K hHeld
        have hHeld := hHeld1
        clear hHeld1
        try simp only [Act.put, List.setIfInBounds_toArray, List.set_cons_zero, List.set_cons_succ]
        generalize (v9.setCells w.heap.size 0 [.int .i64 f.t, .int .i64 f.s, .int .i64 f.sp, .slice (some a) f.wt.length p, .slice D f.sh.length d]) = v10 at *
        refine take_yes (i := 11) (d := 3) (v := ?_) rfl rfl (by kernel_rfl) (by kernel_rfl) (by kernel_rfl) (fun _ _ _ h => h) (by kernel_rfl) ?_ hHeld ?_
        rotate_left
        · (intro w hSw; (try dsimp only at hSw); go_simp; try (with_reducible rfl))
        try simp only [Act.put, List.setIfInBounds_toArray, List.set_cons_zero, List.set_cons_succ]
        refine wpAnyH_done (by kernel_rfl) ?_ _
        refine NoPanic.normal ?_
        clear hHeld KX
        have KS := Z.out.box
        have k0 := KS.1 0 _ rfl
        have k1 := KS.1 1 _ rfl
        have k2 := KS.1 2 _ rfl
        have k3 := KS.1 3 _ rfl
        have k4 := KS.1 4 _ rfl
        clear KS
        go_wp2_with (refine bodyPost_ret (v := .tuple #[.agg #[.int .i64 f.t, .int .i64 f.s, .int .i64 f.sp, .slice (some a) f.wt.length p, .slice D f.sh.length d], .int .i64 x]) (by (rw [results_cell_tmp Try.results24]; simp [go_sem, k0, k1, k2, k3, k4])) rfl ?_; exact ⟨some a, p, D, d, f, x, rfl, DrF.mk_ O1.out O2.out (by omega) (by omega) (by omega) S.out.on⟩)
      · skip
        have hsc : v9.setCells w.heap.size 0 (#[.int .i64 f.t, .int .i64 f.s, .int .i64 f.sp, .slice (some a) f.wt.length p, .slice D f.sh.length d] : Array Value).toList = v9.setCells w.heap.size 0 [.int .i64 f.t, .int .i64 f.s, .int .i64 f.sp, .slice (some a) f.wt.length p, .slice D f.sh.length d] := rfl
        rw [if_pos (by kernel_rfl)]
        refine wp_store_mid 29 _ _ (by rfl) w.heap.size 0 #[.int .i64 f.t, .int .i64 f.s, .int .i64 f.sp, .slice (some a) f.wt.length p, .slice D f.sh.length d] (by rfl) (by rfl) Z.out.there (by kernel_rfl) (by simp [Value.oneCell']) ?_
        rw [hsc]
        clear hsc
        replace S := Lib.hid (S.out.puts (q := w.heap.size) (by omega) 0 [.int .i64 f.t, .int .i64 f.s, .int .i64 f.sp, .slice (some a) f.wt.length p, .slice D f.sh.length d])
        replace O1 := Lib.hid (O1.out.puts Z.out.ty (by decide) 0 [.int .i64 f.t, .int .i64 f.s, .int .i64 f.sp, .slice (some a) f.wt.length p, .slice D f.sh.length d])
        replace O2 := Lib.hid (O2.out.puts Z.out.ty (by decide) 0 [.int .i64 f.t, .int .i64 f.s, .int .i64 f.sp, .slice (some a) f.wt.length p, .slice D f.sh.length d])
        replace Y := Lib.hid (Y.out.putsfar w.heap.size (by omega) 0 [.int .i64 f.t, .int .i64 f.s, .int .i64 f.sp, .slice (some a) f.wt.length p, .slice D f.sh.length d])
        replace Z := Lib.hid (Z.out.puts [.int .i64 f.t, .int .i64 f.s, .int .i64 f.sp, .slice (some a) f.wt.length p, .slice D f.sh.length d] (by rfl))
        (first | refine hK.out _ _ ?_ (fun hHeld1 => ?_) | (go_wp2_with fail; refine hK.out _ _ ?_ (fun hHeld1 => ?_)))
        · ((try dsimp only); exact KX Y.out)
        clear hK K hHeld
        have hHeld := hHeld1
        clear hHeld1
        try simp only [Act.put, List.setIfInBounds_toArray, List.set_cons_zero, List.set_cons_succ]
        generalize (v9.setCells w.heap.size 0 [.int .i64 f.t, .int .i64 f.s, .int .i64 f.sp, .slice (some a) f.wt.length p, .slice D f.sh.length d]) = v11 at *
        refine wpAnyH_ready (rs := [9]) (by kernel_rfl) (by simp) ?_
        refine AllReadyH.cons rfl (fun K hK => ?_) (AllReadyH.nil)
        obtain ⟨a2, ha2, hca⟩ := int_at O1.out.rd.cells hyl
        obtain rfl := Option.some.inj ha2
        rw [HXX.out] at hca
        clear ha2
        go_simp
        (first | refine hK.out _ _ ?_ (fun hHeld1 => ?_) | (go_wp2_with fail; refine hK.out _ _ ?_ (fun hHeld1 => ?_)))
        · ((try dsimp only); exact KX Y.out)
        clear hK K hHeld
        have hHeld := hHeld1
        clear hHeld1
        try simp only [Act.put, List.setIfInBounds_toArray, List.set_cons_zero, List.set_cons_succ]
        refine take_yes (i := 11) (d := 3) (v := ?_) rfl rfl (by kernel_rfl) (by kernel_rfl) (by kernel_rfl) (fun _ _ _ h => h) (by kernel_rfl) ?_ hHeld ?_
        rotate_left
        · (intro w hSw; (try dsimp only at hSw); go_simp; try (with_reducible rfl))
        try simp only [Act.put, List.setIfInBounds_toArray, List.set_cons_zero, List.set_cons_succ]
        refine wpAnyH_done (by kernel_rfl) ?_ _
        refine NoPanic.normal ?_
        clear hHeld KX
        have KS := Z.out.box
        have k0 := KS.1 0 _ rfl
        have k1 := KS.1 1 _ rfl
        have k2 := KS.1 2 _ rfl
        have k3 := KS.1 3 _ rfl
        have k4 := KS.1 4 _ rfl
        clear KS
        go_wp2_with (refine bodyPost_ret (v := .tuple #[.agg #[.int .i64 f.t, .int .i64 f.s, .int .i64 f.sp, .slice (some a) f.wt.length p, .slice D f.sh.length d], .int .i64 x]) (by (rw [results_cell_tmp Try.results24]; simp [go_sem, k0, k1, k2, k3, k4])) rfl ?_; exact ⟨some a, p, D, d, f, x, rfl, DrF.mk_ O1.out O2.out (by omega) (by omega) (by omega) S.out.on⟩)
  · have hd0 : decide ((0 : Int) < (f.wt.length : Int)) = false := decide_eq_false (by omega)
    have i0 : ¬ (0 : Int) < (f.wt.length : Int) := by omega
    have y0 := Y.out.box.1 0 _ rfl
    have y1 := Y.out.box.1 1 _ rfl
    have y2 := Y.out.box.1 2 _ rfl
    have y3 := Y.out.box.1 3 _ rfl
    have y4 := Y.out.box.1 4 _ rfl
    go_upto_region 5 with fail
    have KX : ∀ {w'' : World}, BT w'' q5 29 [.int .i64 f.t, .int .i64 f.s, .int .i64 f.sp, .slice P f.wt.length p, .slice D f.sh.length d] → (w''.cell? ⟨q5, 0, none⟩ = some (.int .i64 f.t) ∧ w''.cell? ⟨q5, 1, none⟩ = some (.int .i64 f.s) ∧ w''.cell? ⟨q5, 2, none⟩ = some (.int .i64 f.sp) ∧ w''.cell? ⟨q5, 3, none⟩ = some (.slice P f.wt.length p) ∧ w''.cell? ⟨q5, 4, none⟩ = some (.slice D f.sh.length d)) := fun h => ⟨h.box.1 0 _ rfl, h.box.1 1 _ rfl, h.box.1 2 _ rfl, h.box.1 3 _ rfl, h.box.1 4 _ rfl⟩
    refine wp_region_noPanic ?_
    refine wp_region_held_drew (S := (fun w'' => w''.cell? ⟨q5, 0, none⟩ = some (.int .i64 f.t) ∧ w''.cell? ⟨q5, 1, none⟩ = some (.int .i64 f.s) ∧ w''.cell? ⟨q5, 2, none⟩ = some (.int .i64 f.sp) ∧ w''.cell? ⟨q5, 3, none⟩ = some (.slice P f.wt.length p) ∧ w''.cell? ⟨q5, 4, none⟩ = some (.slice D f.sh.length d))) (by kernel_rfl) ?_ (fun hHeld => ?_)
    · ((try dsimp only); exact KX ⟨Y.out.box.drew, Ty.below Y.out.ty (Below.refl _ _).drew Y.out.lt⟩)
    replace S := Lib.hid (S.out.call (show Below v3.heap.size v3 v3.drew from (Below.refl _ _).drew))
    replace Z := Lib.hid (Z.out.call (show Below v3.heap.size v3 v3.drew from (Below.refl _ _).drew))
    replace O1 := Lib.hid (O1.out.call (show Below v3.heap.size v3 v3.drew from (Below.refl _ _).drew))
    replace O2 := Lib.hid (O2.out.call (show Below v3.heap.size v3 v3.drew from (Below.refl _ _).drew))
    replace Y := Lib.hid (Y.out.call (show Below v3.heap.size v3 v3.drew from (Below.refl _ _).drew))
    generalize v3.drew = v12 at *
    refine take_yes (i := 0) (d := 30) (v := ?_) rfl rfl (by kernel_rfl) (by kernel_rfl) (by kernel_rfl) (fun _ _ _ h => h) (by kernel_rfl) ?_ hHeld ?_
    rotate_left
    · (intro w hSw; (try dsimp only at hSw); go_simp; try (with_reducible rfl))
    try simp only [Act.put, List.setIfInBounds_toArray, List.set_cons_zero, List.set_cons_succ]
    refine take_yes (i := 1) (d := 31) (v := ?_) rfl rfl (by kernel_rfl) (by kernel_rfl) (by kernel_rfl) (fun _ _ _ h => h) (by kernel_rfl) ?_ hHeld ?_
    rotate_left
    · (intro w hSw; (try dsimp only at hSw); go_simp; try (with_reducible rfl))
    try simp only [Act.put, List.setIfInBounds_toArray, List.set_cons_zero, List.set_cons_succ]
    refine wpAnyH_ready (rs := [2]) (by kernel_rfl) (by simp) ?_
    refine AllReadyH.cons rfl (fun K hK => ?_) (AllReadyH.nil)
    go_simp
    (go_at_call 72; refine (member_any (w.heap.size + 1) A n c _ _ S.out.cur (by omega)).mono ?_; rintro e v13 ⟨⟨x, rfl, hx⟩, hc, ho⟩; have HC := Lib.hid hc; have HO := Lib.hid ho; clear hc ho)
    replace Y := Lib.hid (Y.out.draw HO.out (by omega))
    (first | refine hK.out _ _ ?_ (fun hHeld1 => ?_) | (go_wp2_with fail; refine hK.out _ _ ?_ (fun hHeld1 => ?_)))
    · ((try dsimp only); exact KX Y.out)
    clear hK K hHeld
    have hHeld := hHeld1
    clear hHeld1
    try simp only [Act.put, List.setIfInBounds_toArray, List.set_cons_zero, List.set_cons_succ]
    replace S := Lib.hid (S.out.draw HC.out HO.out)
    replace Z := Lib.hid (Z.out.draw HO.out (by omega))
    replace O1 := Lib.hid (O1.out.draw HO.out (by omega))
    replace O2 := Lib.hid (O2.out.draw HO.out (by omega))
    clear HC HO
    refine wpAnyH_ready (rs := [3]) (by kernel_rfl) (by simp) ?_
    refine AllReadyH.cons rfl (fun K hK => ?_) (AllReadyH.nil)
    have hsc : v13.setCells w.heap.size 0 (#[.int .i64 f.t, .int .i64 f.s, .int .i64 f.sp, .slice P f.wt.length p, .slice D f.sh.length d] : Array Value).toList = v13.setCells w.heap.size 0 [.int .i64 f.t, .int .i64 f.s, .int .i64 f.sp, .slice P f.wt.length p, .slice D f.sh.length d] := rfl
    rw [if_pos (by kernel_rfl)]
    refine wp_store_mid 29 _ _ (by rfl) w.heap.size 0 #[.int .i64 f.t, .int .i64 f.s, .int .i64 f.sp, .slice P f.wt.length p, .slice D f.sh.length d] (by rfl) (by rfl) Z.out.there (by kernel_rfl) (by simp [Value.oneCell']) ?_
    rw [hsc]
    clear hsc
    replace S := Lib.hid (S.out.puts (q := w.heap.size) (by omega) 0 [.int .i64 f.t, .int .i64 f.s, .int .i64 f.sp, .slice P f.wt.length p, .slice D f.sh.length d])
    replace O1 := Lib.hid (O1.out.puts Z.out.ty (by decide) 0 [.int .i64 f.t, .int .i64 f.s, .int .i64 f.sp, .slice P f.wt.length p, .slice D f.sh.length d])
    replace O2 := Lib.hid (O2.out.puts Z.out.ty (by decide) 0 [.int .i64 f.t, .int .i64 f.s, .int .i64 f.sp, .slice P f.wt.length p, .slice D f.sh.length d])
    replace Y := Lib.hid (Y.out.putsfar w.heap.size (by omega) 0 [.int .i64 f.t, .int .i64 f.s, .int .i64 f.sp, .slice P f.wt.length p, .slice D f.sh.length d])
    replace Z := Lib.hid (Z.out.puts [.int .i64 f.t, .int .i64 f.s, .int .i64 f.sp, .slice P f.wt.length p, .slice D f.sh.length d] (by rfl))
    (first | refine hK.out _ _ ?_ (fun hHeld1 => ?_) | (go_wp2_with fail; refine hK.out _ _ ?_ (fun hHeld1 => ?_)))
    · ((try dsimp only); exact KX Y.out)
    clear hK K hHeld
    have hHeld := hHeld1
    clear hHeld1
    try simp only [Act.put, List.setIfInBounds_toArray, List.set_cons_zero, List.set_cons_succ]
    generalize (v13.setCells w.heap.size 0 [.int .i64 f.t, .int .i64 f.s, .int .i64 f.sp, .slice P f.wt.length p, .slice D f.sh.length d]) = v14 at *
    refine take_yes (i := 4) (d := 3) (v := ?_) rfl rfl (by kernel_rfl) (by kernel_rfl) (by kernel_rfl) (fun _ _ _ h => h) (by kernel_rfl) ?_ hHeld ?_
    rotate_left
    · (intro w hSw; (try dsimp only at hSw); go_simp; try (with_reducible rfl))
    try simp only [Act.put, List.setIfInBounds_toArray, List.set_cons_zero, List.set_cons_succ]
    refine wpAnyH_done (by kernel_rfl) ?_ _
    refine NoPanic.normal ?_
    clear hHeld KX
    have KS := Z.out.box
    have k0 := KS.1 0 _ rfl
    have k1 := KS.1 1 _ rfl
    have k2 := KS.1 2 _ rfl
    have k3 := KS.1 3 _ rfl
    have k4 := KS.1 4 _ rfl
    clear KS
    go_wp2_with (refine bodyPost_ret (v := .tuple #[.agg #[.int .i64 f.t, .int .i64 f.s, .int .i64 f.sp, .slice P f.wt.length p, .slice D f.sh.length d], .int .i64 x]) (by (rw [results_cell_tmp Try.results24]; simp [go_sem, k0, k1, k2, k3, k4])) rfl ?_; exact ⟨P, p, D, d, f, x, rfl, DrF.mk_ O1.out O2.out (by omega) (by omega) (by omega) S.out.on⟩)
theorem DrawNewFloor_any (A : Option Addr) (n c : Nat) (w : World) (h : BytesC w A n) (hn : n ≤ 65536) :
    Calls Try.prog 39 #[.slice A n c] w fun e w' => (∃ (x y : Int), e = .returned (.tuple #[.int .i64 x, .int .i64 y])) ∧ Below w.heap.size w w' := by
  have S := Lib.hid (Tst.mk (Cur.new_ (c := c) h hn 77) (below1 w _) h (Nat.le_refl _))
  clear h
  go_enter Try.func39, Try.ntmps39
  go_upto_region 2 with fail
  generalize (w.alloc (.cells #[.slice A n c, .int .i64 0, .int .u64 0] 77)) = v1 at *
  have hb0 := S.out.bw
  have HL := Lib.hid (lit_cellsI v1 [1, 2, 3, 0, 4] 3 v1.heap.size rfl)
  have HLb : v1.heap.size ≠ w.heap.size := by have := S.out.bw; omega
  have hbl := below1 v1 (.cells ((([1, 2, 3, 0, 4] : List Int).map (Value.int .i64)).toArray) 3)
  replace S := Lib.hid (S.out.call hbl)
  clear hbl
  go_wp2_with fail
  refine (among_any [1, 2, 3, 0, 4] (some ⟨v1.heap.size, 0, none⟩) 5 (by simp) (by simp) w.heap.size A n c _ _ S.out.cur (by omega) HL.out (fun a ha => by obtain rfl := Option.some.inj ha; exact HLb)).mono ?_
  rintro e v2 ⟨⟨x, rfl, hx⟩, hc, ho⟩
  replace S := Lib.hid (S.out.draw hc ho)
  clear hc ho HL HLb
  have HL := Lib.hid (lit_cellsI v2 [1, 60, 3600, 0, 3601] 3 v2.heap.size rfl)
  have HLb : v2.heap.size ≠ w.heap.size := by have := S.out.bw; omega
  have hbl := below1 v2 (.cells ((([1, 60, 3600, 0, 3601] : List Int).map (Value.int .i64)).toArray) 3)
  replace S := Lib.hid (S.out.call hbl)
  clear hbl
  go_wp2_with fail
  refine (among_any [1, 60, 3600, 0, 3601] (some ⟨v2.heap.size, 0, none⟩) 5 (by simp) (by simp) w.heap.size A n c _ _ S.out.cur (by omega) HL.out (fun a ha => by obtain rfl := Option.some.inj ha; exact HLb)).mono ?_
  rintro e v3 ⟨⟨y, rfl, hy⟩, hc, ho⟩
  replace S := Lib.hid (S.out.draw hc ho)
  clear hc ho HL HLb
  go_wp2
  go_ret2
  exact ⟨⟨x, y, rfl⟩, S.out.on⟩
end Go.Proofs.Ytbpikbcnpmplfaa
