/- The draws of chapter 11 (votes): they return numbers and tallies, whichever. Conditions: the ranges named. -/
import Derived.Test.YtajfbiihlfccnaaDoorCu1
namespace Go.Proofs.YtajfbiihlfccnaaDoor
open Go.RowKit
set_option linter.unusedVariables false
set_option linter.unusedSimpArgs false
theorem lit_cells (w : World) (xs : List Int) (T : TypeId) (g : Nat) (hg : g = w.heap.size) : Cells (w.alloc (.cells (xs.map (Value.int .i64)).toArray T)) (some ⟨g, 0, none⟩) (IntK.row xs) := fun i u hi => by
  subst hg
  rw [intK_row] at hi
  refine ⟨_, rfl, ?_⟩
  rw [add_head]
  exact (BoxL.new w _ T).2 i u (by simpa using hi)
theorem Only.set_new {lo hi : Nat} {w w' : World} (h : Only lo hi w w') {p : Addr} (h1 : w.heap.size ≤ p.block) (v : Value) : Only lo hi w (w'.setCell p v) :=
  ⟨h.os, h.tape, h.output, by simpa using h.size, fun k hk ho => (Below.heap_setCell w' p v k (by omega)).trans (h.block k hk ho)⟩
theorem Cur.set_new {w : World} {b : Nat} {A : Option Addr} {n c m : Nat} (h : Cur w b A n c m) {p : Addr} (h1 : p.block ≠ b) (h2 : ∀ a, A = some a → 0 < n → a.block ≠ p.block) (v : Value) : Cur (w.setCell p v) b A n c m := by
  obtain ⟨⟨k, s, g1, g2, g3, hx⟩, h3, h4, h5, h6⟩ := h
  refine ⟨⟨k, s, g1, g2, g3, hx.blk (Below.heap_setCell _ _ _ _ (fun e => h1 e.symm))⟩, by simpa using h3, h4, ?_, h6⟩
  rcases Nat.eq_zero_or_pos n with e | e
  · subst e; exact fun i hi => absurd hi (by omega)
  · exact h5.block fun a ha _ => Below.heap_setCell _ _ _ _ (h2 a ha e)
theorem Cur.off_of {w : World} {b : Nat} {A : Option Addr} {n c m : Nat} (h : Cur w b A n c m) {t : Nat} (ht : w.heap.size ≤ t) : ∀ a, A = some a → 0 < n → a.block ≠ t := fun a ha hn => by
  obtain ⟨a', x, hA, _, _, hc⟩ := h.bytes 0 hn
  rw [ha] at hA
  obtain rfl := Option.some.inj hA
  have := World.block_lt_of_cell? _ _ hc
  rw [block_add] at this
  omega
def CurTo (w : World) (b : Nat) (A : Option Addr) (n c m : Nat) (p : Int → Prop) (e : Ending) (w' : World) : Prop := (∃ x : Int, e = .returned (.int .i64 x) ∧ p x) ∧ Cur w' b A n c m ∧ Only b (b + 1) w w'
theorem votes_any (b : Nat) (A : Option Addr) (n c m : Nat) (w : World) (h : Cur w b A n c m) (hm : m ≤ 900000) : Calls Tryd.prog 79 #[.pointer (some ⟨b, 0, none⟩)] w (CurTo w b A n c (m + 1) (fun x => 0 ≤ x ∧ x ≤ 1000)) := by
  have hb := below1 w (.cells (([0, 1, 2, 3, 5, 9, 10, 20, 40, 999, 1000] : List Int).map (Value.int .i64)).toArray 3)
  have HC := Lib.hid (h.below hb)
  have HL := Lib.hid (lit_cells w [0, 1, 2, 3, 5, 9, 10, 20, 40, 999, 1000] 3 w.heap.size rfl)
  have HO := Lib.hid (show Only b (b + 1) w _ from Only.of_below hb)
  have hlt := h.lt
  clear h hb
  go_enter Tryd.func79, Tryd.ntmps79
  go_wp2_with fail
  refine (among_any [0, 1, 2, 3, 5, 9, 10, 20, 40, 999, 1000] _ _ (by decide) (by decide) b A n c m _ HC.out (by omega) HL.out (fun a ha => by cases ha; show w.heap.size ≠ b; omega)).mono ?_
  rintro e w1 ⟨⟨x, rfl, hx⟩, hc, ho⟩
  have HC1 := Lib.hid hc
  have HO1 := Lib.hid ho
  have HX := Lib.hid hx
  clear hc ho hx
  go_wp2
  go_ret
  have h9 := HX.out
  simp only [List.mem_cons, List.not_mem_nil, or_false] at h9
  exact ⟨⟨x, rfl, by omega⟩, HC1.out, HO.out.trans HO1.out⟩
theorem least_any (x y : Int) (w : World) : Calls Tryd.prog 82 #[.int .i64 x, .int .i64 y] w fun e w' => (∃ z : Int, e = .returned (.int .i64 z)) ∧ w = w' := by
  by_cases h : x < y
  · go_enter Tryd.func82, Tryd.ntmps82
    go_wp2
    go_ret
    exact ⟨⟨_, rfl⟩, rfl⟩
  · go_enter Tryd.func82, Tryd.ntmps82
    go_wp2
    go_ret
    exact ⟨⟨_, rfl⟩, rfl⟩
set_option maxHeartbeats 4000000 in
set_option maxRecDepth 100000 in
theorem tally_any (b : Nat) (A : Option Addr) (n c m : Nat) (w : World) (h : Cur w b A n c m) (hm : m ≤ 800000) :
    Calls Tryd.prog 49 #[.pointer (some ⟨b, 0, none⟩)] w fun e w' => (∃ y n' a : Int, e = .returned (.agg #[.int .i64 y, .int .i64 n', .int .i64 a])) ∧ Cur w' b A n c (m + 10) ∧ Only b (b + 1) w w' := by
  have hb := below1 w (.cells #[.int .i64 0, .int .i64 0, .int .i64 0] 23)
  have HC := Lib.hid (h.below hb)
  have HO := Lib.hid (show Only b (b + 1) w _ from Only.of_below hb)
  have NR := Lib.hid (show BoxF (w.alloc (.cells #[.int .i64 0, .int .i64 0, .int .i64 0] 23)) w.heap.size [.int .i64 0, .int .i64 0, .int .i64 0] from BoxF.new' w _ _ _ rfl)
  have hlt := h.lt
  have HRB := Lib.hid (show w.heap.size ≠ b by omega)
  have HRO := Lib.hid (h.off_of (Nat.le_refl w.heap.size))
  have hz1 : w.heap.size < (w.alloc (.cells #[.int .i64 0, .int .i64 0, .int .i64 0] 23)).heap.size := by simp
  clear h hb
  go_enter Tryd.func49, Tryd.ntmps49
  go_wp2_with fail
  generalize w.alloc (.cells #[.int .i64 0, .int .i64 0, .int .i64 0] 23) = w1 at *
  refine (votes_any b A n c m w1 HC.out (by omega)).mono ?_
  rintro e w2 ⟨⟨y, rfl, _⟩, hc, ho⟩
  have HC := Lib.hid hc
  have HO := Lib.hid (HO.out.trans ho)
  have NR := Lib.hid (NR.out.blk (ho.block _ hz1 (by omega)))
  have hz2 := Nat.lt_of_lt_of_le hz1 ho.size
  clear hc ho
  go_wp2_with fail
  refine (votes_any b A n c _ w2 HC.out (by omega)).mono ?_
  rintro e w3 ⟨⟨n1, rfl, hn1⟩, hc, ho⟩
  have HC := Lib.hid hc
  have HO := Lib.hid (HO.out.trans ho)
  have NR := Lib.hid (NR.out.blk (ho.block _ hz2 (by omega)))
  have hz3 := Nat.lt_of_lt_of_le hz2 ho.size
  have q1 : IntKind.i64.wrap (2 * n1) = 2 * n1 := by rw [IntKind.wrap_i64]; omega
  have hb := below1 w3 (.cells (([0, 0, 1, 7, 1000] : List Int).map (Value.int .i64)).toArray 3)
  have hl3 := HC.out.lt
  have HL := Lib.hid (lit_cells w3 [0, 0, 1, 7, 1000] 3 w3.heap.size rfl)
  have HC := Lib.hid (HC.out.below hb)
  have HO := Lib.hid (HO.out.trans (Only.of_below hb))
  have NR := Lib.hid (NR.out.below hb hz3)
  have hzl := Nat.lt_of_lt_of_le hz3 hb.size
  clear hc ho hb hn1
  go_wp2_with fail
  refine (among_any [0, 0, 1, 7, 1000] _ _ (by decide) (by decide) b A n c _ _ HC.out (by omega) HL.out (fun a ha => by cases ha; show w3.heap.size ≠ b; omega)).mono ?_
  rintro e w4 ⟨⟨a1, rfl, _⟩, hc, ho⟩
  have HC := Lib.hid hc
  have HO := Lib.hid (HO.out.trans ho)
  have NR := Lib.hid (NR.out.blk (ho.block _ hzl (by omega)))
  have hz4 := Nat.lt_of_lt_of_le hzl ho.size
  clear hc ho HL
  have hb := below1 w4 (.cells #[.int .i64 y, .int .i64 n1, .int .i64 a1] 23)
  have HOFF := Lib.hid (HC.out.off_of (Nat.le_refl w4.heap.size))
  have htb := HC.out.lt
  have HC := Lib.hid (HC.out.below hb)
  have HO := Lib.hid (HO.out.trans (Only.of_below hb))
  have NR := Lib.hid (NR.out.below hb hz4)
  have NT := Lib.hid (show BoxF (w4.alloc (.cells #[.int .i64 y, .int .i64 n1, .int .i64 a1] 23)) w4.heap.size [.int .i64 y, .int .i64 n1, .int .i64 a1] from BoxF.new' w4 _ _ _ rfl)
  have htz : w4.heap.size < (w4.alloc (.cells #[.int .i64 y, .int .i64 n1, .int .i64 a1] 23)).heap.size := by simp
  clear hb
  go_wp2_with fail
  generalize w4.alloc (.cells #[.int .i64 y, .int .i64 n1, .int .i64 a1] 23) = w40 at *
  generalize w4.heap.size = t at *
  have hzw40 : t < w40.heap.size := htz
  refine (pick_any 6 (by decide) (by decide) b A n c _ w40 HC.out (by omega)).mono ?_
  rintro e w5 ⟨⟨x1, rfl, hx1⟩, hc, ho⟩
  have HC := Lib.hid hc
  have HO := Lib.hid (HO.out.trans ho)
  have hzw5 := Nat.lt_of_lt_of_le hzw40 ho.size
  have NR := Lib.hid (NR.out.blk (ho.block (w.heap.size) (by omega) (by omega)))
  have NT := Lib.hid (NT.out.blk (ho.block (t) (by omega) (by omega)))
  clear hc ho
  rcases (show x1 = 0 ∨ x1 = 1 ∨ x1 = 2 ∨ 3 ≤ x1 by omega) with hxx | hxx | hxx | hxx
  · subst hxx
    have d0 := NT.out.1 0 _ rfl
    have d1 := NT.out.1 1 _ rfl
    have d2 := NT.out.1 2 _ rfl
    have h0 := NT.out.2 0
    have h1 := NT.out.2 1
    have h2 := NT.out.2 2
    have hset := (HC.out.set_new (p := ⟨t, 0, none⟩) (by show t ≠ b; omega) (fun a ha hn => by have := HOFF.out a ha hn; exact this) (.int .i64 n1))
    have HO := Lib.hid (HO.out.set_new (p := ⟨t, 0, none⟩) (by show w.heap.size ≤ t; omega) (.int .i64 n1))
    have NT := Lib.hid (NT.out.set (k := 0) (by simp) (.int .i64 n1))
    have NR := Lib.hid (NR.out.blk (w' := w5.setCell ⟨t, 0, none⟩ (.int .i64 n1)) (Below.heap_setCell _ _ _ _ (by show w.heap.size ≠ t; omega)))
    have HC := Lib.hid hset
    clear hset
    have hz50 : t < (w5.setCell ⟨t, 0, none⟩ (.int .i64 n1)).heap.size := by simpa using hzw5
    go_wp2_with fail
    generalize w5.setCell ⟨t, 0, none⟩ (.int .i64 n1) = w50 at *
    have hzw50 := hz50
    clear d0 d1 d2 h0 h1 h2
    refine (pick_any 24 (by decide) (by decide) b A n c _ w50 HC.out (by omega)).mono ?_
    rintro e w6 ⟨⟨x2, rfl, hx2⟩, hc, ho⟩
    have HC := Lib.hid hc
    have HO := Lib.hid (HO.out.trans ho)
    have hzw6 := Nat.lt_of_lt_of_le hzw50 ho.size
    have NR := Lib.hid (NR.out.blk (ho.block (w.heap.size) (by omega) (by omega)))
    have NT := Lib.hid (NT.out.blk (ho.block (t) (by omega) (by omega)))
    clear hc ho
    rcases (show x2 = 0 ∨ x2 = 1 ∨ 2 ≤ x2 by omega) with hxx | hxx | hxx
    · subst hxx
      have hb := below1 w6 (.cells (([-1, 1001] : List Int).map (Value.int .i64)).toArray 3)
      have hc := HC.out.below hb
      have ho : Only b (b + 1) w6 (w6.alloc (.cells (([-1, 1001] : List Int).map (Value.int .i64)).toArray 3)) := Only.of_below hb
      have HL := Lib.hid (lit_cells w6 [-1, 1001] 3 w6.heap.size rfl)
      have hl6 : w6.heap.size ≠ b := by have := HC.out.lt; omega
      have HC := Lib.hid hc
      have HO := Lib.hid (HO.out.trans ho)
      have hz6 : t < (w6.alloc (.cells (([-1, 1001] : List Int).map (Value.int .i64)).toArray 3)).heap.size := Nat.lt_of_lt_of_le hzw6 hb.size
      have NR := Lib.hid (NR.out.blk (ho.block (w.heap.size) (by omega) (by omega)))
      have NT := Lib.hid (NT.out.blk (ho.block (t) (by omega) (by omega)))
      clear hb hc ho
      go_wp2_with fail
      refine (among_any [-1, 1001] _ _ (by decide) (by decide) b A n c _ _ HC.out (by omega) HL.out (fun a ha => by cases ha; exact hl6)).mono ?_
      rintro e w7 ⟨⟨x3, rfl, _⟩, hc, ho⟩
      have HC := Lib.hid hc
      have HO := Lib.hid (HO.out.trans ho)
      have hz7 := Nat.lt_of_lt_of_le hz6 ho.size
      have NR := Lib.hid (NR.out.blk (ho.block (w.heap.size) (by omega) (by omega)))
      have NT := Lib.hid (NT.out.blk (ho.block (t) (by omega) (by omega)))
      clear hc ho HL
      have d0 := NT.out.1 0 _ rfl
      have d1 := NT.out.1 1 _ rfl
      have d2 := NT.out.1 2 _ rfl
      have h0 := NT.out.2 0
      have h1 := NT.out.2 1
      have h2 := NT.out.2 2
      have hset := (HC.out.set_new (p := ⟨t, 0, none⟩) (by show t ≠ b; omega) (fun a ha hn => by have := HOFF.out a ha hn; exact this) (.int .i64 x3))
      have HO := Lib.hid (HO.out.set_new (p := ⟨t, 0, none⟩) (by show w.heap.size ≤ t; omega) (.int .i64 x3))
      have NT := Lib.hid (NT.out.set (k := 0) (by simp) (.int .i64 x3))
      have NR := Lib.hid (NR.out.blk (w' := w7.setCell ⟨t, 0, none⟩ (.int .i64 x3)) (Below.heap_setCell _ _ _ _ (by show w.heap.size ≠ t; omega)))
      have HC := Lib.hid hset
      clear hset
      have e0 := NT.out.1 0 _ rfl
      have e1 := NT.out.1 1 _ rfl
      have e2 := NT.out.1 2 _ rfl
      have f0 := NT.out.2 0
      have f1 := NT.out.2 1
      have f2 := NT.out.2 2
      have r0 := NR.out.1 0 _ rfl
      have r1 := NR.out.1 1 _ rfl
      have r2 := NR.out.1 2 _ rfl
      have g0 := NR.out.2 0
      have g1 := NR.out.2 1
      have g2 := NR.out.2 2
      go_wp2
      have KS := NR.out.set3 (.int .i64 x3) (.int .i64 n1) (.int .i64 a1)
      have k0 := KS.1 0 _ rfl
      have k1 := KS.1 1 _ rfl
      have k2 := KS.1 2 _ rfl
      refine bodyPost_ret (v := .agg #[.int .i64 x3, .int .i64 n1, .int .i64 a1]) (by simp [results, Tryd.results49, go_sem, k0, k1, k2]) rfl ?_
      exact ⟨⟨_, _, _, rfl⟩, (((HC.out.set_new (p := ⟨w.heap.size, 0, none⟩) HRB.out HRO.out _).set_new (p := ⟨w.heap.size, 1, none⟩) HRB.out HRO.out _).set_new (p := ⟨w.heap.size, 2, none⟩) HRB.out HRO.out _).mono (by omega), ((HO.out.set_new (p := ⟨w.heap.size, 0, none⟩) (Nat.le_refl _) _).set_new (p := ⟨w.heap.size, 1, none⟩) (Nat.le_refl _) _).set_new (p := ⟨w.heap.size, 2, none⟩) (Nat.le_refl _) _⟩
    · subst hxx
      have hb := below1 w6 (.cells (([-1, 1001] : List Int).map (Value.int .i64)).toArray 3)
      have hc := HC.out.below hb
      have ho : Only b (b + 1) w6 (w6.alloc (.cells (([-1, 1001] : List Int).map (Value.int .i64)).toArray 3)) := Only.of_below hb
      have HL := Lib.hid (lit_cells w6 [-1, 1001] 3 w6.heap.size rfl)
      have hl6 : w6.heap.size ≠ b := by have := HC.out.lt; omega
      have HC := Lib.hid hc
      have HO := Lib.hid (HO.out.trans ho)
      have hz6 : t < (w6.alloc (.cells (([-1, 1001] : List Int).map (Value.int .i64)).toArray 3)).heap.size := Nat.lt_of_lt_of_le hzw6 hb.size
      have NR := Lib.hid (NR.out.blk (ho.block (w.heap.size) (by omega) (by omega)))
      have NT := Lib.hid (NT.out.blk (ho.block (t) (by omega) (by omega)))
      clear hb hc ho
      go_wp2_with fail
      refine (among_any [-1, 1001] _ _ (by decide) (by decide) b A n c _ _ HC.out (by omega) HL.out (fun a ha => by cases ha; exact hl6)).mono ?_
      rintro e w7 ⟨⟨x3, rfl, _⟩, hc, ho⟩
      have HC := Lib.hid hc
      have HO := Lib.hid (HO.out.trans ho)
      have hz7 := Nat.lt_of_lt_of_le hz6 ho.size
      have NR := Lib.hid (NR.out.blk (ho.block (w.heap.size) (by omega) (by omega)))
      have NT := Lib.hid (NT.out.blk (ho.block (t) (by omega) (by omega)))
      clear hc ho HL
      have d0 := NT.out.1 0 _ rfl
      have d1 := NT.out.1 1 _ rfl
      have d2 := NT.out.1 2 _ rfl
      have h0 := NT.out.2 0
      have h1 := NT.out.2 1
      have h2 := NT.out.2 2
      have hset := (HC.out.set_new (p := ⟨t, 2, none⟩) (by show t ≠ b; omega) (fun a ha hn => by have := HOFF.out a ha hn; exact this) (.int .i64 x3))
      have HO := Lib.hid (HO.out.set_new (p := ⟨t, 2, none⟩) (by show w.heap.size ≤ t; omega) (.int .i64 x3))
      have NT := Lib.hid (NT.out.set (k := 2) (by simp) (.int .i64 x3))
      have NR := Lib.hid (NR.out.blk (w' := w7.setCell ⟨t, 2, none⟩ (.int .i64 x3)) (Below.heap_setCell _ _ _ _ (by show w.heap.size ≠ t; omega)))
      have HC := Lib.hid hset
      clear hset
      have e0 := NT.out.1 0 _ rfl
      have e1 := NT.out.1 1 _ rfl
      have e2 := NT.out.1 2 _ rfl
      have f0 := NT.out.2 0
      have f1 := NT.out.2 1
      have f2 := NT.out.2 2
      have r0 := NR.out.1 0 _ rfl
      have r1 := NR.out.1 1 _ rfl
      have r2 := NR.out.1 2 _ rfl
      have g0 := NR.out.2 0
      have g1 := NR.out.2 1
      have g2 := NR.out.2 2
      go_wp2
      have KS := NR.out.set3 (.int .i64 n1) (.int .i64 n1) (.int .i64 x3)
      have k0 := KS.1 0 _ rfl
      have k1 := KS.1 1 _ rfl
      have k2 := KS.1 2 _ rfl
      refine bodyPost_ret (v := .agg #[.int .i64 n1, .int .i64 n1, .int .i64 x3]) (by simp [results, Tryd.results49, go_sem, k0, k1, k2]) rfl ?_
      exact ⟨⟨_, _, _, rfl⟩, (((HC.out.set_new (p := ⟨w.heap.size, 0, none⟩) HRB.out HRO.out _).set_new (p := ⟨w.heap.size, 1, none⟩) HRB.out HRO.out _).set_new (p := ⟨w.heap.size, 2, none⟩) HRB.out HRO.out _).mono (by omega), ((HO.out.set_new (p := ⟨w.heap.size, 0, none⟩) (Nat.le_refl _) _).set_new (p := ⟨w.heap.size, 1, none⟩) (Nat.le_refl _) _).set_new (p := ⟨w.heap.size, 2, none⟩) (Nat.le_refl _) _⟩
    · have b0 : ((x2 : Int) == 0) = false := by simp; omega
      have b1 : ((x2 : Int) == 1) = false := by simp; omega
      have e0 := NT.out.1 0 _ rfl
      have e1 := NT.out.1 1 _ rfl
      have e2 := NT.out.1 2 _ rfl
      have f0 := NT.out.2 0
      have f1 := NT.out.2 1
      have f2 := NT.out.2 2
      have r0 := NR.out.1 0 _ rfl
      have r1 := NR.out.1 1 _ rfl
      have r2 := NR.out.1 2 _ rfl
      have g0 := NR.out.2 0
      have g1 := NR.out.2 1
      have g2 := NR.out.2 2
      go_wp2
      have KS := NR.out.set3 (.int .i64 n1) (.int .i64 n1) (.int .i64 a1)
      have k0 := KS.1 0 _ rfl
      have k1 := KS.1 1 _ rfl
      have k2 := KS.1 2 _ rfl
      refine bodyPost_ret (v := .agg #[.int .i64 n1, .int .i64 n1, .int .i64 a1]) (by simp [results, Tryd.results49, go_sem, k0, k1, k2]) rfl ?_
      exact ⟨⟨_, _, _, rfl⟩, (((HC.out.set_new (p := ⟨w.heap.size, 0, none⟩) HRB.out HRO.out _).set_new (p := ⟨w.heap.size, 1, none⟩) HRB.out HRO.out _).set_new (p := ⟨w.heap.size, 2, none⟩) HRB.out HRO.out _).mono (by omega), ((HO.out.set_new (p := ⟨w.heap.size, 0, none⟩) (Nat.le_refl _) _).set_new (p := ⟨w.heap.size, 1, none⟩) (Nat.le_refl _) _).set_new (p := ⟨w.heap.size, 2, none⟩) (Nat.le_refl _) _⟩
  · subst hxx
    have d0 := NT.out.1 0 _ rfl
    have d1 := NT.out.1 1 _ rfl
    have d2 := NT.out.1 2 _ rfl
    have h0 := NT.out.2 0
    have h1 := NT.out.2 1
    have h2 := NT.out.2 2
    go_wp2_with fail
    refine (least_any _ _ _).mono ?_
    rintro e w55 ⟨⟨z, rfl⟩, rfl⟩
    have hset := (HC.out.set_new (p := ⟨t, 0, none⟩) (by show t ≠ b; omega) (fun a ha hn => by have := HOFF.out a ha hn; exact this) (.int .i64 z))
    have HO := Lib.hid (HO.out.set_new (p := ⟨t, 0, none⟩) (by show w.heap.size ≤ t; omega) (.int .i64 z))
    have NT := Lib.hid (NT.out.set (k := 0) (by simp) (.int .i64 z))
    have NR := Lib.hid (NR.out.blk (w' := w5.setCell ⟨t, 0, none⟩ (.int .i64 z)) (Below.heap_setCell _ _ _ _ (by show w.heap.size ≠ t; omega)))
    have HC := Lib.hid hset
    clear hset
    have hz50 : t < (w5.setCell ⟨t, 0, none⟩ (.int .i64 z)).heap.size := by simpa using hzw5
    go_wp2_with fail
    generalize w5.setCell ⟨t, 0, none⟩ (.int .i64 z) = w50 at *
    have hzw50 := hz50
    clear d0 d1 d2 h0 h1 h2
    refine (pick_any 24 (by decide) (by decide) b A n c _ w50 HC.out (by omega)).mono ?_
    rintro e w6 ⟨⟨x2, rfl, hx2⟩, hc, ho⟩
    have HC := Lib.hid hc
    have HO := Lib.hid (HO.out.trans ho)
    have hzw6 := Nat.lt_of_lt_of_le hzw50 ho.size
    have NR := Lib.hid (NR.out.blk (ho.block (w.heap.size) (by omega) (by omega)))
    have NT := Lib.hid (NT.out.blk (ho.block (t) (by omega) (by omega)))
    clear hc ho
    rcases (show x2 = 0 ∨ x2 = 1 ∨ 2 ≤ x2 by omega) with hxx | hxx | hxx
    · subst hxx
      have hb := below1 w6 (.cells (([-1, 1001] : List Int).map (Value.int .i64)).toArray 3)
      have hc := HC.out.below hb
      have ho : Only b (b + 1) w6 (w6.alloc (.cells (([-1, 1001] : List Int).map (Value.int .i64)).toArray 3)) := Only.of_below hb
      have HL := Lib.hid (lit_cells w6 [-1, 1001] 3 w6.heap.size rfl)
      have hl6 : w6.heap.size ≠ b := by have := HC.out.lt; omega
      have HC := Lib.hid hc
      have HO := Lib.hid (HO.out.trans ho)
      have hz6 : t < (w6.alloc (.cells (([-1, 1001] : List Int).map (Value.int .i64)).toArray 3)).heap.size := Nat.lt_of_lt_of_le hzw6 hb.size
      have NR := Lib.hid (NR.out.blk (ho.block (w.heap.size) (by omega) (by omega)))
      have NT := Lib.hid (NT.out.blk (ho.block (t) (by omega) (by omega)))
      clear hb hc ho
      go_wp2_with fail
      refine (among_any [-1, 1001] _ _ (by decide) (by decide) b A n c _ _ HC.out (by omega) HL.out (fun a ha => by cases ha; exact hl6)).mono ?_
      rintro e w7 ⟨⟨x3, rfl, _⟩, hc, ho⟩
      have HC := Lib.hid hc
      have HO := Lib.hid (HO.out.trans ho)
      have hz7 := Nat.lt_of_lt_of_le hz6 ho.size
      have NR := Lib.hid (NR.out.blk (ho.block (w.heap.size) (by omega) (by omega)))
      have NT := Lib.hid (NT.out.blk (ho.block (t) (by omega) (by omega)))
      clear hc ho HL
      have d0 := NT.out.1 0 _ rfl
      have d1 := NT.out.1 1 _ rfl
      have d2 := NT.out.1 2 _ rfl
      have h0 := NT.out.2 0
      have h1 := NT.out.2 1
      have h2 := NT.out.2 2
      have hset := (HC.out.set_new (p := ⟨t, 0, none⟩) (by show t ≠ b; omega) (fun a ha hn => by have := HOFF.out a ha hn; exact this) (.int .i64 x3))
      have HO := Lib.hid (HO.out.set_new (p := ⟨t, 0, none⟩) (by show w.heap.size ≤ t; omega) (.int .i64 x3))
      have NT := Lib.hid (NT.out.set (k := 0) (by simp) (.int .i64 x3))
      have NR := Lib.hid (NR.out.blk (w' := w7.setCell ⟨t, 0, none⟩ (.int .i64 x3)) (Below.heap_setCell _ _ _ _ (by show w.heap.size ≠ t; omega)))
      have HC := Lib.hid hset
      clear hset
      have e0 := NT.out.1 0 _ rfl
      have e1 := NT.out.1 1 _ rfl
      have e2 := NT.out.1 2 _ rfl
      have f0 := NT.out.2 0
      have f1 := NT.out.2 1
      have f2 := NT.out.2 2
      have r0 := NR.out.1 0 _ rfl
      have r1 := NR.out.1 1 _ rfl
      have r2 := NR.out.1 2 _ rfl
      have g0 := NR.out.2 0
      have g1 := NR.out.2 1
      have g2 := NR.out.2 2
      go_wp2
      have KS := NR.out.set3 (.int .i64 x3) (.int .i64 n1) (.int .i64 a1)
      have k0 := KS.1 0 _ rfl
      have k1 := KS.1 1 _ rfl
      have k2 := KS.1 2 _ rfl
      refine bodyPost_ret (v := .agg #[.int .i64 x3, .int .i64 n1, .int .i64 a1]) (by simp [results, Tryd.results49, go_sem, k0, k1, k2]) rfl ?_
      exact ⟨⟨_, _, _, rfl⟩, (((HC.out.set_new (p := ⟨w.heap.size, 0, none⟩) HRB.out HRO.out _).set_new (p := ⟨w.heap.size, 1, none⟩) HRB.out HRO.out _).set_new (p := ⟨w.heap.size, 2, none⟩) HRB.out HRO.out _).mono (by omega), ((HO.out.set_new (p := ⟨w.heap.size, 0, none⟩) (Nat.le_refl _) _).set_new (p := ⟨w.heap.size, 1, none⟩) (Nat.le_refl _) _).set_new (p := ⟨w.heap.size, 2, none⟩) (Nat.le_refl _) _⟩
    · subst hxx
      have hb := below1 w6 (.cells (([-1, 1001] : List Int).map (Value.int .i64)).toArray 3)
      have hc := HC.out.below hb
      have ho : Only b (b + 1) w6 (w6.alloc (.cells (([-1, 1001] : List Int).map (Value.int .i64)).toArray 3)) := Only.of_below hb
      have HL := Lib.hid (lit_cells w6 [-1, 1001] 3 w6.heap.size rfl)
      have hl6 : w6.heap.size ≠ b := by have := HC.out.lt; omega
      have HC := Lib.hid hc
      have HO := Lib.hid (HO.out.trans ho)
      have hz6 : t < (w6.alloc (.cells (([-1, 1001] : List Int).map (Value.int .i64)).toArray 3)).heap.size := Nat.lt_of_lt_of_le hzw6 hb.size
      have NR := Lib.hid (NR.out.blk (ho.block (w.heap.size) (by omega) (by omega)))
      have NT := Lib.hid (NT.out.blk (ho.block (t) (by omega) (by omega)))
      clear hb hc ho
      go_wp2_with fail
      refine (among_any [-1, 1001] _ _ (by decide) (by decide) b A n c _ _ HC.out (by omega) HL.out (fun a ha => by cases ha; exact hl6)).mono ?_
      rintro e w7 ⟨⟨x3, rfl, _⟩, hc, ho⟩
      have HC := Lib.hid hc
      have HO := Lib.hid (HO.out.trans ho)
      have hz7 := Nat.lt_of_lt_of_le hz6 ho.size
      have NR := Lib.hid (NR.out.blk (ho.block (w.heap.size) (by omega) (by omega)))
      have NT := Lib.hid (NT.out.blk (ho.block (t) (by omega) (by omega)))
      clear hc ho HL
      have d0 := NT.out.1 0 _ rfl
      have d1 := NT.out.1 1 _ rfl
      have d2 := NT.out.1 2 _ rfl
      have h0 := NT.out.2 0
      have h1 := NT.out.2 1
      have h2 := NT.out.2 2
      have hset := (HC.out.set_new (p := ⟨t, 2, none⟩) (by show t ≠ b; omega) (fun a ha hn => by have := HOFF.out a ha hn; exact this) (.int .i64 x3))
      have HO := Lib.hid (HO.out.set_new (p := ⟨t, 2, none⟩) (by show w.heap.size ≤ t; omega) (.int .i64 x3))
      have NT := Lib.hid (NT.out.set (k := 2) (by simp) (.int .i64 x3))
      have NR := Lib.hid (NR.out.blk (w' := w7.setCell ⟨t, 2, none⟩ (.int .i64 x3)) (Below.heap_setCell _ _ _ _ (by show w.heap.size ≠ t; omega)))
      have HC := Lib.hid hset
      clear hset
      have e0 := NT.out.1 0 _ rfl
      have e1 := NT.out.1 1 _ rfl
      have e2 := NT.out.1 2 _ rfl
      have f0 := NT.out.2 0
      have f1 := NT.out.2 1
      have f2 := NT.out.2 2
      have r0 := NR.out.1 0 _ rfl
      have r1 := NR.out.1 1 _ rfl
      have r2 := NR.out.1 2 _ rfl
      have g0 := NR.out.2 0
      have g1 := NR.out.2 1
      have g2 := NR.out.2 2
      go_wp2
      have KS := NR.out.set3 (.int .i64 z) (.int .i64 n1) (.int .i64 x3)
      have k0 := KS.1 0 _ rfl
      have k1 := KS.1 1 _ rfl
      have k2 := KS.1 2 _ rfl
      refine bodyPost_ret (v := .agg #[.int .i64 z, .int .i64 n1, .int .i64 x3]) (by simp [results, Tryd.results49, go_sem, k0, k1, k2]) rfl ?_
      exact ⟨⟨_, _, _, rfl⟩, (((HC.out.set_new (p := ⟨w.heap.size, 0, none⟩) HRB.out HRO.out _).set_new (p := ⟨w.heap.size, 1, none⟩) HRB.out HRO.out _).set_new (p := ⟨w.heap.size, 2, none⟩) HRB.out HRO.out _).mono (by omega), ((HO.out.set_new (p := ⟨w.heap.size, 0, none⟩) (Nat.le_refl _) _).set_new (p := ⟨w.heap.size, 1, none⟩) (Nat.le_refl _) _).set_new (p := ⟨w.heap.size, 2, none⟩) (Nat.le_refl _) _⟩
    · have b0 : ((x2 : Int) == 0) = false := by simp; omega
      have b1 : ((x2 : Int) == 1) = false := by simp; omega
      have e0 := NT.out.1 0 _ rfl
      have e1 := NT.out.1 1 _ rfl
      have e2 := NT.out.1 2 _ rfl
      have f0 := NT.out.2 0
      have f1 := NT.out.2 1
      have f2 := NT.out.2 2
      have r0 := NR.out.1 0 _ rfl
      have r1 := NR.out.1 1 _ rfl
      have r2 := NR.out.1 2 _ rfl
      have g0 := NR.out.2 0
      have g1 := NR.out.2 1
      have g2 := NR.out.2 2
      go_wp2
      have KS := NR.out.set3 (.int .i64 z) (.int .i64 n1) (.int .i64 a1)
      have k0 := KS.1 0 _ rfl
      have k1 := KS.1 1 _ rfl
      have k2 := KS.1 2 _ rfl
      refine bodyPost_ret (v := .agg #[.int .i64 z, .int .i64 n1, .int .i64 a1]) (by simp [results, Tryd.results49, go_sem, k0, k1, k2]) rfl ?_
      exact ⟨⟨_, _, _, rfl⟩, (((HC.out.set_new (p := ⟨w.heap.size, 0, none⟩) HRB.out HRO.out _).set_new (p := ⟨w.heap.size, 1, none⟩) HRB.out HRO.out _).set_new (p := ⟨w.heap.size, 2, none⟩) HRB.out HRO.out _).mono (by omega), ((HO.out.set_new (p := ⟨w.heap.size, 0, none⟩) (Nat.le_refl _) _).set_new (p := ⟨w.heap.size, 1, none⟩) (Nat.le_refl _) _).set_new (p := ⟨w.heap.size, 2, none⟩) (Nat.le_refl _) _⟩
  · subst hxx
    have d0 := NT.out.1 0 _ rfl
    have d1 := NT.out.1 1 _ rfl
    have d2 := NT.out.1 2 _ rfl
    have h0 := NT.out.2 0
    have h1 := NT.out.2 1
    have h2 := NT.out.2 2
    have hset := (HC.out.set_new (p := ⟨t, 1, none⟩) (by show t ≠ b; omega) (fun a ha hn => by have := HOFF.out a ha hn; exact this) (.int .i64 0))
    have HO := Lib.hid (HO.out.set_new (p := ⟨t, 1, none⟩) (by show w.heap.size ≤ t; omega) (.int .i64 0))
    have NT := Lib.hid (NT.out.set (k := 1) (by simp) (.int .i64 0))
    have NR := Lib.hid (NR.out.blk (w' := w5.setCell ⟨t, 1, none⟩ (.int .i64 0)) (Below.heap_setCell _ _ _ _ (by show w.heap.size ≠ t; omega)))
    have HC := Lib.hid hset
    clear hset
    have hz50 : t < (w5.setCell ⟨t, 1, none⟩ (.int .i64 0)).heap.size := by simpa using hzw5
    go_wp2_with fail
    generalize w5.setCell ⟨t, 1, none⟩ (.int .i64 0) = w50 at *
    have hzw50 := hz50
    clear d0 d1 d2 h0 h1 h2
    refine (pick_any 24 (by decide) (by decide) b A n c _ w50 HC.out (by omega)).mono ?_
    rintro e w6 ⟨⟨x2, rfl, hx2⟩, hc, ho⟩
    have HC := Lib.hid hc
    have HO := Lib.hid (HO.out.trans ho)
    have hzw6 := Nat.lt_of_lt_of_le hzw50 ho.size
    have NR := Lib.hid (NR.out.blk (ho.block (w.heap.size) (by omega) (by omega)))
    have NT := Lib.hid (NT.out.blk (ho.block (t) (by omega) (by omega)))
    clear hc ho
    rcases (show x2 = 0 ∨ x2 = 1 ∨ 2 ≤ x2 by omega) with hxx | hxx | hxx
    · subst hxx
      have hb := below1 w6 (.cells (([-1, 1001] : List Int).map (Value.int .i64)).toArray 3)
      have hc := HC.out.below hb
      have ho : Only b (b + 1) w6 (w6.alloc (.cells (([-1, 1001] : List Int).map (Value.int .i64)).toArray 3)) := Only.of_below hb
      have HL := Lib.hid (lit_cells w6 [-1, 1001] 3 w6.heap.size rfl)
      have hl6 : w6.heap.size ≠ b := by have := HC.out.lt; omega
      have HC := Lib.hid hc
      have HO := Lib.hid (HO.out.trans ho)
      have hz6 : t < (w6.alloc (.cells (([-1, 1001] : List Int).map (Value.int .i64)).toArray 3)).heap.size := Nat.lt_of_lt_of_le hzw6 hb.size
      have NR := Lib.hid (NR.out.blk (ho.block (w.heap.size) (by omega) (by omega)))
      have NT := Lib.hid (NT.out.blk (ho.block (t) (by omega) (by omega)))
      clear hb hc ho
      go_wp2_with fail
      refine (among_any [-1, 1001] _ _ (by decide) (by decide) b A n c _ _ HC.out (by omega) HL.out (fun a ha => by cases ha; exact hl6)).mono ?_
      rintro e w7 ⟨⟨x3, rfl, _⟩, hc, ho⟩
      have HC := Lib.hid hc
      have HO := Lib.hid (HO.out.trans ho)
      have hz7 := Nat.lt_of_lt_of_le hz6 ho.size
      have NR := Lib.hid (NR.out.blk (ho.block (w.heap.size) (by omega) (by omega)))
      have NT := Lib.hid (NT.out.blk (ho.block (t) (by omega) (by omega)))
      clear hc ho HL
      have d0 := NT.out.1 0 _ rfl
      have d1 := NT.out.1 1 _ rfl
      have d2 := NT.out.1 2 _ rfl
      have h0 := NT.out.2 0
      have h1 := NT.out.2 1
      have h2 := NT.out.2 2
      have hset := (HC.out.set_new (p := ⟨t, 0, none⟩) (by show t ≠ b; omega) (fun a ha hn => by have := HOFF.out a ha hn; exact this) (.int .i64 x3))
      have HO := Lib.hid (HO.out.set_new (p := ⟨t, 0, none⟩) (by show w.heap.size ≤ t; omega) (.int .i64 x3))
      have NT := Lib.hid (NT.out.set (k := 0) (by simp) (.int .i64 x3))
      have NR := Lib.hid (NR.out.blk (w' := w7.setCell ⟨t, 0, none⟩ (.int .i64 x3)) (Below.heap_setCell _ _ _ _ (by show w.heap.size ≠ t; omega)))
      have HC := Lib.hid hset
      clear hset
      have e0 := NT.out.1 0 _ rfl
      have e1 := NT.out.1 1 _ rfl
      have e2 := NT.out.1 2 _ rfl
      have f0 := NT.out.2 0
      have f1 := NT.out.2 1
      have f2 := NT.out.2 2
      have r0 := NR.out.1 0 _ rfl
      have r1 := NR.out.1 1 _ rfl
      have r2 := NR.out.1 2 _ rfl
      have g0 := NR.out.2 0
      have g1 := NR.out.2 1
      have g2 := NR.out.2 2
      go_wp2
      have KS := NR.out.set3 (.int .i64 x3) (.int .i64 0) (.int .i64 a1)
      have k0 := KS.1 0 _ rfl
      have k1 := KS.1 1 _ rfl
      have k2 := KS.1 2 _ rfl
      refine bodyPost_ret (v := .agg #[.int .i64 x3, .int .i64 0, .int .i64 a1]) (by simp [results, Tryd.results49, go_sem, k0, k1, k2]) rfl ?_
      exact ⟨⟨_, _, _, rfl⟩, (((HC.out.set_new (p := ⟨w.heap.size, 0, none⟩) HRB.out HRO.out _).set_new (p := ⟨w.heap.size, 1, none⟩) HRB.out HRO.out _).set_new (p := ⟨w.heap.size, 2, none⟩) HRB.out HRO.out _).mono (by omega), ((HO.out.set_new (p := ⟨w.heap.size, 0, none⟩) (Nat.le_refl _) _).set_new (p := ⟨w.heap.size, 1, none⟩) (Nat.le_refl _) _).set_new (p := ⟨w.heap.size, 2, none⟩) (Nat.le_refl _) _⟩
    · subst hxx
      have hb := below1 w6 (.cells (([-1, 1001] : List Int).map (Value.int .i64)).toArray 3)
      have hc := HC.out.below hb
      have ho : Only b (b + 1) w6 (w6.alloc (.cells (([-1, 1001] : List Int).map (Value.int .i64)).toArray 3)) := Only.of_below hb
      have HL := Lib.hid (lit_cells w6 [-1, 1001] 3 w6.heap.size rfl)
      have hl6 : w6.heap.size ≠ b := by have := HC.out.lt; omega
      have HC := Lib.hid hc
      have HO := Lib.hid (HO.out.trans ho)
      have hz6 : t < (w6.alloc (.cells (([-1, 1001] : List Int).map (Value.int .i64)).toArray 3)).heap.size := Nat.lt_of_lt_of_le hzw6 hb.size
      have NR := Lib.hid (NR.out.blk (ho.block (w.heap.size) (by omega) (by omega)))
      have NT := Lib.hid (NT.out.blk (ho.block (t) (by omega) (by omega)))
      clear hb hc ho
      go_wp2_with fail
      refine (among_any [-1, 1001] _ _ (by decide) (by decide) b A n c _ _ HC.out (by omega) HL.out (fun a ha => by cases ha; exact hl6)).mono ?_
      rintro e w7 ⟨⟨x3, rfl, _⟩, hc, ho⟩
      have HC := Lib.hid hc
      have HO := Lib.hid (HO.out.trans ho)
      have hz7 := Nat.lt_of_lt_of_le hz6 ho.size
      have NR := Lib.hid (NR.out.blk (ho.block (w.heap.size) (by omega) (by omega)))
      have NT := Lib.hid (NT.out.blk (ho.block (t) (by omega) (by omega)))
      clear hc ho HL
      have d0 := NT.out.1 0 _ rfl
      have d1 := NT.out.1 1 _ rfl
      have d2 := NT.out.1 2 _ rfl
      have h0 := NT.out.2 0
      have h1 := NT.out.2 1
      have h2 := NT.out.2 2
      have hset := (HC.out.set_new (p := ⟨t, 2, none⟩) (by show t ≠ b; omega) (fun a ha hn => by have := HOFF.out a ha hn; exact this) (.int .i64 x3))
      have HO := Lib.hid (HO.out.set_new (p := ⟨t, 2, none⟩) (by show w.heap.size ≤ t; omega) (.int .i64 x3))
      have NT := Lib.hid (NT.out.set (k := 2) (by simp) (.int .i64 x3))
      have NR := Lib.hid (NR.out.blk (w' := w7.setCell ⟨t, 2, none⟩ (.int .i64 x3)) (Below.heap_setCell _ _ _ _ (by show w.heap.size ≠ t; omega)))
      have HC := Lib.hid hset
      clear hset
      have e0 := NT.out.1 0 _ rfl
      have e1 := NT.out.1 1 _ rfl
      have e2 := NT.out.1 2 _ rfl
      have f0 := NT.out.2 0
      have f1 := NT.out.2 1
      have f2 := NT.out.2 2
      have r0 := NR.out.1 0 _ rfl
      have r1 := NR.out.1 1 _ rfl
      have r2 := NR.out.1 2 _ rfl
      have g0 := NR.out.2 0
      have g1 := NR.out.2 1
      have g2 := NR.out.2 2
      go_wp2
      have KS := NR.out.set3 (.int .i64 y) (.int .i64 0) (.int .i64 x3)
      have k0 := KS.1 0 _ rfl
      have k1 := KS.1 1 _ rfl
      have k2 := KS.1 2 _ rfl
      refine bodyPost_ret (v := .agg #[.int .i64 y, .int .i64 0, .int .i64 x3]) (by simp [results, Tryd.results49, go_sem, k0, k1, k2]) rfl ?_
      exact ⟨⟨_, _, _, rfl⟩, (((HC.out.set_new (p := ⟨w.heap.size, 0, none⟩) HRB.out HRO.out _).set_new (p := ⟨w.heap.size, 1, none⟩) HRB.out HRO.out _).set_new (p := ⟨w.heap.size, 2, none⟩) HRB.out HRO.out _).mono (by omega), ((HO.out.set_new (p := ⟨w.heap.size, 0, none⟩) (Nat.le_refl _) _).set_new (p := ⟨w.heap.size, 1, none⟩) (Nat.le_refl _) _).set_new (p := ⟨w.heap.size, 2, none⟩) (Nat.le_refl _) _⟩
    · have b0 : ((x2 : Int) == 0) = false := by simp; omega
      have b1 : ((x2 : Int) == 1) = false := by simp; omega
      have e0 := NT.out.1 0 _ rfl
      have e1 := NT.out.1 1 _ rfl
      have e2 := NT.out.1 2 _ rfl
      have f0 := NT.out.2 0
      have f1 := NT.out.2 1
      have f2 := NT.out.2 2
      have r0 := NR.out.1 0 _ rfl
      have r1 := NR.out.1 1 _ rfl
      have r2 := NR.out.1 2 _ rfl
      have g0 := NR.out.2 0
      have g1 := NR.out.2 1
      have g2 := NR.out.2 2
      go_wp2
      have KS := NR.out.set3 (.int .i64 y) (.int .i64 0) (.int .i64 a1)
      have k0 := KS.1 0 _ rfl
      have k1 := KS.1 1 _ rfl
      have k2 := KS.1 2 _ rfl
      refine bodyPost_ret (v := .agg #[.int .i64 y, .int .i64 0, .int .i64 a1]) (by simp [results, Tryd.results49, go_sem, k0, k1, k2]) rfl ?_
      exact ⟨⟨_, _, _, rfl⟩, (((HC.out.set_new (p := ⟨w.heap.size, 0, none⟩) HRB.out HRO.out _).set_new (p := ⟨w.heap.size, 1, none⟩) HRB.out HRO.out _).set_new (p := ⟨w.heap.size, 2, none⟩) HRB.out HRO.out _).mono (by omega), ((HO.out.set_new (p := ⟨w.heap.size, 0, none⟩) (Nat.le_refl _) _).set_new (p := ⟨w.heap.size, 1, none⟩) (Nat.le_refl _) _).set_new (p := ⟨w.heap.size, 2, none⟩) (Nat.le_refl _) _⟩
  · have b0 : ((x1 : Int) == 0) = false := by simp; omega
    have b1 : ((x1 : Int) == 1) = false := by simp; omega
    have b2 : ((x1 : Int) == 2) = false := by simp; omega
    go_wp2_with fail
    refine (pick_any 24 (by decide) (by decide) b A n c _ w5 HC.out (by omega)).mono ?_
    rintro e w6 ⟨⟨x2, rfl, hx2⟩, hc, ho⟩
    have HC := Lib.hid hc
    have HO := Lib.hid (HO.out.trans ho)
    have hzw6 := Nat.lt_of_lt_of_le hzw5 ho.size
    have NR := Lib.hid (NR.out.blk (ho.block (w.heap.size) (by omega) (by omega)))
    have NT := Lib.hid (NT.out.blk (ho.block (t) (by omega) (by omega)))
    clear hc ho
    rcases (show x2 = 0 ∨ x2 = 1 ∨ 2 ≤ x2 by omega) with hxx | hxx | hxx
    · subst hxx
      have hb := below1 w6 (.cells (([-1, 1001] : List Int).map (Value.int .i64)).toArray 3)
      have hc := HC.out.below hb
      have ho : Only b (b + 1) w6 (w6.alloc (.cells (([-1, 1001] : List Int).map (Value.int .i64)).toArray 3)) := Only.of_below hb
      have HL := Lib.hid (lit_cells w6 [-1, 1001] 3 w6.heap.size rfl)
      have hl6 : w6.heap.size ≠ b := by have := HC.out.lt; omega
      have HC := Lib.hid hc
      have HO := Lib.hid (HO.out.trans ho)
      have hz6 : t < (w6.alloc (.cells (([-1, 1001] : List Int).map (Value.int .i64)).toArray 3)).heap.size := Nat.lt_of_lt_of_le hzw6 hb.size
      have NR := Lib.hid (NR.out.blk (ho.block (w.heap.size) (by omega) (by omega)))
      have NT := Lib.hid (NT.out.blk (ho.block (t) (by omega) (by omega)))
      clear hb hc ho
      go_wp2_with fail
      refine (among_any [-1, 1001] _ _ (by decide) (by decide) b A n c _ _ HC.out (by omega) HL.out (fun a ha => by cases ha; exact hl6)).mono ?_
      rintro e w7 ⟨⟨x3, rfl, _⟩, hc, ho⟩
      have HC := Lib.hid hc
      have HO := Lib.hid (HO.out.trans ho)
      have hz7 := Nat.lt_of_lt_of_le hz6 ho.size
      have NR := Lib.hid (NR.out.blk (ho.block (w.heap.size) (by omega) (by omega)))
      have NT := Lib.hid (NT.out.blk (ho.block (t) (by omega) (by omega)))
      clear hc ho HL
      have d0 := NT.out.1 0 _ rfl
      have d1 := NT.out.1 1 _ rfl
      have d2 := NT.out.1 2 _ rfl
      have h0 := NT.out.2 0
      have h1 := NT.out.2 1
      have h2 := NT.out.2 2
      have hset := (HC.out.set_new (p := ⟨t, 0, none⟩) (by show t ≠ b; omega) (fun a ha hn => by have := HOFF.out a ha hn; exact this) (.int .i64 x3))
      have HO := Lib.hid (HO.out.set_new (p := ⟨t, 0, none⟩) (by show w.heap.size ≤ t; omega) (.int .i64 x3))
      have NT := Lib.hid (NT.out.set (k := 0) (by simp) (.int .i64 x3))
      have NR := Lib.hid (NR.out.blk (w' := w7.setCell ⟨t, 0, none⟩ (.int .i64 x3)) (Below.heap_setCell _ _ _ _ (by show w.heap.size ≠ t; omega)))
      have HC := Lib.hid hset
      clear hset
      have e0 := NT.out.1 0 _ rfl
      have e1 := NT.out.1 1 _ rfl
      have e2 := NT.out.1 2 _ rfl
      have f0 := NT.out.2 0
      have f1 := NT.out.2 1
      have f2 := NT.out.2 2
      have r0 := NR.out.1 0 _ rfl
      have r1 := NR.out.1 1 _ rfl
      have r2 := NR.out.1 2 _ rfl
      have g0 := NR.out.2 0
      have g1 := NR.out.2 1
      have g2 := NR.out.2 2
      go_wp2
      have KS := NR.out.set3 (.int .i64 x3) (.int .i64 n1) (.int .i64 a1)
      have k0 := KS.1 0 _ rfl
      have k1 := KS.1 1 _ rfl
      have k2 := KS.1 2 _ rfl
      refine bodyPost_ret (v := .agg #[.int .i64 x3, .int .i64 n1, .int .i64 a1]) (by simp [results, Tryd.results49, go_sem, k0, k1, k2]) rfl ?_
      exact ⟨⟨_, _, _, rfl⟩, (((HC.out.set_new (p := ⟨w.heap.size, 0, none⟩) HRB.out HRO.out _).set_new (p := ⟨w.heap.size, 1, none⟩) HRB.out HRO.out _).set_new (p := ⟨w.heap.size, 2, none⟩) HRB.out HRO.out _).mono (by omega), ((HO.out.set_new (p := ⟨w.heap.size, 0, none⟩) (Nat.le_refl _) _).set_new (p := ⟨w.heap.size, 1, none⟩) (Nat.le_refl _) _).set_new (p := ⟨w.heap.size, 2, none⟩) (Nat.le_refl _) _⟩
    · subst hxx
      have hb := below1 w6 (.cells (([-1, 1001] : List Int).map (Value.int .i64)).toArray 3)
      have hc := HC.out.below hb
      have ho : Only b (b + 1) w6 (w6.alloc (.cells (([-1, 1001] : List Int).map (Value.int .i64)).toArray 3)) := Only.of_below hb
      have HL := Lib.hid (lit_cells w6 [-1, 1001] 3 w6.heap.size rfl)
      have hl6 : w6.heap.size ≠ b := by have := HC.out.lt; omega
      have HC := Lib.hid hc
      have HO := Lib.hid (HO.out.trans ho)
      have hz6 : t < (w6.alloc (.cells (([-1, 1001] : List Int).map (Value.int .i64)).toArray 3)).heap.size := Nat.lt_of_lt_of_le hzw6 hb.size
      have NR := Lib.hid (NR.out.blk (ho.block (w.heap.size) (by omega) (by omega)))
      have NT := Lib.hid (NT.out.blk (ho.block (t) (by omega) (by omega)))
      clear hb hc ho
      go_wp2_with fail
      refine (among_any [-1, 1001] _ _ (by decide) (by decide) b A n c _ _ HC.out (by omega) HL.out (fun a ha => by cases ha; exact hl6)).mono ?_
      rintro e w7 ⟨⟨x3, rfl, _⟩, hc, ho⟩
      have HC := Lib.hid hc
      have HO := Lib.hid (HO.out.trans ho)
      have hz7 := Nat.lt_of_lt_of_le hz6 ho.size
      have NR := Lib.hid (NR.out.blk (ho.block (w.heap.size) (by omega) (by omega)))
      have NT := Lib.hid (NT.out.blk (ho.block (t) (by omega) (by omega)))
      clear hc ho HL
      have d0 := NT.out.1 0 _ rfl
      have d1 := NT.out.1 1 _ rfl
      have d2 := NT.out.1 2 _ rfl
      have h0 := NT.out.2 0
      have h1 := NT.out.2 1
      have h2 := NT.out.2 2
      have hset := (HC.out.set_new (p := ⟨t, 2, none⟩) (by show t ≠ b; omega) (fun a ha hn => by have := HOFF.out a ha hn; exact this) (.int .i64 x3))
      have HO := Lib.hid (HO.out.set_new (p := ⟨t, 2, none⟩) (by show w.heap.size ≤ t; omega) (.int .i64 x3))
      have NT := Lib.hid (NT.out.set (k := 2) (by simp) (.int .i64 x3))
      have NR := Lib.hid (NR.out.blk (w' := w7.setCell ⟨t, 2, none⟩ (.int .i64 x3)) (Below.heap_setCell _ _ _ _ (by show w.heap.size ≠ t; omega)))
      have HC := Lib.hid hset
      clear hset
      have e0 := NT.out.1 0 _ rfl
      have e1 := NT.out.1 1 _ rfl
      have e2 := NT.out.1 2 _ rfl
      have f0 := NT.out.2 0
      have f1 := NT.out.2 1
      have f2 := NT.out.2 2
      have r0 := NR.out.1 0 _ rfl
      have r1 := NR.out.1 1 _ rfl
      have r2 := NR.out.1 2 _ rfl
      have g0 := NR.out.2 0
      have g1 := NR.out.2 1
      have g2 := NR.out.2 2
      go_wp2
      have KS := NR.out.set3 (.int .i64 y) (.int .i64 n1) (.int .i64 x3)
      have k0 := KS.1 0 _ rfl
      have k1 := KS.1 1 _ rfl
      have k2 := KS.1 2 _ rfl
      refine bodyPost_ret (v := .agg #[.int .i64 y, .int .i64 n1, .int .i64 x3]) (by simp [results, Tryd.results49, go_sem, k0, k1, k2]) rfl ?_
      exact ⟨⟨_, _, _, rfl⟩, (((HC.out.set_new (p := ⟨w.heap.size, 0, none⟩) HRB.out HRO.out _).set_new (p := ⟨w.heap.size, 1, none⟩) HRB.out HRO.out _).set_new (p := ⟨w.heap.size, 2, none⟩) HRB.out HRO.out _).mono (by omega), ((HO.out.set_new (p := ⟨w.heap.size, 0, none⟩) (Nat.le_refl _) _).set_new (p := ⟨w.heap.size, 1, none⟩) (Nat.le_refl _) _).set_new (p := ⟨w.heap.size, 2, none⟩) (Nat.le_refl _) _⟩
    · have b0 : ((x2 : Int) == 0) = false := by simp; omega
      have b1 : ((x2 : Int) == 1) = false := by simp; omega
      have e0 := NT.out.1 0 _ rfl
      have e1 := NT.out.1 1 _ rfl
      have e2 := NT.out.1 2 _ rfl
      have f0 := NT.out.2 0
      have f1 := NT.out.2 1
      have f2 := NT.out.2 2
      have r0 := NR.out.1 0 _ rfl
      have r1 := NR.out.1 1 _ rfl
      have r2 := NR.out.1 2 _ rfl
      have g0 := NR.out.2 0
      have g1 := NR.out.2 1
      have g2 := NR.out.2 2
      go_wp2
      have KS := NR.out.set3 (.int .i64 y) (.int .i64 n1) (.int .i64 a1)
      have k0 := KS.1 0 _ rfl
      have k1 := KS.1 1 _ rfl
      have k2 := KS.1 2 _ rfl
      refine bodyPost_ret (v := .agg #[.int .i64 y, .int .i64 n1, .int .i64 a1]) (by simp [results, Tryd.results49, go_sem, k0, k1, k2]) rfl ?_
      exact ⟨⟨_, _, _, rfl⟩, (((HC.out.set_new (p := ⟨w.heap.size, 0, none⟩) HRB.out HRO.out _).set_new (p := ⟨w.heap.size, 1, none⟩) HRB.out HRO.out _).set_new (p := ⟨w.heap.size, 2, none⟩) HRB.out HRO.out _).mono (by omega), ((HO.out.set_new (p := ⟨w.heap.size, 0, none⟩) (Nat.le_refl _) _).set_new (p := ⟨w.heap.size, 1, none⟩) (Nat.le_refl _) _).set_new (p := ⟨w.heap.size, 2, none⟩) (Nat.le_refl _) _⟩
end Go.Proofs.YtajfbiihlfccnaaDoor
