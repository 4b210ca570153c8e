/- The draws of chapter 7: the id of a rule, a ladder of rules. Conditions: the ranges named. -/
import Derived.Test.YtifahgdalgjgfaaDr3
namespace Go.Proofs.Ytifahgdalgjgfaa
open Go.RowKit
set_option linter.unusedVariables false
set_option linter.unusedSimpArgs false
attribute [local go_sem ↓] Go.wp_at_zero Go.wp_at_succ
theorem row_setL {α : Type} (K : Kd α) {xs : List α} {k : Nat} (h : k < xs.length) (x : α) : setL (K.row xs) (k * K.sz) (K.enc x) = K.row (xs.take k ++ x :: xs.drop (k + 1)) := by
  have e1 : K.row xs = K.row (xs.take k) ++ (K.enc xs[k] ++ K.row (xs.drop (k + 1))) := by
    rw [← Kd.row_one, ← Kd.row_append, ← Kd.row_append]
    congr 1
    rw [show [xs[k]] ++ xs.drop (k + 1) = xs.drop k from (List.drop_eq_getElem_cons h).symm, List.take_append_drop]
  have e2 : (K.row (xs.take k)).length = k * K.sz := by rw [Kd.row_len, List.length_take, Nat.min_eq_left (Nat.le_of_lt h)]
  rw [e1, ← e2, setL_append _ _ _ (by rw [K.len, K.len]), Kd.row_append, show x :: xs.drop (k + 1) = [x] ++ xs.drop (k + 1) from rfl, Kd.row_append, Kd.row_one]
theorem own_setCells_ {base e size g n cap : Nat} (vs : List Value) : ∀ {w : World} {xs : List Value} (o : Nat), w.ownsRow base e size (.slice (some ⟨g, 0, none⟩) n cap) n xs → (w.setCells g o vs).ownsRow base e size (.slice (some ⟨g, 0, none⟩) n cap) n (setL xs o vs) := by
  induction vs with
  | nil => intro w xs o h; exact h
  | cons v vs ih => intro w xs o h; exact ih (o + 1) (h.stored o v).1
theorem own_rng {α : Type} {K : Kd α} {e lo g c k : Nat} {w : World} {xs : List α} (h : OwD K e lo w (some ⟨g, 0, none⟩) c xs) (hk : k < xs.length) : w.rangeAt g (k * K.sz) (K.enc xs[k]) := fun i v hv => by
  have hl := K.row_get hk hv
  rw [h.1.cellAt (k * K.sz + i) ?_]
  · exact hl
  · rw [← K.row_len]; exact (List.getElem?_eq_some_iff.1 hl).1
theorem own_there {α : Type} {K : Kd α} {e lo g c k : Nat} {w : World} {xs : List α} (h : OwD K e lo w (some ⟨g, 0, none⟩) c xs) (hk : k < xs.length) : w.there g (k * K.sz) K.sz := fun i hi => by
  have hl : k * K.sz + i < xs.length * K.sz := by
    have h1 : (k + 1) * K.sz ≤ xs.length * K.sz := Nat.mul_le_mul_right _ hk
    rw [Nat.succ_mul] at h1; omega
  refine ⟨?_, h.1.frozenAt _⟩
  rw [h.1.cellAt _ hl, List.getElem?_eq_getElem (by rw [K.row_len]; exact hl)]; rfl
theorem own_put7 {α : Type} {K : Kd α} {e lo g c k : Nat} {w : World} {xs : List α} (h : OwD K e lo w (some ⟨g, 0, none⟩) c xs) (hk : k < xs.length) (x : α) (hx : K.fit x) : OwD K e lo (w.setCells g (k * K.sz) (K.enc x)) (some ⟨g, 0, none⟩) c (xs.take k ++ x :: xs.drop (k + 1)) := by
  have hl : (xs.take k ++ x :: xs.drop (k + 1)).length = xs.length := by simp; omega
  have h1 := own_setCells_ (K.enc x) (k * K.sz) h.1
  rw [row_setL K hk x] at h1
  have h2 : ∀ y ∈ xs.take k ++ x :: xs.drop (k + 1), K.fit y := fun y hy => by
    rcases List.mem_append.1 hy with h3 | h3
    · exact h.2.2.2 y (List.mem_of_mem_take h3)
    · rcases List.mem_cons.1 h3 with h3 | h3
      · rw [h3]; exact hx
      · exact h.2.2.2 y (List.mem_of_mem_drop h3)
  refine Ow.mk ?_ (by rw [hl]; exact h.2.2.1) h2
  rw [hl]; exact h1
theorem OwD.box_far {α : Type} {K : Kd α} {e lo q g c : Nat} {w : World} {xs : List α} (h : OwD K e lo w (some ⟨g, 0, none⟩) c xs) (hq : q ≠ g) (i : Nat) (u : Value) : OwD K e lo (w.setCell ⟨q, i, none⟩ u) (some ⟨g, 0, none⟩) c xs := ⟨ownsRow_setCell_other h.1 (by simp [Value.ownBlock]; omega) u, h.2.1.mono (by simp), h.2.2⟩
set_option maxHeartbeats 1000000 in
theorem ruleOf_any_ (O : Option Addr) (oc lo : Nat) (xs : List Rul) (b : Nat) (A : Option Addr) (n c m : Nat) (w : World) (h : Cur w b A n c m) (hm : m ≤ 900000) (ho : OwD RuleK 52 lo w O oc xs) (hl : xs.length ≤ 100) (hb : b < lo) :
    Calls Try.prog 81 #[.pointer (some ⟨b, 0, none⟩), .slice O xs.length oc] w fun e w' => (∃ x : Int, e = .returned (.int .i64 x)) ∧ Cur w' b A n c (m + 2) ∧ Only b (b + 1) w w' := by
  have hb0 := h.lt
  have S := Lib.hid (Std.start h)
  have O1 := Lib.hid ho
  clear h ho
  by_cases h0 : xs.length = 0
  · have k0 : ((xs.length : Int) == 0) = true := by simp [h0]
    have H0 := Lib.hid h0
    clear h0
    go_enter Try.func81, Try.ntmps81
    go_wp2_with fail
    refine (pick_any 22 (by omega) (by omega) b A n c _ _ S.out.cur (by omega)).mono ?_
    rintro e v1 ⟨⟨y, rfl, hy⟩, hc, ho⟩
    replace S := Lib.hid (S.out.draw hc ho)
    replace O1 := Lib.hid (O1.out.draw ho (by omega))
    clear hc ho 
    go_wp2_with (go_ret; exact ⟨⟨(y : Int), rfl⟩, S.out.cur.mono (by omega), S.out.on⟩)
  · have k0 : ((xs.length : Int) == 0) = false := (beq_eq_false_iff_ne).2 (by omega)
    go_enter Try.func81, Try.ntmps81
    go_wp2_with fail
    refine (one_any 8 (by omega) (by omega) b A n c _ _ S.out.cur (by omega)).mono ?_
    rintro e v2 ⟨⟨z, rfl⟩, hc, ho⟩
    replace S := Lib.hid (S.out.draw hc ho)
    replace O1 := Lib.hid (O1.out.draw ho (by omega))
    clear hc ho 
    rcases Bool.eq_false_or_eq_true z with hz | hz
    · subst hz
      go_wp2_with fail
      refine (pick_any 22 (by omega) (by omega) b A n c _ _ S.out.cur (by omega)).mono ?_
      rintro e v3 ⟨⟨y, rfl, hy⟩, hc, ho⟩
      replace S := Lib.hid (S.out.draw hc ho)
      replace O1 := Lib.hid (O1.out.draw ho (by omega))
      clear hc ho 
      go_wp2_with (go_ret; exact ⟨⟨(y : Int), rfl⟩, S.out.cur, S.out.on⟩)
    · subst hz
      go_wp2_with fail
      refine (pickZ_any (xs.length : Int) (by omega) b A n c _ _ S.out.cur (by omega)).mono ?_
      rintro e v4 ⟨⟨y, rfl, hy⟩, hc, ho⟩
      replace S := Lib.hid (S.out.draw hc ho)
      replace O1 := Lib.hid (O1.out.draw ho (by omega))
      clear hc ho 
      have hyl : y < xs.length := by omega
      obtain ⟨a, hPa, hc0, _⟩ := rule_at O1.out.rd.cells hyl
      subst hPa
      have i1 : (y : Int) < (xs.length : Int) := by omega
      obtain ⟨x, hx⟩ : ∃ x, xs[y].id = x := ⟨_, rfl⟩
      rw [hx] at hc0
      clear hx
      go_wp2_with (go_ret; exact ⟨⟨x, rfl⟩, S.out.cur, S.out.on⟩)
set_option maxRecDepth 100000 in
set_option maxHeartbeats 8000000 in
theorem ladder_any (b : Nat) (A : Option Addr) (n c m : Nat) (w : World) (h : Cur w b A n c m) (hm : m ≤ 600000) :
    Calls Try.prog 67 #[.pointer (some ⟨b, 0, none⟩)] w fun e w' => ∃ (O : Option Addr) (oc : Nat) (xs : List Rul), e = .returned (.slice O xs.length oc) ∧ xs.length ≤ 20 ∧ OwD RuleK 52 w.heap.size w' O oc xs ∧ Cur w' b A n c (m + 300) ∧ Only b (b + 1) w w' := by
  have hb0 := h.lt
  have S := Lib.hid (Std.start h)
  clear h
  go_enter Try.func67, Try.ntmps67
  go_wp2_with fail
  refine (rules_any b A n c _ _ S.out.cur (by omega)).mono ?_
  rintro e v1 ⟨O, oc, xs, rfl, hl, o1, hc, ho⟩
  replace S := Lib.hid (S.out.draw hc ho)
  have O1 := Lib.hid o1
  clear hc ho o1
  go_wp2
  obtain ⟨N, hN⟩ : ∃ N, Hid (xs.length = N) := ⟨_, Lib.hid rfl⟩
  have HL20 := Lib.hid (show N ≤ 20 by rw [← hN.out]; exact hl)
  rw [hN.out]
  clear hl
  go_loopw [4] (fun i wr => ∃ (k m2 : Nat) (ys : List Rul), i = .int .i64 k ∧ k ≤ N ∧ m2 ≤ m + 200 + k ∧ Hid (ys.length = N) ∧ Hid (Std w wr b A n c m2) ∧ Hid (OwD RuleK 52 w.heap.size wr O oc ys)) (fun i _ => N - (intOf i).toNat)
  case atStart => exact ⟨0, _, xs, rfl, Nat.zero_le _, by omega, hN, S, O1⟩
  case round =>
    clear S O1 hN
    obtain ⟨wq, hwq⟩ : ∃ x : World, x = wr := ⟨_, rfl⟩
    subst hwq
    obtain ⟨k, m2, ys, rfl, hk, hm2, hys, S, O1⟩ := hrel
    by_cases hlt : k < N
    · have i1 : (k : Int) < (N : Int) := by omega
      have hm3 : m2 ≤ 800000 := by have := HL20.out; omega
      go_wp2_with fail
      refine (one_any 2 (by omega) (by omega) b A n c _ _ S.out.cur (by omega)).mono ?_
      rintro e v2 ⟨⟨z, rfl⟩, hc, ho⟩
      replace S := Lib.hid (S.out.draw hc ho)
      replace O1 := Lib.hid (O1.out.draw ho (by omega))
      clear hc ho 
      clear hm3
      rcases Bool.eq_false_or_eq_true z with hz | hz
      · subst hz
        obtain ⟨g, hg⟩ : ∃ g, O = some ⟨g, 0, none⟩ := by (obtain ⟨g, cap, hv, _, _⟩ := O1.out.1.form (by have := hys.out; omega)); exact ⟨g, by (injection hv)⟩
        subst hg
        have hky : k < ys.length := by have := hys.out; omega
        have HKY := Lib.hid hky
        clear hky
        obtain ⟨y, hy⟩ : ∃ y, Hid (ys[k]'HKY.out = y) := ⟨_, Lib.hid rfl⟩
        have HR := Lib.hid (own_rng O1.out HKY.out)
        rw [hy.out] at HR
        have HFY : Hid (RuleK.fit y) := Lib.hid (by rw [← hy.out]; exact O1.out.2.2.2 _ (List.getElem_mem _))
        have hgl := (O1.out.1.lt g rfl)
        go_upto_region 5 with fail
        replace HR := Lib.hid (show World.rangeAt _ g (k * 7) [.int .i64 y.id, .string y.nm, .int .i64 y.rk, .bool y.sc, .bool y.db, .bool y.am, .int .i64 y.nd] from HR.out)
        have hk20 : k ≤ 20 := by have := HL20.out; omega
        have Y := Lib.hid (BT.new v2 #[.int .i64 y.id, .string y.nm, .int .i64 y.rk, .bool y.sc, .bool y.db, .bool y.am, .int .i64 y.nd] 52 v2.heap.size rfl)
        have hbl := below1 v2 (.cells #[.int .i64 y.id, .string y.nm, .int .i64 y.rk, .bool y.sc, .bool y.db, .bool y.am, .int .i64 y.nd] 52)
        replace S := Lib.hid (S.out.call hbl)
        replace O1 := Lib.hid (O1.out.call hbl)
        clear hbl
        go_wp2_with (refine wpList_load_mid rfl 52 _ rfl g (k * 7) rfl [.int .i64 y.id, .string y.nm, .int .i64 y.rk, .bool y.sc, .bool y.db, .bool y.am, .int .i64 y.nd] _ HR.out Try.underlying52 rfl (by kernel_rfl) ?_)
        refine (l1Least_any 9 (k : Int) _).mono ?_
        rintro e w' ⟨rfl, hw⟩
        obtain ⟨rk, hrk⟩ : ∃ rk : Int, (if (9 : Int) < (k : Int) then 9 else (k : Int)) = rk := ⟨_, rfl⟩
        rw [hrk, ← hw]
        clear hw hrk HR
        generalize (v2.alloc (.cells #[.int .i64 y.id, .string y.nm, .int .i64 y.rk, .bool y.sc, .bool y.db, .bool y.am, .int .i64 y.nd] 52)) = v3 at *
        generalize v2.heap.size = q5 at *
        have y0 := Y.out.box.1 0 _ rfl
        have y1 := Y.out.box.1 1 _ rfl
        have y2 := Y.out.box.1 2 _ rfl
        have y3 := Y.out.box.1 3 _ rfl
        have y4 := Y.out.box.1 4 _ rfl
        have y5 := Y.out.box.1 5 _ rfl
        have y6 := Y.out.box.1 6 _ rfl
        have yf := Y.out.box.2
        have S9 := Lib.hid (S.out.set ⟨q5, 2, none⟩ (by show _ ≤ q5; omega) (.int .i64 rk))
        have Y9 := Lib.hid (show BT (v3.setCell ⟨q5, 2, none⟩ (.int .i64 rk)) q5 52 [.int .i64 y.id, .string y.nm, .int .i64 rk, .bool y.sc, .bool y.db, .bool y.am, .int .i64 y.nd] from (Y.out.set 2 (by simp) (.int .i64 rk)))
        replace S := S9
        clear S9
        replace Y := Y9
        clear Y9
        replace O1 := Lib.hid (O1.out.box_far (q := q5) (by omega) 2 (.int .i64 rk))
        go_upto_region 7 with fail
        clear y0 y1 y2 y3 y4 y5 y6 yf
        generalize (v3.setCell ⟨q5, 2, none⟩ (.int .i64 rk)) = v4 at *
        have qk : IntKind.i64.wrap ((k : Int) + 1) = ((k + 1 : Nat) : Int) := by rw [IntKind.wrap_i64]; omega
        have HT := Lib.hid (own_there O1.out HKY.out)
        replace HT := Lib.hid (show World.there _ g (k * 7) 7 from HT.out)
        go_wp2_with (first | (refine wpList_load_mid rfl 52 _ rfl q5 0 rfl [.int .i64 y.id, .string y.nm, .int .i64 rk, .bool y.sc, .bool y.db, .bool y.am, .int .i64 y.nd] _ Y.out.rng Try.underlying52 rfl (by kernel_rfl) ?_) | (refine wpList_store_mid rfl 52 _ _ rfl g (k * 7) #[.int .i64 y.id, .string y.nm, .int .i64 rk, .bool y.sc, .bool y.db, .bool y.am, .int .i64 y.nd] rfl rfl HT.out (by kernel_rfl) (by simp [Value.oneCell']) ?_; replace S := Lib.hid (S.out.puts (q := g) hgl.1 (k * 7) [.int .i64 y.id, .string y.nm, .int .i64 rk, .bool y.sc, .bool y.db, .bool y.am, .int .i64 y.nd]); replace O1 := Lib.hid (show OwD RuleK 52 w.heap.size (v4.setCells g (k * 7) [.int .i64 y.id, .string y.nm, .int .i64 rk, .bool y.sc, .bool y.db, .bool y.am, .int .i64 y.nd]) (some ⟨g, 0, none⟩) oc (ys.take k ++ ⟨y.id, y.nm, rk, y.sc, y.db, y.am, y.nd⟩ :: ys.drop (k + 1)) from own_put7 O1.out HKY.out ⟨y.id, y.nm, rk, y.sc, y.db, y.am, y.nd⟩ (show RuleK.fit ⟨y.id, y.nm, rk, y.sc, y.db, y.am, y.nd⟩ from HFY.out)); rw [show v4.setCells g (k * 7) (#[.int .i64 y.id, .string y.nm, .int .i64 rk, .bool y.sc, .bool y.db, .bool y.am, .int .i64 y.nd] : Array Value).toList = v4.setCells g (k * 7) [.int .i64 y.id, .string y.nm, .int .i64 rk, .bool y.sc, .bool y.db, .bool y.am, .int .i64 y.nd] from rfl]; clear Y HT; generalize v4.setCells g (k * 7) [.int .i64 y.id, .string y.nm, .int .i64 rk, .bool y.sc, .bool y.db, .bool y.am, .int .i64 y.nd] = V9 at *))
        go_roundw
        case rel => exact ⟨k + 1, _, ys.take k ++ ⟨y.id, y.nm, rk, y.sc, y.db, y.am, y.nd⟩ :: ys.drop (k + 1), by go_num, by omega, by omega, Lib.hid (by (have h1 := hys.out); simp; omega), S, O1⟩
        case measure => (first | (simp [intOf]; done) | (simp [intOf]; omega))
      · subst hz
        go_wp2_with (go_ret; exact ⟨O, oc, ys, by (rw [hys.out]; rfl), by (have h1 := hys.out; have h2 := HL20.out; omega), O1.out, S.out.cur.mono (by have := HL20.out; omega), S.out.on⟩)
    · have i1 : ¬ (k : Int) < (N : Int) := by omega
      go_wp2_with (go_ret; exact ⟨O, oc, ys, by (rw [hys.out]; rfl), by (have h1 := hys.out; have h2 := HL20.out; omega), O1.out, S.out.cur.mono (by have := HL20.out; omega), S.out.on⟩)
end Go.Proofs.Ytifahgdalgjgfaa
