/- The line of an amendment, in the program and in the reference. Conditions: the words that the program's table holds, and the ranges named. -/
import Derived.Test.YtnnphhhjkhoglaaGreatDoorMHi1
import Derived.Test.YtnnphhhjkhoglaaGreatDoorHi1
import Derived.Deep.Cut
import Derived.Deep.CutRange
import Derived.Deep.DeepCutAuto
import Derived.Deep.MidRow
import Derived.Test.YtnnphhhjkhoglaaGreatDoorProg
import Derived.Test.YtnnphhhjkhoglaaGreatDoorCell
import Derived.Test.YtnnphhhjkhoglaaGreatDoorWord
import Derived.Test.YtnnphhhjkhoglaaGreatDoorSetc
import Derived.Test.YtnnphhhjkhoglaaGreatDoorSetc2
import Derived.Test.YtnnphhhjkhoglaaGreatDoorDk4L
import Derived.Test.YtnnphhhjkhoglaaGreatDoorShelf
import Derived.Lib.AppendIntMem
import Derived.BigQuiet
import Derived.Deep.DrawnRows
import Derived.Deep.QuietTactic
import Derived.Lib.AtoiAll
import Derived.Lib.Split
import Derived.Lib.ItoaMem
import Derived.Test.YtnnphhhjkhoglaaGreatDoorKit
import Derived.Test.YtnnphhhjkhoglaaGreatDoorAmd2
import Derived.Lib.Join
import Derived.Test.YtnnphhhjkhoglaaGreatDoorObj2
import Derived.Test.YtnnphhhjkhoglaaGreatDoorApc
import Derived.Lib.CutLaws
import Derived.Lib.CountLaws
namespace Go.Proofs.YtnnphhhjkhoglaaGreatDoor
open Go.RowKit
set_option linter.unusedVariables false
set_option linter.unusedSimpArgs false
attribute [local go_sem ↓] Go.wp_at_zero Go.wp_at_succ
theorem ownsRow_draw {w w' : World} {lo b e size n c : Nat} {A : Option Addr} {xs : List Value} (h : w.ownsRow lo e size (.slice A n c) n xs) (ho : Only b (b + 1) w w') (hb : b < lo) : w'.ownsRow lo e size (.slice A n c) n xs := own_only h (Under.own h) ho (.inr hb)
/-- A row of texts of a call's own, as amendments bear them. -/
def OwI (lo : Nat) (w : World) (N : Option Addr) (d : Nat) (ws : List ByteArray) : Prop := w.ownsRow lo 9 1 (.slice N ws.length d) ws.length (strs ws)
section
variable {lo b d : Nat} {w w' : World} {N : Option Addr} {ws : List ByteArray}
theorem OwI.call (h : OwI lo w N d ws) (hb : Below w.heap.size w w') : OwI lo w' N d ws := own_keep h hb
theorem OwI.draw (h : OwI lo w N d ws) (ho : Only b (b + 1) w w') (hb : b < lo) : OwI lo w' N d ws := ownsRow_draw h ho hb
theorem OwI.low {lo' : Nat} (h : OwI lo w N d ws) (hl : lo' ≤ lo) : OwI lo' w N d ws := own_mono h hl
end
section
variable {lo b c : Nat} {w w' : World} {O : Option Addr} {qs : List Amd} {hs : List AmH}
theorem OwV.call (h : OwV lo w O c qs hs) (hb : Below w.heap.size w w') : OwV lo w' O c qs hs := h.keep hb
theorem OwV.draw (h : OwV lo w O c qs hs) (ho : Only b (b + 1) w w') (hb : b < lo) : OwV lo w' O c qs hs :=
  ⟨h.1, ownsRow_draw h.2.1 ho hb, fun i h1 h2 => ⟨(h.2.2.1 i h1 h2).1, ownsRow_draw (h.2.2.1 i h1 h2).2 ho hb⟩, h.2.2.2⟩
end
/-- A text that is read: an argument, or a row of the call's own. -/
structure NowR (lo : Nat) (w : World) (b : Nat) (T : Option Addr) (t : Nat) (ss : List ByteArray) : Prop where
  cells : Cells w T (strs ss)
  cap : ss.length ≤ t
  fit : Fit ss
  few : ss.length ≤ 100
  off : ∀ a, T = some a → 0 < ss.length → a.block ≠ b ∧ (a.block < lo ∨ w.ownsRow lo 9 1 (.slice T ss.length t) ss.length (strs ss))
section
variable {lo b t : Nat} {w w' : World} {T : Option Addr} {ss : List ByteArray}
theorem NowR.keepB (h : NowR lo w b T t ss) (hk : ∀ a, T = some a → 0 < ss.length → a.block < w.heap.size → w'.heap[a.block]? = w.heap[a.block]?) (ho : ∀ a, T = some a → 0 < ss.length → w.ownsRow lo 9 1 (.slice T ss.length t) ss.length (strs ss) → w'.ownsRow lo 9 1 (.slice T ss.length t) ss.length (strs ss)) : NowR lo w' b T t ss := by
  refine ⟨fun i u hi => ?_, h.cap, h.fit, h.few, fun a ha h0 => ⟨(h.off a ha h0).1, (h.off a ha h0).2.imp id (ho a ha h0)⟩⟩
  have h0 : 0 < ss.length := by
    have h1 := (List.getElem?_eq_some_iff.1 hi).1
    rw [strs_len] at h1
    omega
  obtain ⟨ad, hA, hc⟩ := h.cells i u hi
  have hl := World.block_lt_of_cell? _ _ hc
  rw [block_add] at hl
  exact ⟨ad, hA, (World.cell?_of_block (a := ad.add i) (by rw [block_add]; exact hk ad hA h0 hl)).trans hc⟩
theorem NowR.call (h : NowR lo w b T t ss) (hb : Below w.heap.size w w') : NowR lo w' b T t ss := h.keepB (fun a _ _ hl => hb.block _ hl) (fun a _ _ ho => own_keep ho hb)
theorem NowR.draw (h : NowR lo w b T t ss) (ho : Only b (b + 1) w w') (hb : b < lo) : NowR lo w' b T t ss := h.keepB (fun a ha h0 hl => ho.block _ hl (by have := (h.off a ha h0).1; omega)) (fun a _ _ h9 => ownsRow_draw h9 ho hb)
theorem NowR.grow {base E size n oc : Nat} {O : Option Addr} {xs : List Value} (h : NowR lo w b T t ss) (ho : w.ownsRow base E size (.slice O n oc) n xs) (hB : lo ≤ base) (hne : E ≠ 9) (hg : w.grownBy w' (Value.slice O n oc).ownBlock) : NowR lo w' b T t ss := by
  refine h.keepB (fun a ha h0 hl => hg.block _ hl (fun e => ?_)) (fun a _ _ h9 => h9.kept hg (own_two ho h9 hne))
  rcases (h.off a ha h0).2 with h1 | h1
  · have := (ho.lt _ e.symm).1
    omega
  · rw [ha] at h1
    exact own_ne ho h1 hne (g := a.block) e.symm rfl
theorem NowR.own (h : OwI lo w T t ss) (hf : Fit ss) (hl : ss.length ≤ 100) (hb : b < lo) : NowR lo w b T t ss := by
  refine ⟨Cells.of_own h, own_cap h, hf, hl, fun a ha h0 => ⟨?_, .inr h⟩⟩
  have h1 := h.lt a.block (by rw [ha]; rfl)
  omega
end
/-- Amendments as they are drawn: not long. -/
def ShQ (qs : List Amd) : Prop := ∀ q ∈ qs, q.ws.length ≤ 5 ∧ Short q.ws
theorem ShQ.snoc {qs : List Amd} {q : Amd} (h : ShQ qs) (h1 : q.ws.length ≤ 5) (h2 : Short q.ws) : ShQ (qs ++ [q]) := fun x hx => by
  rcases List.mem_append.1 hx with hx | hx
  · exact h x hx
  · simp at hx; subst hx; exact ⟨h1, h2⟩
theorem appL_fit {ss : List ByteArray} {a : Amd} (h : canB ss a = true) (hs : Fit ss) (ha : Fit a.ws) : Fit (appL ss a) := by
  rw [appL_yes h]
  obtain ⟨h1, h2, h3⟩ := can_parts.1 h
  exact (GoodT.step ⟨h1, hs⟩ h2 h3 ha).fit
theorem short_fit {ss : List ByteArray} (h : Short ss) (hl : ss.length ≤ 1048576) : Fit ss := ⟨hl, fun s hs => Nat.le_trans (h s hs) (by unfold maxLen; omega)⟩
theorem lits_own (w : World) (x : ByteArray) (lo : Nat) (hlo : lo ≤ w.heap.size) : OwI lo (w.alloc (.cells #[.string x] 9)) (some ⟨w.heap.size, 0, none⟩) 1 [x] := by
  have h := World.ownsRow_lit w #[Value.string x] (e := 9) (size := 1) (base := lo) 1 hlo (by unfold maxLen; omega) (by simp)
  exact h
set_option maxRecDepth 100000 in
set_option maxHeartbeats 8000000 in
theorem amendments_any (T : Option Addr) (t : Nat) (ss : List ByteArray) (b : Nat) (A : Option Addr) (n c m : Nat) (w : World) (h : Cur w b A n c m) (hm : m ≤ 600000) (hT : NowR w.heap.size w b T t ss) :
    Calls Tryz.prog 18 #[.pointer (some ⟨b, 0, none⟩), .slice T ss.length t] w fun e w' => ∃ (O : Option Addr) (oc : Nat) (qs : List Amd) (hs : List AmH), e = .returned (.slice O qs.length oc) ∧ qs.length ≤ 9 ∧ ShQ qs ∧ OwV w.heap.size w' O oc qs hs ∧ Cur w' b A n c (m + 200) ∧ Only b (b + 1) w w' := by
  have hb0 := h.lt
  have S := Lib.hid ((Std.start h).alloc (.cells #[] 35))
  have V := Lib.hid (show OwV w.heap.size (w.alloc (.cells #[] 35)) (some ⟨w.heap.size, 0, none⟩) 0 [] [] from OwV.nil (own_nil_lit w w.heap.size w.heap.size 35 4 rfl (Nat.le_refl _)))
  have NW := Lib.hid (hT.call (below1 w (.cells #[] 35)))
  clear h hT
  go_enter Tryz.func18, Tryz.ntmps18
  go_upto_region 2 with fail
  generalize (w.alloc (.cells #[] 35)) = v1 at *
  go_wp2_with fail
  refine (pick_any 5 (by omega) (by omega) b A n c _ _ S.out.cur (by omega)).mono ?_
  rintro e v2 ⟨⟨k, rfl, hk⟩, hc, ho⟩
  replace S := Lib.hid (S.out.draw hc ho)
  replace V := Lib.hid (V.out.draw ho (by omega))
  replace NW := Lib.hid (NW.out.draw ho (by omega))
  clear hc ho 
  go_wp2
  go_loopw [5, 6, 7] (fun l nw i wr => ∃ (j m2 : Nat) (O : Option Addr) (oc : Nat) (qs : List Amd) (hs : List AmH) (T : Option Addr) (t : Nat) (ss : List ByteArray), i = .int .i64 j ∧ l = .slice O qs.length oc ∧ nw = .slice T ss.length t ∧ j ≤ 4 ∧ qs.length + j ≤ 4 ∧ m2 + 22 * j ≤ m + 100 ∧ Hid (Std w wr b A n c m2) ∧ Hid (OwV w.heap.size wr O oc qs hs) ∧ Hid (ShQ qs) ∧ Hid (NowR w.heap.size wr b T t ss)) (fun _ _ i _ => (intOf i).toNat)
  case atStart => exact ⟨k, _, _, 0, [], [], T, t, ss, rfl, rfl, rfl, by omega, by simp; omega, by omega, S, V, Lib.hid (fun q hq => by cases hq), NW⟩
  case round =>
    clear S V NW hk
    obtain ⟨wq, hwq⟩ : ∃ x : World, x = wr := ⟨_, rfl⟩
    subst hwq
    obtain ⟨j, m2, O, oc, qs, hs, T, t, ss, rfl, rfl, rfl, hj, hl, hm2, S, V, SH, NW⟩ := hrel
    rcases Nat.eq_zero_or_pos j with h0 | h0
    · subst h0
      clear NW
      go_wp2_with fail
      refine (one_any 24 (by omega) (by omega) b A n c _ _ S.out.cur (by omega)).mono ?_
      rintro e v3 ⟨⟨x, rfl⟩, hc, ho⟩
      replace S := Lib.hid (S.out.draw hc ho)
      replace V := Lib.hid (V.out.draw ho (by omega))
      clear hc ho 
      have HSM := Lib.hid (show m2 ≤ m + 100 by omega)
      have HQ4 := Lib.hid (show qs.length ≤ 9 by omega)
      clear hl hj hm2
      rcases Bool.eq_false_or_eq_true x with hx | hx
      · subst hx
        go_wp2
        go_loopw [5, 11] (fun l i wr => ∃ (j m3 : Nat) (O : Option Addr) (oc : Nat) (qs : List Amd) (hs : List AmH), i = .int .i64 j ∧ l = .slice O qs.length oc ∧ j ≤ 10 ∧ m3 ≤ m2 + 1 + 2 * j ∧ qs.length ≤ 9 ∧ Hid (Std w wr b A n c m3) ∧ Hid (OwV w.heap.size wr O oc qs hs) ∧ Hid (ShQ qs)) (fun _ i _ => 10 - (intOf i).toNat)
        case atStart => exact ⟨0, _, O, oc, qs, hs, rfl, rfl, by omega, by omega, HQ4.out, S, V, SH⟩
        case round =>
          clear S V SH HQ4
          obtain ⟨wp, hwp⟩ : ∃ x : World, x = wr := ⟨_, rfl⟩
          subst hwp
          obtain ⟨j, m3, O, oc, qs, hs, rfl, rfl, hj, hm3, hl, S, V, SH⟩ := hrel
          have HSM2 := HSM.out
          go_wp2_with fail
          refine (pick_any 2 (by omega) (by omega) b A n c _ _ S.out.cur (by omega)).mono ?_
          rintro e v4 ⟨⟨y, rfl, hy⟩, hc, ho⟩
          replace S := Lib.hid (S.out.draw hc ho)
          replace V := Lib.hid (V.out.draw ho (by omega))
          clear hc ho 
          have qy : IntKind.i64.wrap (8 + (y : Int)) = 8 + (y : Int) := by rw [IntKind.wrap_i64]; omega
          by_cases hd : (qs.length : Int) < 8 + (y : Int)
          · have hdd : decide ((qs.length : Int) < 8 + (y : Int)) = true := decide_eq_true hd
            by_cases hj10 : (j : Int) < 10
            · have HQL := Lib.hid (show qs.length ≤ 8 by omega)
              have HMM := Lib.hid (show m3 + 1 ≤ m2 + 1 + 2 * (j + 1) by omega)
              have HJ := Lib.hid hj10
              clear hd
              have HU := Lib.hid (fun i (hi : i < hs.length) => V.out.under hi)
              have I := Lib.hid (lits_own v4 ⟨#[120]⟩ w.heap.size S.out.sz)
              have HN : Hid (∀ b9, (some (⟨v4.heap.size, 0, none⟩ : Addr)) = some b9 → v4.heap.size ≤ b9.block) := Lib.hid (fun b9 e => by cases e; exact Nat.le_refl _)
              have hbl := below1 v4 (.cells #[.string ⟨#[120]⟩] 9)
              replace S := Lib.hid (S.out.call hbl)
              replace V := Lib.hid (V.out.call hbl)
              clear hbl
              have HL := Lib.hid (show Cells _ _ [.int .i64 1, .int .i64 0, .int .i64 0, .slice (some ⟨v4.heap.size, 0, none⟩) 1 1] from cells_arr (v4.alloc (.cells #[.string ⟨#[120]⟩] 9)) #[.int .i64 1, .int .i64 0, .int .i64 0, .slice (some ⟨v4.heap.size, 0, none⟩) 1 1] 35 (v4.heap.size + 1) (by simp))
              have hbl := below1 (v4.alloc (.cells #[.string ⟨#[120]⟩] 9)) (.cells #[.int .i64 1, .int .i64 0, .int .i64 0, .slice (some ⟨v4.heap.size, 0, none⟩) 1 1] 35)
              replace S := Lib.hid (S.out.call hbl)
              replace V := Lib.hid (V.out.call hbl)
              replace I := Lib.hid (I.out.call hbl)
              clear hbl
              have hlz := S.out.sz
              have hql := HQL.out
              go_wp2_with (at_builtin; go_must (refine list_append_gr elAm _ rfl _ _ rfl w.heap.size O _ oc qs.length 1 1 (AmHK.row hs) [.int .i64 1, .int .i64 0, .int .i64 0, .slice (some ⟨v4.heap.size, 0, none⟩) 1 1] rfl rfl rfl V.out.2.1 HL.out (by intro u hu; simp only [List.mem_cons, List.not_mem_nil, or_false] at hu; rcases hu with rfl | rfl | rfl | rfl <;> rfl) hlz (by omega) ?_); intro Q3 q3 v5 own hb hg; have HG := Lib.hid hg; have HW := Lib.hid own; clear own hb hg)
              replace S := Lib.hid (S.out.grow V.out.2.1 (Nat.le_refl _) HG.out)
              have V3 := Lib.hid (OwV.snoc (q := ⟨1, 0, 0, [⟨#[120]⟩]⟩) (B := (some ⟨v4.heap.size, 0, none⟩)) (d := 1) (O' := Q3) (c' := q3) V.out I.out HU.out HN.out HG.out HW.out)
              clear HG HW V I HU HN HL hlz hql
              have SH3 := Lib.hid (ShQ.snoc (q := ⟨1, 0, 0, [⟨#[120]⟩]⟩) SH.out (by simp) (fun s hs => by simp at hs; subst hs; decide))
              go_roundw
              case rel => exact ⟨j + 1, _, Q3, q3, qs ++ [⟨1, 0, 0, [⟨#[120]⟩]⟩], _, by go_num, by simp, by have := HJ.out; omega, HMM.out, by simp; exact HQL.out, S, V3, SH3⟩
              case measure => (first | (simp [intOf]; done) | (simp [intOf]; omega))
            · have hj2 : decide ((j : Int) < 10) = false := decide_eq_false hj10
              go_wp2_with (go_ret; exact ⟨O, oc, qs, hs, rfl, by omega, SH.out, V.out, S.out.cur.mono (by omega), S.out.on⟩)
          · have hdd : decide ((qs.length : Int) < 8 + (y : Int)) = false := decide_eq_false hd
            go_wp2_with (go_ret; exact ⟨O, oc, qs, hs, rfl, by omega, SH.out, V.out, S.out.cur.mono (by omega), S.out.on⟩)
      · subst hx
        go_wp2_with (go_ret; exact ⟨O, oc, qs, hs, rfl, by have := HQ4.out; omega, SH.out, V.out, S.out.cur.mono (by have := HSM.out; omega), S.out.on⟩)
    · have i0 : (0 : Int) < (j : Int) := by omega
      have qj : IntKind.i64.wrap ((j : Int) - 1) = ((j - 1 : Nat) : Int) := by rw [IntKind.wrap_i64]; omega
      have HQL := Lib.hid (show qs.length ≤ 8 by omega)
      have HU := Lib.hid (fun i (hi : i < hs.length) => V.out.under hi)
      have hlow := S.out.sz
      go_wp2_with fail
      refine (amendment_any T t ss.length b A n c m2 wq S.out.cur (by omega) NW.out.few).mono ?_
      rintro e v6 ⟨N, d, a, rfl, hws, hsh, own, hc, ho⟩
      replace S := Lib.hid (S.out.draw hc ho)
      replace V := Lib.hid (V.out.draw ho (by omega))
      replace NW := Lib.hid (NW.out.draw ho (by omega))
      have HN : Hid (∀ b9, N = some b9 → wq.heap.size ≤ b9.block) := Lib.hid (fun b9 e => (own.lt b9.block (by rw [e]; rfl)).1)
      have I := Lib.hid (OwI.low (show OwI wq.heap.size v6 N d a.ws from own) hlow)
      have HWS := Lib.hid hws
      have HSH := Lib.hid hsh
      have HFA := Lib.hid (short_fit hsh (by omega))
      clear hc ho own hlow hws hsh
      have hqw := S.out.sz
      have B := Lib.hid (BT.new v6 #[.int .i64 a.k, .int .i64 a.p, .int .i64 a.n, .slice N a.ws.length d] 35 v6.heap.size rfl)
      have hbl := below1 v6 (.cells #[.int .i64 a.k, .int .i64 a.p, .int .i64 a.n, .slice N a.ws.length d] 35)
      replace S := Lib.hid (S.out.call hbl)
      replace V := Lib.hid (V.out.call hbl)
      replace NW := Lib.hid (NW.out.call hbl)
      replace I := Lib.hid (I.out.call hbl)
      clear hbl
      go_upto_region 7 with fail
      generalize (v6.alloc (.cells #[.int .i64 a.k, .int .i64 a.p, .int .i64 a.n, .slice N a.ws.length d] 35)) = v7 at *
      generalize v6.heap.size = q at *
      go_wp2_with (refine wpList_load_mid rfl 35 _ rfl q 0 rfl [.int .i64 a.k, .int .i64 a.p, .int .i64 a.n, .slice N a.ws.length d] _ B.out.rng Tryz.underlying35 rfl (by kernel_rfl) ?_)
      have hlo := S.out.sz
      refine (sApplyAmendment_any T N t d ss a v7 NW.out.cells NW.out.cap NW.out.fit (Cells.of_own I.out) HFA.out).mono ?_
      rintro e v8 ⟨O9, d9, rfl, own, hb⟩
      replace S := Lib.hid (S.out.call hb)
      replace V := Lib.hid (V.out.call hb)
      replace NW := Lib.hid (NW.out.call hb)
      replace I := Lib.hid (I.out.call hb)
      replace B := Lib.hid (B.out.call hb)
      have NX := Lib.hid (OwI.low (show OwI _ v8 O9 d9 (appL ss a) from own) hlo)
      clear own hb hlo
      have hb9 := S.out.lt
      rcases Bool.eq_false_or_eq_true (canB ss a) with hk | hk
      · rw [hk]
        have HFN := Lib.hid (appL_fit hk NW.out.fit HFA.out)
        have NY := Lib.hid (NowR.own (b := b) NX.out HFN.out (Nat.le_trans appL_len (by omega)) hb9)
        clear NW
        have NW := NY
        clear NY NX hk
        have BB := B
        have HL := Lib.hid (show Cells _ _ [.int .i64 a.k, .int .i64 a.p, .int .i64 a.n, .slice N a.ws.length d] from cells_arr v8 #[.int .i64 a.k, .int .i64 a.p, .int .i64 a.n, .slice N a.ws.length d] 35 v8.heap.size rfl)
        have hbl := below1 v8 (.cells #[.int .i64 a.k, .int .i64 a.p, .int .i64 a.n, .slice N a.ws.length d] 35)
        replace S := Lib.hid (S.out.call hbl)
        replace V := Lib.hid (V.out.call hbl)
        replace NW := Lib.hid (NW.out.call hbl)
        replace I := Lib.hid (I.out.call hbl)
        replace B := Lib.hid (B.out.call hbl)
        clear hbl
        have hlz := S.out.sz
        have hql := HQL.out
        go_wp2_with (first | (refine wpList_load_mid rfl 35 _ rfl q 0 rfl [.int .i64 a.k, .int .i64 a.p, .int .i64 a.n, .slice N a.ws.length d] _ BB.out.rng Tryz.underlying35 rfl (by kernel_rfl) ?_) | (at_builtin; go_must (refine list_append_gr elAm _ rfl _ _ rfl w.heap.size O _ oc qs.length 1 1 (AmHK.row hs) [.int .i64 a.k, .int .i64 a.p, .int .i64 a.n, .slice N a.ws.length d] rfl rfl rfl V.out.2.1 HL.out (by intro u hu; simp only [List.mem_cons, List.not_mem_nil, or_false] at hu; rcases hu with rfl | rfl | rfl | rfl <;> rfl) hlz (by omega) ?_); intro Q3 q3 v9 own hb hg; have HG := Lib.hid hg; have HW := Lib.hid own; clear own hb hg))
        replace S := Lib.hid (S.out.grow V.out.2.1 (Nat.le_refl _) HG.out)
        replace NW := Lib.hid (NW.out.grow V.out.2.1 (Nat.le_refl _) (by decide) HG.out)
        have V3 := Lib.hid (OwV.snoc (q := a) (B := N) (d := d) (O' := Q3) (c' := q3) V.out I.out HU.out HN.out HG.out HW.out)
        clear HG HW V I HU HN HL hlz hql
        clear B BB
        have SH3 := Lib.hid (ShQ.snoc (q := a) SH.out HWS.out HSH.out)
        go_roundw
        case rel => exact ⟨j - 1, _, Q3, q3, qs ++ [a], _, O9, d9, appL ss a, by go_num, by simp, rfl, by omega, by simp; omega, by omega, S, V3, SH3, NW⟩
        case measure => (first | (simp [intOf]; done) | (simp [intOf]; omega))
      · rw [hk]
        clear NX
        clear hk
        go_wp2_with fail
        refine (one_any 6 (by omega) (by omega) b A n c _ _ S.out.cur (by omega)).mono ?_
        rintro e v10 ⟨⟨x, rfl⟩, hc, ho⟩
        replace S := Lib.hid (S.out.draw hc ho)
        replace V := Lib.hid (V.out.draw ho (by omega))
        replace NW := Lib.hid (NW.out.draw ho (by omega))
        replace I := Lib.hid (I.out.draw ho (by omega))
        replace B := Lib.hid (B.out.draw ho (by omega))
        clear hc ho 
        rcases Bool.eq_false_or_eq_true x with hx | hx
        · subst hx
          have BB := B
          have HL := Lib.hid (show Cells _ _ [.int .i64 a.k, .int .i64 a.p, .int .i64 a.n, .slice N a.ws.length d] from cells_arr v10 #[.int .i64 a.k, .int .i64 a.p, .int .i64 a.n, .slice N a.ws.length d] 35 v10.heap.size rfl)
          have hbl := below1 v10 (.cells #[.int .i64 a.k, .int .i64 a.p, .int .i64 a.n, .slice N a.ws.length d] 35)
          replace S := Lib.hid (S.out.call hbl)
          replace V := Lib.hid (V.out.call hbl)
          replace NW := Lib.hid (NW.out.call hbl)
          replace I := Lib.hid (I.out.call hbl)
          replace B := Lib.hid (B.out.call hbl)
          clear hbl
          have hlz := S.out.sz
          have hql := HQL.out
          go_wp2_with (first | (refine wpList_load_mid rfl 35 _ rfl q 0 rfl [.int .i64 a.k, .int .i64 a.p, .int .i64 a.n, .slice N a.ws.length d] _ BB.out.rng Tryz.underlying35 rfl (by kernel_rfl) ?_) | (at_builtin; go_must (refine list_append_gr elAm _ rfl _ _ rfl w.heap.size O _ oc qs.length 1 1 (AmHK.row hs) [.int .i64 a.k, .int .i64 a.p, .int .i64 a.n, .slice N a.ws.length d] rfl rfl rfl V.out.2.1 HL.out (by intro u hu; simp only [List.mem_cons, List.not_mem_nil, or_false] at hu; rcases hu with rfl | rfl | rfl | rfl <;> rfl) hlz (by omega) ?_); intro Q3 q3 v11 own hb hg; have HG := Lib.hid hg; have HW := Lib.hid own; clear own hb hg))
          replace S := Lib.hid (S.out.grow V.out.2.1 (Nat.le_refl _) HG.out)
          replace NW := Lib.hid (NW.out.grow V.out.2.1 (Nat.le_refl _) (by decide) HG.out)
          have V3 := Lib.hid (OwV.snoc (q := a) (B := N) (d := d) (O' := Q3) (c' := q3) V.out I.out HU.out HN.out HG.out HW.out)
          clear HG HW V I HU HN HL hlz hql
          clear B BB
          have SH3 := Lib.hid (ShQ.snoc (q := a) SH.out HWS.out HSH.out)
          go_roundw
          case rel => exact ⟨j - 1, _, Q3, q3, qs ++ [a], _, T, t, ss, by go_num, by simp, rfl, by omega, by simp; omega, by omega, S, V3, SH3, NW⟩
          case measure => (first | (simp [intOf]; done) | (simp [intOf]; omega))
        · subst hx
          go_wp2
          go_roundw
          case rel => exact ⟨j - 1, _, O, oc, qs, hs, T, t, ss, by go_num, rfl, rfl, by omega, by omega, by omega, S, V, SH, NW⟩
          case measure => (first | (simp [intOf]; done) | (simp [intOf]; omega))
end Go.Proofs.YtnnphhhjkhoglaaGreatDoor
namespace Go.Proofs.YtnnphhhjkhoglaaGreatDoor
open Go.RowKit
set_option linter.unusedVariables false

/-- The number of a member. -/
def memB (x : Int) : Bool := inB x 1 99
end Go.Proofs.YtnnphhhjkhoglaaGreatDoor
namespace Go.Proofs.YtnnphhhjkhoglaaGreatDoor
open Go.RowKit
set_option linter.unusedVariables false
set_option linter.unusedSimpArgs false
attribute [local go_sem ↓] Go.wp_at_zero Go.wp_at_succ
/-- The numeral of a number. -/
def dec (i : Nat) : ByteArray := ⟨(Go.Lib.decDigits i).toArray⟩
def dgtB (r : Nat) : ByteArray := ⟨#[UInt8.ofNat (48 + r)]⟩
theorem dec_low {i : Nat} (h : i < 10) : dec i = dgtB i := by unfold dec dgtB; rw [Go.Lib.decDigits, dif_pos h]
theorem dec_high {i : Nat} (h : 10 ≤ i) : dec i = dec (i / 10) ++ dgtB (i % 10) := by
  unfold dec dgtB
  conv => lhs; rw [Go.Lib.decDigits, dif_neg (by omega)]
  rw [ByteArray.mk_append_mk]
theorem dec_size : ∀ {i : Nat}, (dec i).size ≤ i + 1 := by
  intro i
  induction i using Nat.strongRecOn with
  | _ i ih =>
    rcases Nat.lt_or_ge i 10 with h | h
    · rw [dec_low h]; show 1 ≤ i + 1; omega
    · rw [dec_high h, ByteArray.size_append]
      have h1 := ih (i / 10) (by omega)
      have h2 : (dgtB (i % 10)).size = 1 := rfl
      omega
theorem dig_at {r : Nat} (h : r < 10) : (⟨#[48, 49, 50, 51, 52, 53, 54, 55, 56, 57]⟩ : ByteArray).extract r (r + 1) = dgtB r := by
  have h1 : r = 0 ∨ r = 1 ∨ r = 2 ∨ r = 3 ∨ r = 4 ∨ r = 5 ∨ r = 6 ∨ r = 7 ∨ r = 8 ∨ r = 9 := by omega
  rcases h1 with rfl | rfl | rfl | rfl | rfl | rfl | rfl | rfl | rfl | rfl <;> rfl
theorem drew_moreT {w wr : World} {n : Nat} (h : wr = w.drewN n) (m : Nat) : ∃ k, wr.drewN m = w.drewN k := by subst h; exact ⟨n + m, World.drewN_drewN _ _ _⟩
set_option maxHeartbeats 1000000 in
theorem l1Num_all : ∀ (i : Nat) (w : World), i ≤ 1000000 → Calls Tryz.prog 59 #[.int .i64 i] w fun e w' => e = .returned (.string (dec i)) ∧ ∃ m, w' = w.drewN m := by
  intro i
  induction i using Nat.strongRecOn with
  | _ i ih =>
  intro w hi
  have IH := Lib.hid ih
  clear ih
  have i0 : ¬ (i : Int) < 0 := by omega
  rcases Nat.lt_or_ge i 10 with h | h
  · have HD := Lib.hid ((dec_low h).trans (dig_at h).symm)
    have i1 : (i : Int) < 10 := by omega
    have q1 : IntKind.i64.wrap ((i : Int) + 1) = (i : Int) + 1 := by rw [IntKind.wrap_i64]; omega
    have i2 : (i : Int) + 1 ≤ 10 := by omega
    have i3 : (0 : Int) ≤ (i : Int) + 1 := by omega
    have i4 : ((i : Int) + 1).toNat = i + 1 := by omega
    go_enter Tryz.func59, Tryz.ntmps59
    go_wp2
    go_ret
    exact ⟨by rw [HD.out]; first | rfl | (simp; done), 0, rfl⟩
  · have HD := Lib.hid ((dec_high h).trans (congrArg (dec (i / 10) ++ ·) (dig_at (show i % 10 < 10 by omega)).symm))
    have i1 : ¬ (i : Int) < 10 := by omega
    have HN := Lib.hid (fun w => IH.out (i / 10) (by omega) w (by omega))
    have e1 : (i : Int) / 10 = ((i / 10 : Nat) : Int) := by omega
    have e2 : (i : Int) % 10 = ((i % 10 : Nat) : Int) := by omega
    have hsz := dec_size (i := i / 10)
    obtain ⟨j, hj⟩ : ∃ j, Hid (i / 10 = j) := ⟨_, Lib.hid rfl⟩
    obtain ⟨r, hr⟩ : ∃ r, Hid (i % 10 = r) := ⟨_, Lib.hid rfl⟩
    have hr10 : r < 10 := by have := hr.out; omega
    rw [hj.out] at HD HN e1 hsz
    rw [hr.out] at HD e2
    have hj2 : j ≤ 100000 := by have := hj.out; omega
    have q1 : IntKind.i64.wrap ((r : Int) + 1) = (r : Int) + 1 := by rw [IntKind.wrap_i64]; omega
    have i2 : (r : Int) + 1 ≤ 10 := by omega
    have i3 : (0 : Int) ≤ (r : Int) + 1 := by omega
    have i4 : ((r : Int) + 1).toNat = r + 1 := by omega
    have i5 : (r : Int) ≤ 10 := by omega
    have y1 : ¬ 9223372036854775807 < (dec j).size + ((⟨#[48, 49, 50, 51, 52, 53, 54, 55, 56, 57]⟩ : ByteArray).extract r (r + 1)).size := by rw [dig_at hr10]; show ¬ 9223372036854775807 < (dec j).size + 1; omega
    have q6 : IntKind.i64.wrap (j : Int) = (j : Int) := by rw [IntKind.wrap_i64]; omega
    clear hsz
    go_enter Tryz.func59, Tryz.ntmps59
    go_wp2
    go_quiet ((go_at_call 59; exact Go.Calls.quiet_of (HN.out _)))
    go_wp2
    go_ret
    exact ⟨by rw [HD.out]; first | rfl | (simp; done), _, rfl⟩
/-- The table of powers of ten is where the library reads it. -/
def Tab (w : World) : Prop := Go.Lib.TabBelow Tryz.prog w.heap.size w "internal/strconv.uint64pow10" .u64 Go.Lib.pow10Tab
theorem Tab.below {w w' : World} (h : Tab w) (hb : Below w.heap.size w w') : Tab w' := fun w2 h2 => h w2 (hb.trans (h2.mono hb.size))
theorem Tab.here {w : World} (h : Tab w) : Go.Lib.TabIs Tryz.prog w "internal/strconv.uint64pow10" .u64 Go.Lib.pow10Tab := h w (Below.refl _ _)
theorem grow_below (w : World) (os : Array Obj) : Below w.heap.size w (Go.Sort.grow w os) := ⟨rfl, rfl, rfl, by simp [Go.Sort.grow], fun k hk => by simp only [Go.Sort.grow]; rw [Array.getElem?_append_left hk]⟩
theorem itoa_any (i : Nat) (hi : i ≤ 100000) (w : World) (h : Tab w) : Calls Tryz.prog 53 #[.int .i64 i] w fun e w' => e = .returned (.string (dec i)) ∧ Below w.heap.size w w' := by
  refine (Tryz.strconv_Itoa (i : Int) (by omega) (by omega) w h.here).mono ?_
  rintro e w' ⟨rfl, k, os, rfl⟩
  refine ⟨by rw [Go.Lib.itoa_nonneg]; rfl, ?_⟩
  exact (below_drewN (Below.refl _ _) k).trans (grow_below (w.drewN k) os)
end Go.Proofs.YtnnphhhjkhoglaaGreatDoor
namespace Go.Proofs.YtnnphhhjkhoglaaGreatDoor
open Go.Lib
set_option linter.unusedVariables false
/-! ### A text cut at each byte c -/
def spF (c : UInt8) : List UInt8 → List UInt8 → List (List UInt8)
  | cur, [] => [cur]
  | cur, b :: t => if b = c then cur :: spF c [] t else spF c (cur ++ [b]) t
def spl (c : UInt8) (l : List UInt8) : List (List UInt8) := spF c [] l
theorem spF_no {c : UInt8} : ∀ {a cur : List UInt8}, c ∉ a → spF c cur a = [cur ++ a]
  | [], cur, _ => by rw [spF, List.append_nil]
  | b :: t, cur, h => by
    have h1 : b ≠ c := fun e => h (by rw [e]; simp)
    rw [spF, if_neg h1, spF_no (fun h2 => h (List.mem_cons_of_mem _ h2)), List.append_assoc]
    rfl
theorem spF_hit {c : UInt8} : ∀ {a cur r : List UInt8}, c ∉ a → spF c cur (a ++ c :: r) = (cur ++ a) :: spF c [] r
  | [], cur, r, _ => by rw [List.nil_append, spF, if_pos rfl, List.append_nil]
  | b :: t, cur, r, h => by
    have h1 : b ≠ c := fun e => h (by rw [e]; simp)
    rw [List.cons_append, spF, if_neg h1, spF_hit (fun h2 => h (List.mem_cons_of_mem _ h2)), List.append_assoc]
    rfl
theorem spl_ne {c : UInt8} {l : List UInt8} : ∀ {cur}, spF c cur l ≠ [] := by
  induction l with
  | nil => intro cur; simp [spF]
  | cons b t ih => intro cur; rw [spF]; split
                   · simp
                   · exact ih
theorem occ_one {l : List UInt8} {c : UInt8} {j : Nat} : occAt l [c] j = true ↔ l[j]? = some c := by
  unfold occAt
  rw [show l[j]? = (l.drop j)[0]? by rw [List.getElem?_drop, Nat.add_zero]]
  cases l.drop j with
  | nil => simp
  | cons b t => simp [List.isPrefixOf]; exact eq_comm
theorem splitK_spl (c : UInt8) : ∀ (n : Nat) (l : List UInt8), l.length ≤ n → splitK [c] 0 (count l [c]) l = spl c l := by
  intro n
  induction n with
  | zero =>
    intro l hl
    obtain rfl : l = [] := List.eq_nil_of_length_eq_zero (by omega)
    have h1 : index ([] : List UInt8) [c] = -1 := by rfl
    rw [count_miss h1]
    rfl
  | succ n ih =>
    intro l hl
    rcases index_spec l [c] with ⟨h1, h2⟩ | ⟨i, h1, h2, h3, h4⟩
    · rw [count_miss h1]
      have hno : c ∉ l := fun hm => by
        obtain ⟨j, hj, he⟩ := List.getElem_of_mem hm
        have := h2 j (by omega)
        rw [occ_one.2 (by rw [List.getElem?_eq_getElem hj, he])] at this
        cases this
      unfold spl
      rw [spF_no hno]
      rfl
    · have hc := occ_one.1 h3
      have hi : i < l.length := (List.getElem?_eq_some_iff.1 hc).1
      have hce : l[i] = c := (List.getElem?_eq_some_iff.1 hc).2
      have hno : c ∉ l.take i := fun hm => by
        obtain ⟨j, hj, he⟩ := List.getElem_of_mem hm
        rw [List.length_take] at hj
        rw [List.getElem_take] at he
        have := h4 j (by omega)
        rw [occ_one.2 (by rw [List.getElem?_eq_getElem (by omega), he])] at this
        cases this
      have hsp : l = l.take i ++ c :: l.drop (i + 1) := by
        rw [← hce, ← List.drop_eq_getElem_cons hi, List.take_append_drop]
      rw [count_hit (by simp) h1, show [c].length = 1 from rfl, Nat.add_comm 1, splitK]
      have hne : ¬ (index l [c] == -1) = true := by rw [h1]; first | (simp; done) | (simp; omega)
      rw [if_neg hne, h1, show ((i : Nat) : Int).toNat = i by omega, Nat.add_zero, show [c].length = 1 from rfl, ih _ (by rw [List.length_drop]; omega)]
      conv => rhs; unfold spl; rw [hsp, spF_hit hno]
      rfl
/-! ### Numerals -/
theorem parse_app : ∀ (l r : List UInt8) (acc : Nat), parseUint10 acc (l ++ r) = match parseUint10 acc l with
    | .ok u => parseUint10 u r
    | e => e
  | [], r, acc => rfl
  | c :: t, r, acc => by
    rw [List.cons_append, parseUint10, parseUint10]
    split
    · split
      · rfl
      · split
        · rfl
        · exact parse_app t r _
    · rfl
theorem dg_nat {r : Nat} (h : r < 10) : (UInt8.ofNat (48 + r)).toNat = 48 + r := by
  rw [UInt8.toNat_ofNat']
  omega
theorem dec_mem : ∀ {n : Nat} {b : UInt8}, b ∈ decDigits n → 48 ≤ b.toNat ∧ b.toNat ≤ 57 := by
  intro n
  induction n using Nat.strongRecOn with
  | _ n ih =>
    intro b hb
    rcases Nat.lt_or_ge n 10 with h | h
    · rw [decDigits, dif_pos h] at hb
      have hb := List.mem_singleton.1 hb
      subst hb
      rw [dg_nat h]; omega
    · rw [decDigits, dif_neg (by omega)] at hb
      rcases List.mem_append.1 hb with h1 | h1
      · exact ih (n / 10) (by omega) h1
      · have h1 := List.mem_singleton.1 h1
        subst h1
        rw [dg_nat (show n % 10 < 10 by omega)]; omega
theorem dec_ne (n : Nat) : decDigits n ≠ [] := by
  rw [decDigits]
  split <;> simp
theorem dec_len : ∀ {k n : Nat}, n < 10 ^ (k + 1) → (decDigits n).length ≤ k + 1
  | 0, n, h => by rw [decDigits, dif_pos (by omega)]; simp
  | k + 1, n, h => by
    rcases Nat.lt_or_ge n 10 with h1 | h1
    · rw [decDigits, dif_pos h1]; simp
    · rw [decDigits, dif_neg (by omega), List.length_append]
      have := dec_len (k := k) (n := n / 10) (by rw [Nat.pow_succ] at h; omega)
      simp; omega
theorem parse_dec : ∀ {n : Nat}, n < 1000000000000000 → parseUint10 0 (decDigits n) = .ok n := by
  intro n
  induction n using Nat.strongRecOn with
  | _ n ih =>
    intro hn
    rcases Nat.lt_or_ge n 10 with h | h
    · rw [decDigits, dif_pos h]
      simp only [parseUint10, dg_nat h]
      rw [if_pos (by omega), if_neg (by omega), if_neg (by omega)]
      congr 1
      omega
    · rw [decDigits, dif_neg (by omega), parse_app, ih (n / 10) (by omega) (by omega)]
      simp only [parseUint10, dg_nat (show n % 10 < 10 by omega)]
      rw [if_pos (by omega), if_neg (by omega), if_neg (by omega)]
      congr 1
      omega
theorem atoi_dec {n : Nat} (hn : n < 1000000000000000) : atoiAll (decDigits n) = .ok (n : Int) := by
  have hp : parseMag (decDigits n) = .ok n := by unfold parseMag; rw [if_neg (dec_ne n), parse_dec hn]
  obtain ⟨c, r, hc⟩ : ∃ c r, decDigits n = c :: r := by
    cases h : decDigits n with
    | nil => exact absurd h (dec_ne n)
    | cons c r => exact ⟨c, r, rfl⟩
  have hd := dec_mem (n := n) (b := c) (by rw [hc]; simp)
  rw [hc] at hp ⊢
  simp only [atoiAll]
  rw [if_neg (show ¬ (c.toNat = 43 ∨ c.toNat = 45) by omega), hp]
  simp only
  rw [if_neg (by omega), if_neg (by omega), if_neg (by omega)]
/-- What a text of decimal digits says. -/
def rdV (acc : Nat) : List UInt8 → Option Nat
  | [] => some acc
  | c :: r => if 48 ≤ c.toNat ∧ c.toNat ≤ 57 then rdV (10 * acc + (c.toNat - 48)) r else none
theorem rd_app : ∀ (l r : List UInt8) (acc : Nat), rdV acc (l ++ r) = (rdV acc l).bind (fun u => rdV u r)
  | [], r, acc => rfl
  | c :: t, r, acc => by
    rw [List.cons_append, rdV, rdV]
    split
    · exact rd_app t r _
    · rfl
theorem rd_dec : ∀ {n : Nat}, rdV 0 (decDigits n) = some n := by
  intro n
  induction n using Nat.strongRecOn with
  | _ n ih =>
    rcases Nat.lt_or_ge n 10 with h | h
    · rw [decDigits, dif_pos h]
      simp only [rdV, dg_nat h]
      rw [if_pos (by omega)]
      congr 1
      omega
    · rw [decDigits, dif_neg (by omega), rd_app, ih (n / 10) (by omega)]
      simp only [Option.bind, rdV, dg_nat (show n % 10 < 10 by omega)]
      rw [if_pos (by omega)]
      congr 1
      omega
/-- A number as the program reads it. -/
def piV (l : List UInt8) : Option Int := if l.length ≤ 7 then (match atoiAll l with
    | .ok v => if (-999999 ≤ v ∧ v ≤ 999999) ∧ itoa v = l then some v else none
    | _ => none) else none
theorem pi_dec {n : Nat} (h : n ≤ 999999) : piV (decDigits n) = some (n : Int) := by
  have hl : (decDigits n).length ≤ 6 := dec_len (k := 5) (by omega)
  unfold piV
  rw [if_pos (by omega), atoi_dec (by omega)]
  simp only
  rw [if_pos ⟨by omega, itoa_nonneg n⟩]
/-- A number as the reference reads it. -/
def tlV (l : List UInt8) : List UInt8 := if 1 < l.length ∧ l.head? = some 45 then l.tail else l
def lrV (l : List UInt8) : Option Int := if 1 ≤ (tlV l).length ∧ (tlV l).length ≤ 6 then (match rdV 0 (tlV l) with
    | some u => if itoa (if (tlV l).length < l.length then -(u : Int) else u) = l then some (if (tlV l).length < l.length then -(u : Int) else u) else none
    | none => none) else none
theorem tl_dec (n : Nat) : tlV (decDigits n) = decDigits n := by
  unfold tlV
  rw [if_neg]
  rintro ⟨_, h⟩
  have h1 := List.mem_of_mem_head? h
  have := dec_mem h1
  simp at this
theorem lr_dec {n : Nat} (h : n ≤ 999999) : lrV (decDigits n) = some (n : Int) := by
  have hl : (decDigits n).length ≤ 6 := dec_len (k := 5) (by omega)
  have h1 : 1 ≤ (decDigits n).length := by
    rcases Nat.eq_zero_or_pos (decDigits n).length with h2 | h2
    · exact absurd (List.eq_nil_of_length_eq_zero h2) (dec_ne n)
    · exact h2
  unfold lrV
  rw [tl_dec, if_pos ⟨h1, hl⟩, rd_dec]
  have e : ¬ (decDigits n).length < (decDigits n).length := Nat.lt_irrefl _
  simp only [if_neg e]
  rw [if_pos (itoa_nonneg n)]
end Go.Proofs.YtnnphhhjkhoglaaGreatDoor
namespace Go.Proofs.YtnnphhhjkhoglaaGreatDoor
open Go.RowKit
set_option linter.unusedVariables false
set_option linter.unusedSimpArgs false
theorem dec_sz2 {i : Nat} (h : i ≤ 20) : (dec i).size ≤ 2 := by
  have h1 := dec_len (k := 1) (n := i) (by omega)
  have h2 : (dec i).size = (Go.Lib.decDigits i).length := by unfold dec ByteArray.size; simp
  omega
theorem l1Num_any (i : Nat) (h : i ≤ 20) (w : World) : Calls Tryz.prog 59 #[.int .i64 i] w fun e w' => e = .returned (.string (dec i)) ∧ ∃ m, w' = w.drewN m := l1Num_all i w (by omega)
theorem itoa_sm (i : Nat) (h : i < 100) (w : World) : Calls Tryz.prog 53 #[.int .i64 i] w fun e w' => e = .returned (.string (dec i)) ∧ w' = w := Tryz.strconv_Itoa_small i h w
end Go.Proofs.YtnnphhhjkhoglaaGreatDoor
namespace Go.Proofs.YtnnphhhjkhoglaaGreatDoor
set_option linter.unusedVariables false
def colB : ByteArray := ⟨#[58]⟩
def spB : ByteArray := ⟨#[32]⟩
def atB : ByteArray := ⟨#[32, 97, 116, 32]⟩
def joinB (ws : List ByteArray) : ByteArray := ⟨(Go.Lib.join (ws.map (·.data.toList)) [32]).toArray⟩
/-- The words of a line, each behind a space, a colon ahead of the first one. -/
def wlF (ws : List ByteArray) : Nat → ByteArray
  | 0 => ByteArray.empty
  | k + 1 => wlF ws k ++ (if k = 0 then colB else ByteArray.empty) ++ spB ++ ws.getD k ByteArray.empty
theorem bytes_ext {a b : ByteArray} (h : a.data.toList = b.data.toList) : a = b := ByteArray.ext (Array.ext' h)
theorem wlF_list (ws : List ByteArray) : ∀ k, k ≤ ws.length → (wlF ws k).data.toList = if k = 0 then [] else 58 :: ((ws.take k).map (fun w => 32 :: w.data.toList)).flatten
  | 0, _ => by simp [wlF]
  | k + 1, h => by
    have ih := wlF_list ws k (by omega)
    have e1 : (ws.take (k + 1)) = ws.take k ++ [ws.getD k ByteArray.empty] := by
      rw [List.take_add_one, List.getD_eq_getElem?_getD, List.getElem?_eq_getElem (show k < ws.length by omega)]; rfl
    have e2 : ∀ X : List UInt8, (if k + 1 = 0 then [] else X) = X := fun X => if_neg (by omega)
    rw [e2, e1, List.map_append, List.flatten_append, wlF]
    simp only [ByteArray.data_append, Array.toList_append]
    rw [ih]
    by_cases hk : k = 0
    · subst hk
      simp only [if_pos, List.take_zero, List.map_nil, List.flatten_nil, List.nil_append, List.map_cons, List.flatten_cons, List.append_nil]
      rfl
    · rw [if_neg hk, if_neg hk]
      simp only [List.map_cons, List.map_nil, List.flatten_cons, List.flatten_nil, List.append_nil, List.cons_append]
      show _ :: (_ ++ [] ++ [32] ++ _) = _
      simp
theorem wl_join {ws : List ByteArray} (h : 0 < ws.length) : wlF ws ws.length = (⟨#[58, 32]⟩ : ByteArray) ++ joinB ws := by
  apply bytes_ext
  rw [wlF_list ws ws.length (Nat.le_refl _), if_neg (by omega), List.take_length]
  cases ws with
  | nil => simp at h
  | cons x r =>
    simp only [ByteArray.data_append, Array.toList_append, joinB, List.map_cons]
    rw [Go.Lib.join_cons]
    simp [Go.Lib.joinTail]
    rfl
theorem join_size {ws : List ByteArray} (hw : ws.length ≤ 5) (h : ∀ w ∈ ws, w.size ≤ 10) : (joinB ws).size ≤ 60 := by
  have h1 : ∀ (ws : List ByteArray), (∀ w ∈ ws, w.size ≤ 10) → (Go.Lib.joinTail [32] (ws.map (·.data.toList))).length ≤ 11 * ws.length := by
    intro ws
    induction ws with
    | nil => intro _; simp [Go.Lib.joinTail]
    | cons x r ih =>
      intro hw
      have h2 := ih fun w hw2 => hw w (List.mem_cons_of_mem _ hw2)
      have h3 := hw x List.mem_cons_self
      have h4 : x.data.toList.length = x.size := Array.length_toList
      simp only [Go.Lib.joinTail, List.map_cons, List.flatten_cons, List.length_append] at h2 ⊢
      simp only [List.length_cons, List.length_nil] at h2 ⊢
      omega
  cases ws with
  | nil => exact Nat.zero_le _
  | cons x r =>
    have h2 := h1 r fun w hw2 => h w (List.mem_cons_of_mem _ hw2)
    have h3 := h x List.mem_cons_self
    have h4 : x.data.toList.length = x.size := Array.length_toList
    have h5 : (joinB (x :: r)).size = (x.data.toList ++ Go.Lib.joinTail [32] (r.map (·.data.toList))).length := by
      unfold joinB ByteArray.size
      rw [List.map_cons, Go.Lib.join_cons]
      simp
    rw [h5, List.length_append]
    simp only [List.length_cons] at hw
    omega
/-- What a line begins with. -/
def headS (k : Int) (n : Nat) : ByteArray := if k = 1 then ⟨#[105, 110, 115, 101, 114, 116]⟩ else if k = 2 then (⟨#[115, 116, 114, 105, 107, 101, 32]⟩ : ByteArray) ++ dec n else (⟨#[114, 101, 112, 108, 97, 99, 101, 32]⟩ : ByteArray) ++ dec n
def preS (a : Amd) : ByteArray := headS a.k a.n.toNat ++ atB ++ dec a.p.toNat
def aline (a : Amd) : ByteArray := preS a ++ wlF a.ws a.ws.length
def alS (a : Amd) : ByteArray := if vldA a = true then aline a else ByteArray.empty
theorem words_of {ss : List ByteArray} {lo hi : Int} (h : wordsB ss lo hi = true) : lo ≤ ss.length ∧ (ss.length : Int) ≤ hi ∧ ∀ w ∈ ss, w.size ≤ 10 := by
  unfold wordsB at h
  rw [Bool.and_eq_true, List.all_eq_true] at h
  have h1 := inB_iff.1 h.1
  refine ⟨h1.1, h1.2, fun w hw => ?_⟩
  have h2 := h.2 w hw
  unfold wordB at h2
  rw [Bool.and_eq_true] at h2
  have := inB_iff.1 h2.2
  omega
theorem vldA_parts {a : Amd} (h : vldA a = true) : 0 ≤ a.p ∧ a.p ≤ 20 ∧ ((a.k = 1 ∧ a.n = 0 ∧ 1 ≤ a.ws.length) ∨ (a.k = 2 ∧ 1 ≤ a.n ∧ a.n ≤ 5 ∧ a.ws.length = 0) ∨ (a.k = 3 ∧ 1 ≤ a.n ∧ a.n ≤ 5 ∧ 1 ≤ a.ws.length)) ∧ a.ws.length ≤ 5 ∧ ∀ w ∈ a.ws, w.size ≤ 10 := by
  unfold vldA at h
  rw [Bool.and_eq_true] at h
  have hp := inB_iff.1 h.1
  have h := h.2
  by_cases k1 : a.k = 1
  · rw [if_pos k1, Bool.and_eq_true] at h
    obtain ⟨w1, w2, w3⟩ := words_of h.2
    exact ⟨hp.1, hp.2, .inl ⟨k1, by simpa using h.1, by omega⟩, by omega, w3⟩
  · rw [if_neg k1] at h
    by_cases k2 : a.k = 2
    · rw [if_pos k2, Bool.and_eq_true] at h
      have hn := inB_iff.1 h.1
      have hl : a.ws.length = 0 := by have := h.2; simp at this; simp [this]
      exact ⟨hp.1, hp.2, .inr (.inl ⟨k2, hn.1, hn.2, hl⟩), by omega, fun w hw => by rw [List.eq_nil_of_length_eq_zero hl] at hw; cases hw⟩
    · rw [if_neg k2] at h
      by_cases k3 : a.k = 3
      · rw [if_pos k3, Bool.and_eq_true] at h
        have hn := inB_iff.1 h.1
        obtain ⟨w1, w2, w3⟩ := words_of h.2
        exact ⟨hp.1, hp.2, .inr (.inr ⟨k3, hn.1, hn.2, by omega⟩), by omega, w3⟩
      · rw [if_neg k3] at h; cases h
end Go.Proofs.YtnnphhhjkhoglaaGreatDoor
namespace Go.Proofs.YtnnphhhjkhoglaaGreatDoor
open Go.RowKit
set_option linter.unusedVariables false
/-- Strings as elements. -/
def StrK : Kd ByteArray := ⟨1, fun s => [.string s], fun _ => rfl, fun s => s.size ≤ maxLen⟩
theorem strK_row (xs : List ByteArray) : StrK.row xs = xs.map Value.string := by
  induction xs with
  | nil => rfl
  | cons x xs ih => show [Value.string x] ++ StrK.row xs = _; rw [ih]; rfl
theorem str_at {w : World} {A : Option Addr} {xs : List ByteArray} (h : Cells w A (StrK.row xs)) {i : Nat} (hi : i < xs.length) : ∃ ad, A = some ad ∧ w.cell? (ad.add i) = some (.string xs[i]) :=
  h i _ (by rw [strK_row, List.getElem?_map, List.getElem?_eq_getElem hi]; rfl)
theorem row_strs (xs : List ByteArray) : StrK.row xs = strs xs := strK_row xs
end Go.Proofs.YtnnphhhjkhoglaaGreatDoor
namespace Go.Proofs.YtnnphhhjkhoglaaGreatDoor
open Go.Lib
set_option linter.unusedVariables false
def txL (y n a : Nat) : List UInt8 := decDigits y ++ [32, 121, 101, 115, 44, 32] ++ decDigits n ++ [32, 110, 111] ++ (if 0 < a then [44, 32] ++ decDigits a ++ [32, 97, 98, 115, 116, 97, 105, 110] else [])
theorem no32 (n : Nat) : (32 : UInt8) ∉ decDigits n := fun h => by
  have := dec_mem h
  simp at this
theorem spl_tx0 (y n : Nat) : spl 32 (txL y n 0) = [decDigits y, [121, 101, 115, 44], decDigits n, [110, 111]] := by
  have e : txL y n 0 = decDigits y ++ 32 :: ([121, 101, 115, 44] ++ 32 :: (decDigits n ++ 32 :: [110, 111])) := by
    unfold txL
    rw [if_neg (by omega)]
    simp [List.append_assoc]
  unfold spl
  rw [e, spF_hit (no32 y), spF_hit (by decide), spF_hit (no32 n), spF_no (by decide)]
  rfl
theorem spl_tx1 (y n a : Nat) (h : 0 < a) : spl 32 (txL y n a) = [decDigits y, [121, 101, 115, 44], decDigits n, [110, 111, 44], decDigits a, [97, 98, 115, 116, 97, 105, 110]] := by
  have e : txL y n a = decDigits y ++ 32 :: ([121, 101, 115, 44] ++ 32 :: (decDigits n ++ 32 :: ([110, 111, 44] ++ 32 :: (decDigits a ++ 32 :: [97, 98, 115, 116, 97, 105, 110])))) := by
    unfold txL
    rw [if_pos h]
    simp [List.append_assoc]
  unfold spl
  rw [e, spF_hit (no32 y), spF_hit (by decide), spF_hit (no32 n), spF_hit (by decide), spF_hit (no32 a), spF_no (by decide)]
  rfl
theorem tx_len {y n a : Nat} (hy : y ≤ 1000) (hn : n ≤ 1000) (ha : a ≤ 1000) : (txL y n a).length ≤ 50 := by
  have h1 : (decDigits y).length ≤ 4 := dec_len (k := 3) (by omega)
  have h2 : (decDigits n).length ≤ 4 := dec_len (k := 3) (by omega)
  have h3 : (decDigits a).length ≤ 4 := dec_len (k := 3) (by omega)
  unfold txL
  split <;> simp <;> omega
def vl3 (y n a : Int) : Bool := (decide (0 ≤ y ∧ y ≤ 1000) && decide (0 ≤ n ∧ n ≤ 1000)) && decide (0 ≤ a ∧ a ≤ 1000)
theorem vl3_iff {y n a : Int} : vl3 y n a = true ↔ 0 ≤ y ∧ y ≤ 1000 ∧ 0 ≤ n ∧ n ≤ 1000 ∧ 0 ≤ a ∧ a ≤ 1000 := by
  unfold vl3
  simp only [Bool.and_eq_true, decide_eq_true_eq]
  omega
def finT (l : List UInt8) : Option Int → Option Int → Option Int → Option (Int × Int × Int)
  | some y, some n, some a => if vl3 y n a = true ∧ txL y.toNat n.toNat a.toNat = l then some (y, n, a) else none
  | _, _, _ => none
theorem fin_yes {y n a : Nat} (hy : y ≤ 1000) (hn : n ≤ 1000) (ha : a ≤ 1000) : finT (txL y n a) (some (y : Int)) (some (n : Int)) (some (a : Int)) = some ((y : Int), (n : Int), (a : Int)) := by
  show (if _ then _ else _) = _
  rw [if_pos ⟨vl3_iff.2 ⟨by omega, by omega, by omega, by omega, by omega, by omega⟩, rfl⟩]
theorem fin_no {l : List UInt8} (h : ¬ ∃ y n a : Nat, y ≤ 1000 ∧ n ≤ 1000 ∧ a ≤ 1000 ∧ txL y n a = l) (y n a : Option Int) : finT l y n a = none := by
  cases y with
  | none => rfl
  | some y =>
    cases n with
    | none => rfl
    | some n =>
      cases a with
      | none => rfl
      | some a =>
        show (if _ then _ else _) = _
        rw [if_neg]
        rintro ⟨h1, h2⟩
        obtain ⟨a1, a2, a3, a4, a5, a6⟩ := vl3_iff.1 h1
        exact h ⟨y.toNat, n.toNat, a.toNat, by omega, by omega, by omega, h2⟩
def wsI (l : List UInt8) : List (List UInt8) := if (spl 32 l).length = 4 then spl 32 l ++ [[48]] else spl 32 l
def ptI (l : List UInt8) : Option (Int × Int × Int) := if (wsI l).length < 5 then none else finT l (piV ((wsI l).getD 0 [])) (piV ((wsI l).getD 2 [])) (piV ((wsI l).getD 4 []))
def ptS (l : List UInt8) : Option (Int × Int × Int) := if 50 < l.length ∨ ((spl 32 l).length ≠ 4 ∧ (spl 32 l).length ≠ 6) then none else finT l (lrV ((spl 32 l).getD 0 [])) (lrV ((spl 32 l).getD 2 [])) (if (spl 32 l).length = 6 then lrV ((spl 32 l).getD 4 []) else some 0)
theorem pi_zero : piV [48] = some 0 := by
  have h := pi_dec (n := 0) (by omega)
  rw [decDigits, dif_pos (by omega)] at h
  exact h
theorem pt_yes {y n a : Nat} (hy : y ≤ 1000) (hn : n ≤ 1000) (ha : a ≤ 1000) : ptI (txL y n a) = some ((y : Int), (n : Int), (a : Int)) ∧ ptS (txL y n a) = some ((y : Int), (n : Int), (a : Int)) := by
  have hl := tx_len hy hn ha
  have hl2 : ¬ 50 < (txL y n a).length := by omega
  rcases Nat.eq_zero_or_pos a with h0 | h0
  · subst h0
    have hw : wsI (txL y n 0) = [decDigits y, [121, 101, 115, 44], decDigits n, [110, 111], [48]] := by
      unfold wsI
      rw [spl_tx0]
      rfl
    refine ⟨?_, ?_⟩
    · unfold ptI
      rw [hw, if_neg (by simp)]
      show finT _ (piV (decDigits y)) (piV (decDigits n)) (piV [48]) = _
      rw [pi_dec (by omega), pi_dec (by omega), pi_zero]
      exact fin_yes hy hn ha
    · unfold ptS
      rw [spl_tx0, if_neg (by simp; omega), if_neg (by simp)]
      show finT _ (lrV (decDigits y)) (lrV (decDigits n)) (some 0) = _
      rw [lr_dec (by omega), lr_dec (by omega)]
      exact fin_yes hy hn ha
  · have hw : wsI (txL y n a) = [decDigits y, [121, 101, 115, 44], decDigits n, [110, 111, 44], decDigits a, [97, 98, 115, 116, 97, 105, 110]] := by
      unfold wsI
      rw [spl_tx1 y n a h0]
      rfl
    refine ⟨?_, ?_⟩
    · unfold ptI
      rw [hw, if_neg (by simp)]
      show finT _ (piV (decDigits y)) (piV (decDigits n)) (piV (decDigits a)) = _
      rw [pi_dec (by omega), pi_dec (by omega), pi_dec (by omega)]
      exact fin_yes hy hn ha
    · unfold ptS
      rw [spl_tx1 y n a h0, if_neg (by simp; omega), if_pos (by simp)]
      show finT _ (lrV (decDigits y)) (lrV (decDigits n)) (lrV (decDigits a)) = _
      rw [lr_dec (by omega), lr_dec (by omega), lr_dec (by omega)]
      exact fin_yes hy hn ha
/-- Both ways of reading agree. -/
theorem pt_same (l : List UInt8) : ptI l = ptS l := by
  by_cases h : ∃ y n a : Nat, y ≤ 1000 ∧ n ≤ 1000 ∧ a ≤ 1000 ∧ txL y n a = l
  · obtain ⟨y, n, a, hy, hn, ha, rfl⟩ := h
    rw [(pt_yes hy hn ha).1, (pt_yes hy hn ha).2]
  · unfold ptI ptS
    rw [fin_no h, fin_no h]
    simp
/-- What is read has the text that was read. -/
theorem pt_text {l : List UInt8} {t : Int × Int × Int} (h : ptI l = some t) : vl3 t.1 t.2.1 t.2.2 = true ∧ txL t.1.toNat t.2.1.toNat t.2.2.toNat = l := by
  by_cases c : ∃ y n a : Nat, y ≤ 1000 ∧ n ≤ 1000 ∧ a ≤ 1000 ∧ txL y n a = l
  · obtain ⟨y, n, a, hy, hn, ha, rfl⟩ := c
    rw [(pt_yes hy hn ha).1] at h
    injection h with h
    subst h
    exact ⟨vl3_iff.2 (by show 0 ≤ (y : Int) ∧ (y : Int) ≤ 1000 ∧ 0 ≤ (n : Int) ∧ (n : Int) ≤ 1000 ∧ 0 ≤ (a : Int) ∧ (a : Int) ≤ 1000; omega), rfl⟩
  · unfold ptI at h
    rw [fin_no c] at h
    simp at h
end Go.Proofs.YtnnphhhjkhoglaaGreatDoor
namespace Go.Proofs.YtnnphhhjkhoglaaGreatDoor
open Go.RowKit
set_option linter.unusedVariables false
set_option linter.unusedSimpArgs false
theorem elS : ElT Tryz.prog 24 9 1 16 := ElT.mk' Tryz.underlying24 infoStr rfl (by omega) (by omega)
theorem oneS {xs : List ByteArray} : ∀ u ∈ StrK.row xs, u.oneCell' = true := fun u hu => by
  rw [strK_row] at hu
  obtain ⟨s, _, rfl⟩ := List.mem_map.1 hu
  rfl
theorem cellS1 (w : World) (v : Value) (t : TypeId) (g : Nat) (hg : g = w.heap.size) : Cells (w.alloc (.cells #[v] t)) (some ⟨g, 0, none⟩) [v] := fun i u hi => by
  subst hg
  cases i with
  | zero =>
    simp only [List.getElem?_cons_zero, Option.some.injEq] at hi
    subst hi
    exact ⟨_, rfl, World.cell?_alloc_new w #[v] t 0⟩
  | succ i => simp at hi
def bar (l : List UInt8) : ByteArray := ⟨l.toArray⟩
/-- The pieces of a text. -/
def pcs (c : UInt8) (s : ByteArray) : List ByteArray := (spl c s.data.toList).map bar
def sub (l : List UInt8) (f i : Nat) : List UInt8 := (l.drop f).take (i - f)
theorem sub_bar (s : ByteArray) (f i : Nat) : s.extract f i = bar (sub s.data.toList f i) := by
  unfold bar sub
  apply ByteArray.ext
  rw [ByteArray.data_extract]
  apply Array.ext'
  simp
theorem sub_self (l : List UInt8) (i : Nat) : sub l i i = [] := by unfold sub; simp
theorem sub_step {l : List UInt8} {f i : Nat} (h : f ≤ i) (hi : i < l.length) : sub l f (i + 1) = sub l f i ++ [l[i]] := by
  unfold sub
  rw [show i + 1 - f = (i - f) + 1 by omega, List.take_add_one, List.getElem?_drop, show f + (i - f) = i by omega, List.getElem?_eq_getElem hi]
  rfl
theorem cut_hit {c : UInt8} {l : List UInt8} {ws : List (List UInt8)} {f i : Nat} (hi : i < l.length) (he : l[i] = c) (h : spl c l = ws ++ spF c (sub l f i) (l.drop i)) : spl c l = (ws ++ [sub l f i]) ++ spF c (sub l (i + 1) (i + 1)) (l.drop (i + 1)) := by
  rw [h, List.drop_eq_getElem_cons hi, spF, if_pos he, sub_self, List.append_assoc]
  rfl
theorem cut_miss {c : UInt8} {l : List UInt8} {ws : List (List UInt8)} {f i : Nat} (hf : f ≤ i) (hi : i < l.length) (he : l[i] ≠ c) (h : spl c l = ws ++ spF c (sub l f i) (l.drop i)) : spl c l = ws ++ spF c (sub l f (i + 1)) (l.drop (i + 1)) := by
  rw [h, List.drop_eq_getElem_cons hi, spF, if_neg he, sub_step hf hi]
theorem cut_end {c : UInt8} {l : List UInt8} {ws : List (List UInt8)} {f : Nat} (h : spl c l = ws ++ spF c (sub l f l.length) (l.drop l.length)) : spl c l = ws ++ [sub l f l.length] := by
  rw [h, List.drop_length]
  rfl
theorem spl_len (c : UInt8) : ∀ (l cur : List UInt8), (spF c cur l).length ≤ l.length + 1
  | [], cur => by simp [spF]
  | b :: t, cur => by
    rw [spF]
    split
    · have := spl_len c t []; simp; omega
    · have := spl_len c t (cur ++ [b]); simp; omega
/-- The pieces, as a call hands them back. -/
def Pcs (w : World) (ps : List ByteArray) : Ending → World → Prop := fun e w' => ∃ (O : Option Addr) (oc : Nat), e = .returned (.slice O ps.length oc) ∧ w'.ownsRow w.heap.size 9 1 (.slice O ps.length oc) ps.length (StrK.row ps) ∧ Below w.heap.size w w'
end Go.Proofs.YtnnphhhjkhoglaaGreatDoor
namespace Go.Proofs.YtnnphhhjkhoglaaGreatDoor
open Go.Lib
set_option linter.unusedVariables false
theorem index2 (r : List UInt8) : ∀ {h : List UInt8}, (58 : UInt8) ∉ h → index (h ++ 58 :: 32 :: r) [58, 32] = (h.length : Int)
  | [], _ => by rw [List.nil_append]; unfold index; simp [List.isPrefixOf]
  | b :: t, hn => by
    have h1 : ¬ b = 58 := fun e => hn (by rw [e]; simp)
    have ih := index2 r (h := t) (fun h2 => hn (List.mem_cons_of_mem _ h2))
    have h3 : List.isPrefixOf [58, 32] (b :: (t ++ 58 :: 32 :: r)) = false := by simp [List.isPrefixOf]; intro e; exact absurd e.symm h1
    have h4 : ((t.length : Int) == -1) = false := by rw [beq_eq_false_iff_ne]; omega
    rw [List.cons_append]
    unfold index
    rw [h3, ih, h4]
    simp
theorem index0 (c : UInt8) (sub : List UInt8) : ∀ {h : List UInt8}, c ∉ h → index h (c :: sub) = -1
  | [], _ => rfl
  | b :: t, hn => by
    have h1 : ¬ b = c := fun e => hn (by rw [e]; simp)
    have ih := index0 c sub (h := t) (fun h2 => hn (List.mem_cons_of_mem _ h2))
    have h3 : List.isPrefixOf (c :: sub) (b :: t) = false := by simp [List.isPrefixOf]; intro e; exact absurd e.symm h1
    unfold index
    rw [h3, ih]
    rfl
theorem index1 (c : UInt8) (r : List UInt8) : ∀ {h : List UInt8}, c ∉ h → index (h ++ c :: r) [c] = (h.length : Int)
  | [], _ => by rw [List.nil_append]; unfold index; simp [List.isPrefixOf]
  | b :: t, hn => by
    have h1 : ¬ b = c := fun e => hn (by rw [e]; simp)
    have ih := index1 c r (h := t) (fun h2 => hn (List.mem_cons_of_mem _ h2))
    have h3 : List.isPrefixOf [c] (b :: (t ++ c :: r)) = false := by simp [List.isPrefixOf]; intro e; exact absurd e.symm h1
    have h4 : ((t.length : Int) == -1) = false := by rw [beq_eq_false_iff_ne]; omega
    rw [List.cons_append]
    unfold index
    rw [h3, ih, h4]
    simp
theorem cut2 {h r : List UInt8} (hn : (58 : UInt8) ∉ h) : cut (h ++ 58 :: 32 :: r) [58, 32] = (h, r, true) := by
  unfold cut
  rw [index2 r hn, if_pos (by omega), show ((h.length : Nat) : Int).toNat = h.length by omega]
  simp
theorem cut0 {c : UInt8} {sub h : List UInt8} (hn : c ∉ h) : cut h (c :: sub) = (h, [], false) := by
  unfold cut
  rw [index0 c sub hn, if_neg (by omega)]
theorem cut1 {c : UInt8} {h r : List UInt8} (hn : c ∉ h) : cut (h ++ c :: r) [c] = (h, r, true) := by
  unfold cut
  rw [index1 c r hn, if_pos (by omega), show ((h.length : Nat) : Int).toNat = h.length by omega]
  simp
theorem first_of {c : UInt8} {l : List UInt8} (h : c ∈ l) : ∃ a r, l = a ++ c :: r ∧ c ∉ a := by
  obtain ⟨a, r, e, hn⟩ := List.eq_append_cons_of_mem h
  exact ⟨a, r, e, hn⟩
theorem join_no {x : List UInt8} {r : List (List UInt8)} (h : (32 : UInt8) ∉ x) (hr : ∀ y ∈ r, (32 : UInt8) ∉ y) : spl 32 (x ++ joinTail [32] r) = x :: r := by
  induction r generalizing x with
  | nil =>
    unfold spl joinTail
    rw [List.map_nil, List.flatten_nil, List.append_nil, spF_no h]
    rfl
  | cons y r ih =>
    have h1 := ih (hr y List.mem_cons_self) (fun z hz => hr z (List.mem_cons_of_mem _ hz))
    have e : x ++ joinTail [32] (y :: r) = x ++ 32 :: (y ++ joinTail [32] r) := by
      unfold joinTail
      rw [List.map_cons, List.flatten_cons]
      simp
    unfold spl at h1 ⊢
    rw [e, spF_hit h, h1]
    rfl
theorem spl_count (c : UInt8) : ∀ (n : Nat) (l : List UInt8), l.length ≤ n → (spl c l).length = count l [c] + 1 := by
  intro n
  induction n with
  | zero =>
    intro l hl
    obtain rfl : l = [] := List.eq_nil_of_length_eq_zero (by omega)
    rfl
  | succ n ih =>
    intro l hl
    by_cases hm : c ∈ l
    · obtain ⟨a, r, rfl, hn⟩ := first_of hm
      rw [List.length_append, List.length_cons] at hl
      have h1 := ih r (by omega)
      have h2 := count_hit (s := a ++ c :: r) (sub := [c]) (by simp) (index1 c r hn)
      rw [h2]
      unfold spl at h1 ⊢
      rw [spF_hit hn, List.length_cons, h1]
      simp
      omega
    · rw [count_miss (index0 c [] hm)]
      unfold spl
      rw [spF_no hm]
      rfl
end Go.Proofs.YtnnphhhjkhoglaaGreatDoor
namespace Go.Proofs.YtnnphhhjkhoglaaGreatDoor
open Go.Lib
set_option linter.unusedVariables false
def alL (a : Amd) : List UInt8 := (aline a).data.toList
def insL : List UInt8 := [105, 110, 115, 101, 114, 116]
def stkL : List UInt8 := [115, 116, 114, 105, 107, 101]
def repL : List UInt8 := [114, 101, 112, 108, 97, 99, 101]
def atL : List UInt8 := [97, 116]
/-- The words ahead of the colon. -/
def hdW (a : Amd) : List (List UInt8) := if a.k = 1 then [insL, atL, decDigits a.p.toNat] else if a.k = 2 then [stkL, decDigits a.n.toNat, atL, decDigits a.p.toNat] else [repL, decDigits a.n.toNat, atL, decDigits a.p.toNat]
theorem no_dec {b : UInt8} (n : Nat) (h : b.toNat < 48 ∨ 57 < b.toNat) : b ∉ decDigits n := fun hb => by
  have := dec_mem hb
  omega
theorem dec_list (n : Nat) : (dec n).data.toList = decDigits n := by unfold dec; simp
theorem hd_spl (a : Amd) (hk : a.k = 1 ∨ a.k = 2 ∨ a.k = 3) : spl 32 (preS a).data.toList = hdW a ∧ (58 : UInt8) ∉ (preS a).data.toList ∧ (preS a).data.toList.length ≤ 12 + (decDigits a.n.toNat).length + (decDigits a.p.toNat).length := by
  have n1 := no_dec (b := 32) a.n.toNat (by decide)
  have n2 := no_dec (b := 32) a.p.toNat (by decide)
  have c1 := no_dec (b := 58) a.n.toNat (by decide)
  have c2 := no_dec (b := 58) a.p.toNat (by decide)
  unfold preS headS hdW
  rcases hk with h | h | h
  · rw [if_pos h, if_pos h]
    have e : ((⟨#[105, 110, 115, 101, 114, 116]⟩ : ByteArray) ++ atB ++ dec a.p.toNat).data.toList = insL ++ 32 :: (atL ++ 32 :: decDigits a.p.toNat) := by
      rw [ByteArray.data_append, ByteArray.data_append, Array.toList_append, Array.toList_append, dec_list]
      simp [atB, insL, atL]
    rw [e]
    refine ⟨?_, ?_, ?_⟩
    · unfold spl; rw [spF_hit (by decide), spF_hit (by decide), spF_no n2]; rfl
    · simp [insL, atL, c2]
    · simp [insL, atL]; omega
  · have h1 : ¬ a.k = 1 := by omega
    rw [if_neg h1, if_neg h1, if_pos h, if_pos h]
    have e : ((⟨#[115, 116, 114, 105, 107, 101, 32]⟩ : ByteArray) ++ dec a.n.toNat ++ atB ++ dec a.p.toNat).data.toList = stkL ++ 32 :: (decDigits a.n.toNat ++ 32 :: (atL ++ 32 :: decDigits a.p.toNat)) := by
      rw [ByteArray.data_append, ByteArray.data_append, ByteArray.data_append, Array.toList_append, Array.toList_append, Array.toList_append, dec_list, dec_list]
      simp [atB, stkL, atL]
    rw [e]
    refine ⟨?_, ?_, ?_⟩
    · unfold spl; rw [spF_hit (by decide), spF_hit n1, spF_hit (by decide), spF_no n2]; rfl
    · simp [stkL, atL, c1, c2]
    · simp [stkL, atL]; omega
  · have h1 : ¬ a.k = 1 := by omega
    have h2 : ¬ a.k = 2 := by omega
    rw [if_neg h1, if_neg h1, if_neg h2, if_neg h2]
    have e : ((⟨#[114, 101, 112, 108, 97, 99, 101, 32]⟩ : ByteArray) ++ dec a.n.toNat ++ atB ++ dec a.p.toNat).data.toList = repL ++ 32 :: (decDigits a.n.toNat ++ 32 :: (atL ++ 32 :: decDigits a.p.toNat)) := by
      rw [ByteArray.data_append, ByteArray.data_append, ByteArray.data_append, Array.toList_append, Array.toList_append, Array.toList_append, dec_list, dec_list]
      simp [atB, repL, atL]
    rw [e]
    refine ⟨?_, ?_, ?_⟩
    · unfold spl; rw [spF_hit (by decide), spF_hit n1, spF_hit (by decide), spF_no n2]; rfl
    · simp [repL, atL, c1, c2]
    · simp [repL, atL]; omega
theorem al_none {a : Amd} (h : a.ws = []) : alL a = (preS a).data.toList := by
  unfold alL aline
  rw [h, ByteArray.data_append, Array.toList_append]
  simp [wlF]
theorem al_some {a : Amd} (h : 0 < a.ws.length) : alL a = (preS a).data.toList ++ 58 :: 32 :: (joinB a.ws).data.toList := by
  unfold alL aline
  rw [wl_join h, ByteArray.data_append, ByteArray.data_append, Array.toList_append, Array.toList_append]
  rfl
theorem word_mem {s : ByteArray} (h : wordB s = true) {b : UInt8} (hb : b ∈ s.data.toList) : 97 ≤ b.toNat := by
  unfold wordB lettersB at h
  rw [Bool.and_eq_true, List.all_eq_true] at h
  have := h.1 b hb
  unfold letterB at this
  simp only [Bool.and_eq_true, decide_eq_true_eq] at this
  exact this.1
theorem vld_words {a : Amd} (h : vldA a = true) : ∀ s ∈ a.ws, wordB s = true := by
  rw [← vldA2_eq] at h
  unfold vldA2 at h
  rw [Bool.and_eq_true, Bool.and_eq_true] at h
  have h1 := h.1.2
  unfold wordsB at h1
  rw [Bool.and_eq_true, List.all_eq_true] at h1
  exact h1.2
theorem join_spl {a : Amd} (h : vldA a = true) (h0 : 0 < a.ws.length) : spl 32 (joinB a.ws).data.toList = a.ws.map (·.data.toList) ∧ (58 : UInt8) ∉ (joinB a.ws).data.toList := by
  have hw := vld_words h
  have hn : ∀ s ∈ a.ws, (32 : UInt8) ∉ s.data.toList := fun s hs hb => by have := word_mem (hw s hs) hb; simp at this
  have hc : ∀ s ∈ a.ws, (58 : UInt8) ∉ s.data.toList := fun s hs hb => by have := word_mem (hw s hs) hb; simp at this
  cases e : a.ws with
  | nil => rw [e] at h0; simp at h0
  | cons x r =>
    rw [e] at hn hc
    have ej : (joinB (x :: r)).data.toList = x.data.toList ++ joinTail [32] (r.map (·.data.toList)) := by
      unfold joinB
      rw [List.map_cons, join_cons]
    rw [ej]
    refine ⟨?_, ?_⟩
    · rw [join_no (hn x List.mem_cons_self) (fun y hy => by
        obtain ⟨s, hs, rfl⟩ := List.mem_map.1 hy
        exact hn s (List.mem_cons_of_mem _ hs))]
      rfl
    · intro hm
      rcases List.mem_append.1 hm with hm | hm
      · exact hc x List.mem_cons_self hm
      · unfold joinTail at hm
        rw [List.mem_flatten] at hm
        obtain ⟨l, hl, hb⟩ := hm
        obtain ⟨y, hy, rfl⟩ := List.mem_map.1 hl
        obtain ⟨s, hs, rfl⟩ := List.mem_map.1 hy
        rcases List.mem_append.1 hb with hb | hb
        · simp at hb
        · exact hc s (List.mem_cons_of_mem _ hs) hb
theorem bars (ws : List ByteArray) : (ws.map (·.data.toList)).map bar = ws := by
  rw [List.map_map]
  refine (List.map_congr_left fun s _ => ?_).trans (List.map_id _)
  show bar s.data.toList = s
  unfold bar
  simp
/-! ### Both ways of reading -/
def kdI (x : List UInt8) : Int := if x = [] then 0 else if x = insL then 1 else if x = stkL then 2 else if x = repL then 3 else -1
def kdS (n : Int) (ws : List ByteArray) : Int := if n = 0 then 1 else if ws.length = 0 then 2 else 3
def finA (l : List UInt8) (f : Int → Int → Amd) : Option Int → Option Int → Option Amd
  | some p, some n => if vldA (f p n) = true ∧ alL (f p n) = l then some (f p n) else none
  | _, _ => none
def wdI (l : List UInt8) : List (List UInt8) := spl 32 (cut l [58, 32]).1
def phI (l : List UInt8) : List ByteArray := if (cut l [58, 32]).2.2 = true then (spl 32 (cut l [58, 32]).2.1).map bar else []
def mkIA (l : List UInt8) (p n : Int) : Amd := ⟨kdI ((wdI l).getD 0 []), p, n, phI l⟩
def amI (l : List UInt8) : Option Amd := finA l (mkIA l) (piV ((wdI l).getD ((wdI l).length - 1) [])) (if (wdI l).length = 4 then piV ((wdI l).getD 1 []) else some 0)
def hvS (l : List UInt8) : List (List UInt8) := spl 58 l
def wdS (l : List UInt8) : List (List UInt8) := spl 32 ((hvS l).getD 0 [])
def phS (l : List UInt8) : List ByteArray := if (hvS l).length = 2 then ((spl 32 ((hvS l).getD 1 [])).drop 1).map bar else []
def mkSA (l : List UInt8) (p n : Int) : Amd := ⟨kdS n (phS l), p, n, phS l⟩
def amS (l : List UInt8) : Option Amd := if 100 < l.length ∨ 2 < (hvS l).length ∨ ((wdS l).length ≠ 3 ∧ (wdS l).length ≠ 4) then none else finA l (mkSA l) (lrV ((wdS l).getD ((wdS l).length - 1) [])) (if (wdS l).length = 4 then lrV ((wdS l).getD 1 []) else some 0)
theorem finA_no {l : List UInt8} (h : ¬ ∃ a : Amd, vldA a = true ∧ alL a = l) (f : Int → Int → Amd) (p n : Option Int) : finA l f p n = none := by
  cases p with
  | none => rfl
  | some p =>
    cases n with
    | none => rfl
    | some n =>
      show (if _ then _ else _) = _
      rw [if_neg]
      exact fun hc => h ⟨_, hc⟩
theorem finA_yes {a : Amd} {f : Int → Int → Amd} {p n : Int} (h : vldA a = true) (e : f p n = a) : finA (alL a) f (some p) (some n) = some a := by
  show (if _ then _ else _) = _
  rw [e, if_pos ⟨h, rfl⟩]
theorem parts_I {a : Amd} (h : vldA a = true) : wdI (alL a) = hdW a ∧ phI (alL a) = a.ws := by
  obtain ⟨_, _, hk, _, _⟩ := vldA_parts h
  obtain ⟨h1, h2, _⟩ := hd_spl a (by omega)
  unfold wdI phI
  rcases Nat.eq_zero_or_pos a.ws.length with h0 | h0
  · have e := List.eq_nil_of_length_eq_zero h0
    rw [al_none e, cut0 h2, e]
    exact ⟨h1, rfl⟩
  · rw [al_some h0, cut2 h2]
    refine ⟨h1, ?_⟩
    rw [if_pos rfl, (join_spl h h0).1, bars]
theorem parts_S {a : Amd} (h : vldA a = true) : (hvS (alL a)).length ≤ 2 ∧ wdS (alL a) = hdW a ∧ phS (alL a) = a.ws := by
  obtain ⟨_, _, hk, _, _⟩ := vldA_parts h
  obtain ⟨h1, h2, _⟩ := hd_spl a (by omega)
  rcases Nat.eq_zero_or_pos a.ws.length with h0 | h0
  · have e := List.eq_nil_of_length_eq_zero h0
    have eh : hvS (alL a) = [(preS a).data.toList] := by unfold hvS spl; rw [al_none e, spF_no h2]; rfl
    unfold wdS phS
    rw [eh, e]
    exact ⟨by simp, h1, rfl⟩
  · obtain ⟨j1, j2⟩ := join_spl h h0
    have eh : hvS (alL a) = [(preS a).data.toList, 32 :: (joinB a.ws).data.toList] := by
      unfold hvS spl
      rw [al_some h0, spF_hit h2, spF_no (by intro hm; rcases List.mem_cons.1 hm with hm | hm; · simp at hm
                                             · exact j2 hm)]
      rfl
    have es : spl 32 (32 :: (joinB a.ws).data.toList) = [] :: a.ws.map (·.data.toList) := by
      rw [← j1]
      unfold spl
      rw [spF, if_pos rfl]
    unfold wdS phS
    rw [eh]
    refine ⟨by simp, h1, ?_⟩
    rw [if_pos (by simp)]
    show ((spl 32 (32 :: (joinB a.ws).data.toList)).drop 1).map bar = _
    rw [es, List.drop_one, List.tail_cons, bars]
theorem al_len {a : Amd} (h : vldA a = true) : (alL a).length ≤ 100 := by
  obtain ⟨p0, p1, hk, h5, h10⟩ := vldA_parts h
  obtain ⟨_, _, h3⟩ := hd_spl a (by omega)
  have d1 : (decDigits a.n.toNat).length ≤ 2 := dec_len (k := 1) (by omega)
  have d2 : (decDigits a.p.toNat).length ≤ 2 := dec_len (k := 1) (by omega)
  rcases Nat.eq_zero_or_pos a.ws.length with h0 | h0
  · rw [al_none (List.eq_nil_of_length_eq_zero h0)]
    omega
  · have hj := join_size h5 h10
    have hj2 : (joinB a.ws).data.toList.length = (joinB a.ws).size := Array.length_toList
    rw [al_some h0, List.length_append, List.length_cons, List.length_cons]
    omega
theorem am_yes {a : Amd} (h : vldA a = true) : amI (alL a) = some a ∧ amS (alL a) = some a := by
  obtain ⟨i1, i2⟩ := parts_I h
  obtain ⟨s0, s1, s2⟩ := parts_S h
  have hl := al_len h
  obtain ⟨p0, p1, hk, h5, h10⟩ := vldA_parts h
  have ep : ((a.p.toNat : Nat) : Int) = a.p := by omega
  have hp1 := pi_dec (n := a.p.toNat) (by omega)
  have hp2 := lr_dec (n := a.p.toNat) (by omega)
  rw [ep] at hp1 hp2
  have hlen : ¬ (100 < (alL a).length ∨ 2 < (hvS (alL a)).length ∨ ((hdW a).length ≠ 3 ∧ (hdW a).length ≠ 4)) := by
    have h34 : (hdW a).length = 3 ∨ (hdW a).length = 4 := by
      unfold hdW
      split
      · exact .inl rfl
      · split <;> exact .inr rfl
    omega
  unfold amI amS
  rw [i1, s1, if_neg hlen]
  rcases hk with ⟨k1, n0, w1⟩ | ⟨k1, n1, n5, w0⟩ | ⟨k1, n1, n5, w1⟩
  · have hw : hdW a = [insL, atL, decDigits a.p.toNat] := by unfold hdW; rw [if_pos k1]
    have e1 : mkIA (alL a) a.p 0 = a := by
      unfold mkIA
      rw [i1, i2, hw]
      refine Amd.ext' ?_ rfl n0.symm rfl
      rw [k1]; show kdI insL = 1; decide
    have e2 : mkSA (alL a) a.p 0 = a := by
      unfold mkSA
      rw [s2]
      exact Amd.ext' k1.symm rfl n0.symm rfl
    rw [hw]
    show finA _ _ (piV (decDigits a.p.toNat)) (some 0) = _ ∧ finA _ _ (lrV (decDigits a.p.toNat)) (some 0) = _
    rw [hp1, hp2]
    exact ⟨finA_yes h e1, finA_yes h e2⟩
  · have en : ((a.n.toNat : Nat) : Int) = a.n := by omega
    have hn1 := pi_dec (n := a.n.toNat) (by omega)
    have hn2 := lr_dec (n := a.n.toNat) (by omega)
    rw [en] at hn1 hn2
    have hw : hdW a = [stkL, decDigits a.n.toNat, atL, decDigits a.p.toNat] := by unfold hdW; rw [if_neg (by omega), if_pos k1]
    have e1 : mkIA (alL a) a.p a.n = a := by
      unfold mkIA
      rw [i1, i2, hw]
      refine Amd.ext' ?_ rfl rfl rfl
      rw [k1]; show kdI stkL = 2; decide
    have e2 : mkSA (alL a) a.p a.n = a := by
      unfold mkSA
      rw [s2]
      refine Amd.ext' ?_ rfl rfl rfl
      show kdS a.n a.ws = a.k
      unfold kdS
      rw [if_neg (by omega), if_pos w0, k1]
    rw [hw]
    show finA _ _ (piV (decDigits a.p.toNat)) (piV (decDigits a.n.toNat)) = _ ∧ finA _ _ (lrV (decDigits a.p.toNat)) (lrV (decDigits a.n.toNat)) = _
    rw [hp1, hp2, hn1, hn2]
    exact ⟨finA_yes h e1, finA_yes h e2⟩
  · have en : ((a.n.toNat : Nat) : Int) = a.n := by omega
    have hn1 := pi_dec (n := a.n.toNat) (by omega)
    have hn2 := lr_dec (n := a.n.toNat) (by omega)
    rw [en] at hn1 hn2
    have hw : hdW a = [repL, decDigits a.n.toNat, atL, decDigits a.p.toNat] := by unfold hdW; rw [if_neg (by omega), if_neg (by omega)]
    have e1 : mkIA (alL a) a.p a.n = a := by
      unfold mkIA
      rw [i1, i2, hw]
      refine Amd.ext' ?_ rfl rfl rfl
      rw [k1]; show kdI repL = 3; decide
    have e2 : mkSA (alL a) a.p a.n = a := by
      unfold mkSA
      rw [s2]
      refine Amd.ext' ?_ rfl rfl rfl
      show kdS a.n a.ws = a.k
      unfold kdS
      rw [if_neg (by omega), if_neg (by omega), k1]
    rw [hw]
    show finA _ _ (piV (decDigits a.p.toNat)) (piV (decDigits a.n.toNat)) = _ ∧ finA _ _ (lrV (decDigits a.p.toNat)) (lrV (decDigits a.n.toNat)) = _
    rw [hp1, hp2, hn1, hn2]
    exact ⟨finA_yes h e1, finA_yes h e2⟩
/-- Both ways of reading agree. -/
theorem am_same (l : List UInt8) : amI l = amS l := by
  by_cases h : ∃ a : Amd, vldA a = true ∧ alL a = l
  · obtain ⟨a, h1, rfl⟩ := h
    rw [(am_yes h1).1, (am_yes h1).2]
  · unfold amI amS
    rw [finA_no h, finA_no h]
    simp
theorem am_text {l : List UInt8} {a : Amd} (h : amI l = some a) : vldA a = true ∧ alL a = l := by
  by_cases c : ∃ a : Amd, vldA a = true ∧ alL a = l
  · obtain ⟨b, hb, rfl⟩ := c
    rw [(am_yes hb).1] at h
    injection h with h
    subst h
    exact ⟨hb, rfl⟩
  · unfold amI at h
    rw [finA_no c] at h
    cases h
end Go.Proofs.YtnnphhhjkhoglaaGreatDoor
namespace Go.Proofs.YtnnphhhjkhoglaaGreatDoor
open Go.RowKit
set_option linter.unusedVariables false
set_option linter.unusedSimpArgs false
theorem app_empty (x : ByteArray) : x ++ ByteArray.empty = x := bytes_ext (by rw [ByteArray.data_append]; simp)
/-- What the table of words holds. -/
def Wds (w : World) : Prop := 0 < w.heap.size ∧ w.cell? ⟨0, 1, none⟩ = some (.string ⟨#[105, 110, 115, 101, 114, 116]⟩) ∧ w.cell? ⟨0, 2, none⟩ = some (.string ⟨#[115, 116, 114, 105, 107, 101]⟩) ∧ w.cell? ⟨0, 3, none⟩ = some (.string ⟨#[114, 101, 112, 108, 97, 99, 101]⟩)
theorem Wds.below {w w' : World} (h : Wds w) (hb : Below w.heap.size w w') : Wds w' :=
  ⟨Nat.lt_of_lt_of_le h.1 hb.size, (hb.cell (p := ⟨0, 1, none⟩) h.1).trans h.2.1, (hb.cell (p := ⟨0, 2, none⟩) h.1).trans h.2.2.1, (hb.cell (p := ⟨0, 3, none⟩) h.1).trans h.2.2.2⟩
theorem join_any (a : Addr) (c : Nat) (ws : List ByteArray) (w : World) (h : Cells w (some a) (strs ws)) (hA : a = ⟨a.block, a.off, none⟩) (hc : ws.length ≤ c) (h0 : 0 < ws.length) (h5 : ws.length ≤ 5) (h10 : ∀ w ∈ ws, w.size ≤ 10) :
    Calls Tryz.prog 54 #[.slice (some a) ws.length c, .string ⟨#[32]⟩] w fun e w' => e = .returned (.string (joinB ws)) ∧ Below w.heap.size w w' := by
  have hcell : ∀ (j : Nat) x, ws[j]? = some x → w.cell? ⟨a.block, a.off + j, none⟩ = some (.string x) := fun j x hx => by
    obtain ⟨ad, e, h1⟩ := h j (.string x) (by simp [strs, hx])
    obtain rfl := Option.some.inj e
    have h2 : a.add j = ⟨a.block, a.off + j, none⟩ := by
      unfold Addr.add
      split
      · rename_i hj; subst hj; rw [hA]; rfl
      · rfl
    rwa [h2] at h1
  have hbk : a.block < w.heap.size := by
    have := World.block_lt_of_cell? _ _ (hcell 0 ws[0] (List.getElem?_eq_getElem h0))
    exact this
  have hsz := join_size h5 h10
  have h1 := Tryz.strings_Join a.block a.off c ws ⟨#[32]⟩ w hcell hbk (by omega) hc (by
    have h3 : (Go.Lib.join (ws.map (·.data.toList)) [32]).length = (joinB ws).size := by unfold joinB ByteArray.size; simp
    have h4 : (⟨#[32]⟩ : ByteArray).data.toList = [32] := rfl
    rw [h4, h3]; omega)
  rw [← hA] at h1
  exact h1
theorem own_form {w : World} {lo hi : Nat} {A : Option Addr} {c : Nat} {ss : List ByteArray} (h : OwS lo hi w A c ss) (h0 : 0 < ss.length) : ∃ a, A = some a ∧ a = ⟨a.block, a.off, none⟩ := by
  obtain ⟨g, cap, hv, _⟩ := h.1.form h0
  obtain ⟨rfl, _, _⟩ : A = some ⟨g, 0, none⟩ ∧ ss.length = ss.length ∧ c = cap := by simpa using hv
  exact ⟨_, rfl, rfl⟩
set_option maxHeartbeats 1000000 in
theorem amendmentLine_1 {B : Nat} (A : Option Addr) (c pn nn : Nat) (ws : List ByteArray) (w : World) (hp : pn ≤ 20) (hnn : nn ≤ 5) (h : RdS B w A c ws) (hA : 0 < ws.length → ∃ a, A = some a ∧ a = ⟨a.block, a.off, none⟩) (hl : 0 < ws.length) (h5 : ws.length ≤ 5) (h10 : ∀ w ∈ ws, w.size ≤ 10) (hW : Wds w) :
    Calls Tryz.prog 29 #[.agg #[.int .i64 1, .int .i64 pn, .int .i64 nn, .slice A ws.length c]] w fun e w' => e = .returned (.string (headS 1 nn ++ atB ++ dec pn ++ wlF ws ws.length)) ∧ Below w.heap.size w w' := by
  have HW := Lib.hid (hW.below (below1 w (.cells #[.int .i64 1, .int .i64 pn, .int .i64 nn, .slice A ws.length c] 35)))
  have HB := Lib.hid (below1 w (.cells #[.int .i64 1, .int .i64 pn, .int .i64 nn, .slice A ws.length c] 35))
  have HR := Lib.hid (h.cells.below (below1 w (.cells #[.int .i64 1, .int .i64 pn, .int .i64 nn, .slice A ws.length c] 35)))
  have hcc := h.1
  have NX := Lib.hid (BoxL.new w #[.int .i64 1, .int .i64 pn, .int .i64 nn, .slice A ws.length c] 35)
  have hd1 := dec_sz2 (i := nn) (by omega)
  have hd2 := dec_sz2 (i := pn) hp
  have hj := join_size h5 h10
  have g1 := HW.out.2.1
  have g2 := HW.out.2.2.1
  have g3 := HW.out.2.2.2
  have u1 := hW.2.1
  have u2 := hW.2.2.1
  have u3 := hW.2.2.2
  have u0 : 0 < w.heap.size := Nat.lt_of_le_of_lt (Nat.zero_le _) hW.1
  have u4 : ¬ 0 = w.heap.size := by omega
  have u5 : ¬ w.heap.size = 0 := by omega
  clear h hW
  have y1 : ¬ 9223372036854775807 < 1 + (dec nn).size := by omega
  have y2 : ¬ 9223372036854775807 < 6 + (1 + (dec nn).size) := by omega
  have y3 : ¬ 9223372036854775807 < 4 + (dec pn).size := by omega
  have y4 : ¬ 9223372036854775807 < 6 + (4 + (dec pn).size) := by omega
  have y5 : ¬ 9223372036854775807 < 2 + (joinB ws).size := by omega
  have y6 : ¬ 9223372036854775807 < 6 + (4 + (dec pn).size) + (2 + (joinB ws).size) := by omega
  obtain ⟨a, rfl, ha⟩ := hA hl
  have i1 : (0 : Int) < (ws.length : Int) := by omega
  have HJ := Lib.hid (wl_join hl)
  have HA := Lib.hid ha
  clear ha hA
  go_enter Tryz.func29, Tryz.ntmps29
  go_wp2_with (first | (go_at_call 53; refine (itoa_sm _ (by omega) _).mono ?_; rintro e w2 ⟨rfl, hw2⟩; subst hw2) | (go_at_call 54; refine (join_any a c ws _ HR.out HA.out hcc hl h5 h10).mono ?_; rintro e w3 ⟨rfl, hb⟩; have HB3 := Lib.hid (after HB.out hb); clear hb))
  go_ret
  exact ⟨by rw [HJ.out]; simp only [headS, atB, ByteArray.append_assoc]; rfl, HB3.out⟩
set_option maxHeartbeats 1000000 in
theorem amendmentLine_2 {B : Nat} (A : Option Addr) (c pn nn : Nat) (ws : List ByteArray) (w : World) (hp : pn ≤ 20) (hnn : nn ≤ 5) (h : RdS B w A c ws) (hA : 0 < ws.length → ∃ a, A = some a ∧ a = ⟨a.block, a.off, none⟩) (hl : ws.length = 0) (h5 : ws.length ≤ 5) (h10 : ∀ w ∈ ws, w.size ≤ 10) (hW : Wds w) :
    Calls Tryz.prog 29 #[.agg #[.int .i64 2, .int .i64 pn, .int .i64 nn, .slice A ws.length c]] w fun e w' => e = .returned (.string (headS 2 nn ++ atB ++ dec pn ++ wlF ws ws.length)) ∧ Below w.heap.size w w' := by
  have HW := Lib.hid (hW.below (below1 w (.cells #[.int .i64 2, .int .i64 pn, .int .i64 nn, .slice A ws.length c] 35)))
  have HB := Lib.hid (below1 w (.cells #[.int .i64 2, .int .i64 pn, .int .i64 nn, .slice A ws.length c] 35))
  have HR := Lib.hid (h.cells.below (below1 w (.cells #[.int .i64 2, .int .i64 pn, .int .i64 nn, .slice A ws.length c] 35)))
  have hcc := h.1
  have NX := Lib.hid (BoxL.new w #[.int .i64 2, .int .i64 pn, .int .i64 nn, .slice A ws.length c] 35)
  have hd1 := dec_sz2 (i := nn) (by omega)
  have hd2 := dec_sz2 (i := pn) hp
  have hj := join_size h5 h10
  have g1 := HW.out.2.1
  have g2 := HW.out.2.2.1
  have g3 := HW.out.2.2.2
  have u1 := hW.2.1
  have u2 := hW.2.2.1
  have u3 := hW.2.2.2
  have u0 : 0 < w.heap.size := Nat.lt_of_le_of_lt (Nat.zero_le _) hW.1
  have u4 : ¬ 0 = w.heap.size := by omega
  have u5 : ¬ w.heap.size = 0 := by omega
  clear h hW
  have y1 : ¬ 9223372036854775807 < 1 + (dec nn).size := by omega
  have y2 : ¬ 9223372036854775807 < 6 + (1 + (dec nn).size) := by omega
  have y3 : ¬ 9223372036854775807 < 4 + (dec pn).size := by omega
  have y4 : ¬ 9223372036854775807 < (6 + (1 + (dec nn).size)) + (4 + (dec pn).size) := by omega
  have y5 : ¬ 9223372036854775807 < 2 + (joinB ws).size := by omega
  have y6 : ¬ 9223372036854775807 < (6 + (1 + (dec nn).size)) + (4 + (dec pn).size) + (2 + (joinB ws).size) := by omega
  have i1 : (ws.length : Int) = 0 := by omega
  obtain rfl : ws = [] := List.eq_nil_of_length_eq_zero hl
  clear hA
  go_enter Tryz.func29, Tryz.ntmps29
  go_wp2_with (go_at_call 53; refine (itoa_sm _ (by omega) _).mono ?_; rintro e w2 ⟨rfl, hw2⟩; subst hw2)
  go_ret
  exact ⟨by rw [show wlF [] 0 = ByteArray.empty from rfl, app_empty]; simp only [headS, atB, ByteArray.append_assoc]; rfl, HB.out⟩
set_option maxHeartbeats 1000000 in
theorem amendmentLine_3 {B : Nat} (A : Option Addr) (c pn nn : Nat) (ws : List ByteArray) (w : World) (hp : pn ≤ 20) (hnn : nn ≤ 5) (h : RdS B w A c ws) (hA : 0 < ws.length → ∃ a, A = some a ∧ a = ⟨a.block, a.off, none⟩) (hl : 0 < ws.length) (h5 : ws.length ≤ 5) (h10 : ∀ w ∈ ws, w.size ≤ 10) (hW : Wds w) :
    Calls Tryz.prog 29 #[.agg #[.int .i64 3, .int .i64 pn, .int .i64 nn, .slice A ws.length c]] w fun e w' => e = .returned (.string (headS 3 nn ++ atB ++ dec pn ++ wlF ws ws.length)) ∧ Below w.heap.size w w' := by
  have HW := Lib.hid (hW.below (below1 w (.cells #[.int .i64 3, .int .i64 pn, .int .i64 nn, .slice A ws.length c] 35)))
  have HB := Lib.hid (below1 w (.cells #[.int .i64 3, .int .i64 pn, .int .i64 nn, .slice A ws.length c] 35))
  have HR := Lib.hid (h.cells.below (below1 w (.cells #[.int .i64 3, .int .i64 pn, .int .i64 nn, .slice A ws.length c] 35)))
  have hcc := h.1
  have NX := Lib.hid (BoxL.new w #[.int .i64 3, .int .i64 pn, .int .i64 nn, .slice A ws.length c] 35)
  have hd1 := dec_sz2 (i := nn) (by omega)
  have hd2 := dec_sz2 (i := pn) hp
  have hj := join_size h5 h10
  have g1 := HW.out.2.1
  have g2 := HW.out.2.2.1
  have g3 := HW.out.2.2.2
  have u1 := hW.2.1
  have u2 := hW.2.2.1
  have u3 := hW.2.2.2
  have u0 : 0 < w.heap.size := Nat.lt_of_le_of_lt (Nat.zero_le _) hW.1
  have u4 : ¬ 0 = w.heap.size := by omega
  have u5 : ¬ w.heap.size = 0 := by omega
  clear h hW
  have y1 : ¬ 9223372036854775807 < 1 + (dec nn).size := by omega
  have y2 : ¬ 9223372036854775807 < 7 + (1 + (dec nn).size) := by omega
  have y3 : ¬ 9223372036854775807 < 4 + (dec pn).size := by omega
  have y4 : ¬ 9223372036854775807 < (7 + (1 + (dec nn).size)) + (4 + (dec pn).size) := by omega
  have y5 : ¬ 9223372036854775807 < 2 + (joinB ws).size := by omega
  have y6 : ¬ 9223372036854775807 < (7 + (1 + (dec nn).size)) + (4 + (dec pn).size) + (2 + (joinB ws).size) := by omega
  obtain ⟨a, rfl, ha⟩ := hA hl
  have i1 : (0 : Int) < (ws.length : Int) := by omega
  have HJ := Lib.hid (wl_join hl)
  have HA := Lib.hid ha
  clear ha hA
  go_enter Tryz.func29, Tryz.ntmps29
  go_wp2_with (first | (go_at_call 53; refine (itoa_sm _ (by omega) _).mono ?_; rintro e w2 ⟨rfl, hw2⟩; subst hw2) | (go_at_call 54; refine (join_any a c ws _ HR.out HA.out hcc hl h5 h10).mono ?_; rintro e w3 ⟨rfl, hb⟩; have HB3 := Lib.hid (after HB.out hb); clear hb))
  go_ret
  exact ⟨by rw [HJ.out]; simp only [headS, atB, ByteArray.append_assoc]; rfl, HB3.out⟩
set_option maxHeartbeats 1000000 in
theorem l9Line_1 {B : Nat} (A : Option Addr) (c pn nn : Nat) (ws : List ByteArray) (w : World) (hp : pn ≤ 20) (hnn : nn ≤ 5) (h : RdS B w A c ws) (hl : ws.length ≤ 5) (hn0 : nn = 0) (h10 : ∀ w ∈ ws, w.size ≤ 10) :
    Calls Tryz.prog 35 #[.agg #[.int .i64 1, .int .i64 pn, .int .i64 nn, .slice A ws.length c]] w fun e w' => e = .returned (.string (headS 1 nn ++ atB ++ dec pn ++ wlF ws ws.length)) ∧ Below w.heap.size w w' := by
  have HB := Lib.hid ((below1 w (.cells #[.int .i64 1, .int .i64 pn, .int .i64 nn, .slice A ws.length c] 35)).trans ((below1 (w.alloc (.cells #[.int .i64 1, .int .i64 pn, .int .i64 nn, .slice A ws.length c] 35)) (.cells #[.string ⟨#[]⟩, .string ⟨#[105, 110, 115, 101, 114, 116]⟩, .string ⟨#[115, 116, 114, 105, 107, 101, 32]⟩, .string ⟨#[114, 101, 112, 108, 97, 99, 101, 32]⟩] 9)).mono (by simp)))
  have HR := Lib.hid (h.cells.below HB.out)
  have hd1 := dec_sz2 (i := nn) (by omega)
  have hd2 := dec_sz2 (i := pn) hp
  have NX := Lib.hid ((BoxL.new w #[.int .i64 1, .int .i64 pn, .int .i64 nn, .slice A ws.length c] 35).below (below1 (w.alloc (.cells #[.int .i64 1, .int .i64 pn, .int .i64 nn, .slice A ws.length c] 35)) (.cells #[.string ⟨#[]⟩, .string ⟨#[105, 110, 115, 101, 114, 116]⟩, .string ⟨#[115, 116, 114, 105, 107, 101, 32]⟩, .string ⟨#[114, 101, 112, 108, 97, 99, 101, 32]⟩] 9)) (by simp))
  have NL := Lib.hid (BoxL.new (w.alloc (.cells #[.int .i64 1, .int .i64 pn, .int .i64 nn, .slice A ws.length c] 35)) #[.string ⟨#[]⟩, .string ⟨#[105, 110, 115, 101, 114, 116]⟩, .string ⟨#[115, 116, 114, 105, 107, 101, 32]⟩, .string ⟨#[114, 101, 112, 108, 97, 99, 101, 32]⟩] 9)
  have hb1 : (w.alloc (.cells #[.int .i64 1, .int .i64 pn, .int .i64 nn, .slice A ws.length c] 35)).heap.size = w.heap.size + 1 := by simp
  rw [hb1] at NL
  have e0 := NX.out.2 0 _ rfl
  have e1 := NX.out.2 1 _ rfl
  have e2 := NX.out.2 2 _ rfl
  have e3 := NX.out.2 3 _ rfl
  have g1 := NL.out.2 1 _ rfl
  have g2 := NL.out.2 2 _ rfl
  have g3 := NL.out.2 3 _ rfl
  have HWS := Lib.hid h10
  clear h h10 hb1
  have i0 : ¬ (0 : Int) < (nn : Int) := by omega
  have HN0 := Lib.hid hn0
  clear hn0
  have y2 : ¬ 9223372036854775807 < 6 + 4 := by omega
  have y3 : ¬ 9223372036854775807 < 6 + 4 + (dec pn).size := by omega
  have HH := Lib.hid (show (⟨#[105, 110, 115, 101, 114, 116]⟩ : ByteArray) ++ ⟨#[32, 97, 116, 32]⟩ ++ dec pn = headS 1 nn ++ atB ++ dec pn from rfl)
  have hsz : (headS 1 nn ++ atB ++ dec pn).size ≤ 50 := by
    rw [← HH.out]
    simp only [ByteArray.size_append]
    have z1 : (⟨#[105, 110, 115, 101, 114, 116]⟩ : ByteArray).size = 6 := rfl
    have z2 : (⟨#[32, 97, 116, 32]⟩ : ByteArray).size = 4 := rfl
    omega
  go_enter Tryz.func35, Tryz.ntmps35
  go_wp2_with (go_at_call 59; refine (l1Num_any _ (by omega) _).mono ?_; rintro e w2 ⟨rfl, m2, hm2⟩; subst hm2)
  rw [HH.out]
  obtain ⟨pr, hpr⟩ : ∃ s, Hid (headS 1 nn ++ atB ++ dec pn = s) := ⟨_, Lib.hid rfl⟩
  rw [hpr.out] at hsz ⊢
  go_loopw [3, 4] (fun vs vi wr => ∃ i n : Nat, i ≤ ws.length ∧ vs = .string (pr ++ wlF ws i) ∧ vi = .int .i64 i ∧ Hid ((pr ++ wlF ws i).size ≤ 50 + 20 * i) ∧ wr = ((w.alloc (.cells #[.int .i64 1, .int .i64 pn, .int .i64 nn, .slice A ws.length c] 35)).alloc (.cells #[.string ⟨#[]⟩, .string ⟨#[105, 110, 115, 101, 114, 116]⟩, .string ⟨#[115, 116, 114, 105, 107, 101, 32]⟩, .string ⟨#[114, 101, 112, 108, 97, 99, 101, 32]⟩] 9)).drewN n) (fun _ vi _ => ws.length - (intOf vi).toNat)
  case atStart => exact ⟨0, _, Nat.zero_le _, by rw [show wlF ws 0 = ByteArray.empty from rfl, app_empty], rfl, Lib.hid (by rw [show wlF ws 0 = ByteArray.empty from rfl, app_empty]; omega), by first | rfl | exact (World.drewN_drewN _ _ _).symm | exact World.drewN_drewN _ _ _⟩
  case round =>
    obtain ⟨i, n, hi, rfl, rfl, hs, rfl⟩ := hrel
    by_cases hlt : i < ws.length
    · have i1 : (i : Int) < (ws.length : Int) := by omega
      obtain ⟨a, hA, hc⟩ := HR.out i _ (strs_get hlt)
      have hwz := HWS.out _ (List.getElem_mem hlt)
      have HTX := Lib.hid (show wlF ws (i + 1) = wlF ws i ++ (if i = 0 then colB else ByteArray.empty) ++ spB ++ ws.getD i ByteArray.empty from rfl)
      have hgd : ws.getD i ByteArray.empty = ws[i] := by rw [List.getD_eq_getElem?_getD, List.getElem?_eq_getElem hlt]; rfl
      rw [hgd] at HTX
      obtain ⟨wi, hwi⟩ : ∃ s, Hid (ws[i] = s) := ⟨_, Lib.hid rfl⟩
      rw [hwi.out] at hc hwz HTX
      have HSZ := hs.out
      have HNX := Lib.hid (show (pr ++ wlF ws (i + 1)) = (pr ++ wlF ws i) ++ (if i = 0 then colB else ByteArray.empty) ++ spB ++ wi by rw [HTX.out]; simp only [ByteArray.append_assoc])
      obtain ⟨tx, htx⟩ : ∃ s, Hid (pr ++ wlF ws i = s) := ⟨_, Lib.hid rfl⟩
      rw [htx.out] at HNX HSZ ⊢
      have hc' : (((w.alloc (.cells #[.int .i64 1, .int .i64 pn, .int .i64 nn, .slice A ws.length c] 35)).alloc (.cells #[.string ⟨#[]⟩, .string ⟨#[105, 110, 115, 101, 114, 116]⟩, .string ⟨#[115, 116, 114, 105, 107, 101, 32]⟩, .string ⟨#[114, 101, 112, 108, 97, 99, 101, 32]⟩] 9)).drewN n).cell? (a.add i) = some (.string wi) := hc
      have e3' : (((w.alloc (.cells #[.int .i64 1, .int .i64 pn, .int .i64 nn, .slice A ws.length c] 35)).alloc (.cells #[.string ⟨#[]⟩, .string ⟨#[105, 110, 115, 101, 114, 116]⟩, .string ⟨#[115, 116, 114, 105, 107, 101, 32]⟩, .string ⟨#[114, 101, 112, 108, 97, 99, 101, 32]⟩] 9)).drewN n).cell? ⟨w.heap.size, 3, none⟩ = some (.slice A ws.length c) := e3
      subst hA
      clear hgd hs HTX
      by_cases h0 : i = 0
      · subst h0
        rw [if_pos rfl] at HNX
        have hc0 : (((w.alloc (.cells #[.int .i64 1, .int .i64 pn, .int .i64 nn, .slice (some a) ws.length c] 35)).alloc (.cells #[.string ⟨#[]⟩, .string ⟨#[105, 110, 115, 101, 114, 116]⟩, .string ⟨#[115, 116, 114, 105, 107, 101, 32]⟩, .string ⟨#[114, 101, 112, 108, 97, 99, 101, 32]⟩] 9)).drewN n).cell? a = some (.string wi) := by have h9 := hc; rwa [show a.add 0 = a from by unfold Addr.add; simp] at h9
        have y5 : ¬ 9223372036854775807 < tx.size + 1 := by omega
        have y6 : ¬ 9223372036854775807 < tx.size + 1 + 1 := by omega
        have y7 : ¬ 9223372036854775807 < tx.size + 1 + 1 + wi.size := by omega
        go_wp2
        go_roundw
        case rel => exact ⟨1, n, by omega, by rw [HNX.out]; rfl, by go_num, Lib.hid (by rw [HNX.out, ByteArray.size_append, ByteArray.size_append, ByteArray.size_append]; have z1 : colB.size = 1 := rfl; have z2 : spB.size = 1 := rfl; omega), by first | rfl | exact (World.drewN_drewN _ _ _).symm⟩
        case measure => simp [intOf]; omega
      · rw [if_neg h0] at HNX
        have HNX := Lib.hid (HNX.out.trans (by rw [app_empty]))
        have b0 : ((i : Int) == 0) = false := by simp; omega
        have b1 : ¬ (i : Int) = 0 := by omega
        have y5 : ¬ 9223372036854775807 < tx.size + 1 := by omega
        have y6 : ¬ 9223372036854775807 < tx.size + 1 + wi.size := by omega
        go_wp2
        go_roundw
        case rel => exact ⟨i + 1, n, by omega, by rw [HNX.out]; rfl, by go_num, Lib.hid (by rw [HNX.out, ByteArray.size_append, ByteArray.size_append]; have z2 : spB.size = 1 := rfl; omega), by first | rfl | exact (World.drewN_drewN _ _ _).symm⟩
        case measure => simp [intOf]; omega
    · obtain rfl : i = ws.length := by omega
      go_wp2
      go_ret
      exact ⟨by rw [hpr.out]; rfl, by first | exact below_drewN HB.out _ | exact HB.out⟩
set_option maxHeartbeats 1000000 in
theorem l9Line_2 {B : Nat} (A : Option Addr) (c pn nn : Nat) (ws : List ByteArray) (w : World) (hp : pn ≤ 20) (hnn : nn ≤ 5) (h : RdS B w A c ws) (hl : ws.length ≤ 5) (hn0 : 0 < nn) (h10 : ∀ w ∈ ws, w.size ≤ 10) :
    Calls Tryz.prog 35 #[.agg #[.int .i64 2, .int .i64 pn, .int .i64 nn, .slice A ws.length c]] w fun e w' => e = .returned (.string (headS 2 nn ++ atB ++ dec pn ++ wlF ws ws.length)) ∧ Below w.heap.size w w' := by
  have HB := Lib.hid ((below1 w (.cells #[.int .i64 2, .int .i64 pn, .int .i64 nn, .slice A ws.length c] 35)).trans ((below1 (w.alloc (.cells #[.int .i64 2, .int .i64 pn, .int .i64 nn, .slice A ws.length c] 35)) (.cells #[.string ⟨#[]⟩, .string ⟨#[105, 110, 115, 101, 114, 116]⟩, .string ⟨#[115, 116, 114, 105, 107, 101, 32]⟩, .string ⟨#[114, 101, 112, 108, 97, 99, 101, 32]⟩] 9)).mono (by simp)))
  have HR := Lib.hid (h.cells.below HB.out)
  have hd1 := dec_sz2 (i := nn) (by omega)
  have hd2 := dec_sz2 (i := pn) hp
  have NX := Lib.hid ((BoxL.new w #[.int .i64 2, .int .i64 pn, .int .i64 nn, .slice A ws.length c] 35).below (below1 (w.alloc (.cells #[.int .i64 2, .int .i64 pn, .int .i64 nn, .slice A ws.length c] 35)) (.cells #[.string ⟨#[]⟩, .string ⟨#[105, 110, 115, 101, 114, 116]⟩, .string ⟨#[115, 116, 114, 105, 107, 101, 32]⟩, .string ⟨#[114, 101, 112, 108, 97, 99, 101, 32]⟩] 9)) (by simp))
  have NL := Lib.hid (BoxL.new (w.alloc (.cells #[.int .i64 2, .int .i64 pn, .int .i64 nn, .slice A ws.length c] 35)) #[.string ⟨#[]⟩, .string ⟨#[105, 110, 115, 101, 114, 116]⟩, .string ⟨#[115, 116, 114, 105, 107, 101, 32]⟩, .string ⟨#[114, 101, 112, 108, 97, 99, 101, 32]⟩] 9)
  have hb1 : (w.alloc (.cells #[.int .i64 2, .int .i64 pn, .int .i64 nn, .slice A ws.length c] 35)).heap.size = w.heap.size + 1 := by simp
  rw [hb1] at NL
  have e0 := NX.out.2 0 _ rfl
  have e1 := NX.out.2 1 _ rfl
  have e2 := NX.out.2 2 _ rfl
  have e3 := NX.out.2 3 _ rfl
  have g1 := NL.out.2 1 _ rfl
  have g2 := NL.out.2 2 _ rfl
  have g3 := NL.out.2 3 _ rfl
  have HWS := Lib.hid h10
  clear h h10 hb1
  have y1 : ¬ 9223372036854775807 < 7 + (dec nn).size := by omega
  have i0 : (0 : Int) < (nn : Int) := by omega
  have y2 : ¬ 9223372036854775807 < 7 + (dec nn).size + 4 := by omega
  have y3 : ¬ 9223372036854775807 < 7 + (dec nn).size + 4 + (dec pn).size := by omega
  have HH := Lib.hid (show (⟨#[115, 116, 114, 105, 107, 101, 32]⟩ : ByteArray) ++ dec nn ++ ⟨#[32, 97, 116, 32]⟩ ++ dec pn = headS 2 nn ++ atB ++ dec pn from rfl)
  have hsz : (headS 2 nn ++ atB ++ dec pn).size ≤ 50 := by
    rw [← HH.out]
    simp only [ByteArray.size_append]
    have z1 : (⟨#[115, 116, 114, 105, 107, 101, 32]⟩ : ByteArray).size = 7 := rfl
    have z2 : (⟨#[32, 97, 116, 32]⟩ : ByteArray).size = 4 := rfl
    omega
  go_enter Tryz.func35, Tryz.ntmps35
  go_wp2_with (go_at_call 59; refine (l1Num_any _ (by omega) _).mono ?_; rintro e w2 ⟨rfl, m2, hm2⟩; subst hm2)
  rw [HH.out]
  obtain ⟨pr, hpr⟩ : ∃ s, Hid (headS 2 nn ++ atB ++ dec pn = s) := ⟨_, Lib.hid rfl⟩
  rw [hpr.out] at hsz ⊢
  go_loopw [3, 4] (fun vs vi wr => ∃ i n : Nat, i ≤ ws.length ∧ vs = .string (pr ++ wlF ws i) ∧ vi = .int .i64 i ∧ Hid ((pr ++ wlF ws i).size ≤ 50 + 20 * i) ∧ wr = ((w.alloc (.cells #[.int .i64 2, .int .i64 pn, .int .i64 nn, .slice A ws.length c] 35)).alloc (.cells #[.string ⟨#[]⟩, .string ⟨#[105, 110, 115, 101, 114, 116]⟩, .string ⟨#[115, 116, 114, 105, 107, 101, 32]⟩, .string ⟨#[114, 101, 112, 108, 97, 99, 101, 32]⟩] 9)).drewN n) (fun _ vi _ => ws.length - (intOf vi).toNat)
  case atStart => exact ⟨0, _, Nat.zero_le _, by rw [show wlF ws 0 = ByteArray.empty from rfl, app_empty], rfl, Lib.hid (by rw [show wlF ws 0 = ByteArray.empty from rfl, app_empty]; omega), by first | rfl | exact (World.drewN_drewN _ _ _).symm | exact World.drewN_drewN _ _ _⟩
  case round =>
    obtain ⟨i, n, hi, rfl, rfl, hs, rfl⟩ := hrel
    by_cases hlt : i < ws.length
    · have i1 : (i : Int) < (ws.length : Int) := by omega
      obtain ⟨a, hA, hc⟩ := HR.out i _ (strs_get hlt)
      have hwz := HWS.out _ (List.getElem_mem hlt)
      have HTX := Lib.hid (show wlF ws (i + 1) = wlF ws i ++ (if i = 0 then colB else ByteArray.empty) ++ spB ++ ws.getD i ByteArray.empty from rfl)
      have hgd : ws.getD i ByteArray.empty = ws[i] := by rw [List.getD_eq_getElem?_getD, List.getElem?_eq_getElem hlt]; rfl
      rw [hgd] at HTX
      obtain ⟨wi, hwi⟩ : ∃ s, Hid (ws[i] = s) := ⟨_, Lib.hid rfl⟩
      rw [hwi.out] at hc hwz HTX
      have HSZ := hs.out
      have HNX := Lib.hid (show (pr ++ wlF ws (i + 1)) = (pr ++ wlF ws i) ++ (if i = 0 then colB else ByteArray.empty) ++ spB ++ wi by rw [HTX.out]; simp only [ByteArray.append_assoc])
      obtain ⟨tx, htx⟩ : ∃ s, Hid (pr ++ wlF ws i = s) := ⟨_, Lib.hid rfl⟩
      rw [htx.out] at HNX HSZ ⊢
      have hc' : (((w.alloc (.cells #[.int .i64 2, .int .i64 pn, .int .i64 nn, .slice A ws.length c] 35)).alloc (.cells #[.string ⟨#[]⟩, .string ⟨#[105, 110, 115, 101, 114, 116]⟩, .string ⟨#[115, 116, 114, 105, 107, 101, 32]⟩, .string ⟨#[114, 101, 112, 108, 97, 99, 101, 32]⟩] 9)).drewN n).cell? (a.add i) = some (.string wi) := hc
      have e3' : (((w.alloc (.cells #[.int .i64 2, .int .i64 pn, .int .i64 nn, .slice A ws.length c] 35)).alloc (.cells #[.string ⟨#[]⟩, .string ⟨#[105, 110, 115, 101, 114, 116]⟩, .string ⟨#[115, 116, 114, 105, 107, 101, 32]⟩, .string ⟨#[114, 101, 112, 108, 97, 99, 101, 32]⟩] 9)).drewN n).cell? ⟨w.heap.size, 3, none⟩ = some (.slice A ws.length c) := e3
      subst hA
      clear hgd hs HTX
      by_cases h0 : i = 0
      · subst h0
        rw [if_pos rfl] at HNX
        have hc0 : (((w.alloc (.cells #[.int .i64 2, .int .i64 pn, .int .i64 nn, .slice (some a) ws.length c] 35)).alloc (.cells #[.string ⟨#[]⟩, .string ⟨#[105, 110, 115, 101, 114, 116]⟩, .string ⟨#[115, 116, 114, 105, 107, 101, 32]⟩, .string ⟨#[114, 101, 112, 108, 97, 99, 101, 32]⟩] 9)).drewN n).cell? a = some (.string wi) := by have h9 := hc; rwa [show a.add 0 = a from by unfold Addr.add; simp] at h9
        have y5 : ¬ 9223372036854775807 < tx.size + 1 := by omega
        have y6 : ¬ 9223372036854775807 < tx.size + 1 + 1 := by omega
        have y7 : ¬ 9223372036854775807 < tx.size + 1 + 1 + wi.size := by omega
        go_wp2
        go_roundw
        case rel => exact ⟨1, n, by omega, by rw [HNX.out]; rfl, by go_num, Lib.hid (by rw [HNX.out, ByteArray.size_append, ByteArray.size_append, ByteArray.size_append]; have z1 : colB.size = 1 := rfl; have z2 : spB.size = 1 := rfl; omega), by first | rfl | exact (World.drewN_drewN _ _ _).symm⟩
        case measure => simp [intOf]; omega
      · rw [if_neg h0] at HNX
        have HNX := Lib.hid (HNX.out.trans (by rw [app_empty]))
        have b0 : ((i : Int) == 0) = false := by simp; omega
        have b1 : ¬ (i : Int) = 0 := by omega
        have y5 : ¬ 9223372036854775807 < tx.size + 1 := by omega
        have y6 : ¬ 9223372036854775807 < tx.size + 1 + wi.size := by omega
        go_wp2
        go_roundw
        case rel => exact ⟨i + 1, n, by omega, by rw [HNX.out]; rfl, by go_num, Lib.hid (by rw [HNX.out, ByteArray.size_append, ByteArray.size_append]; have z2 : spB.size = 1 := rfl; omega), by first | rfl | exact (World.drewN_drewN _ _ _).symm⟩
        case measure => simp [intOf]; omega
    · obtain rfl : i = ws.length := by omega
      go_wp2
      go_ret
      exact ⟨by rw [hpr.out]; rfl, by first | exact below_drewN HB.out _ | exact HB.out⟩
set_option maxHeartbeats 1000000 in
theorem l9Line_3 {B : Nat} (A : Option Addr) (c pn nn : Nat) (ws : List ByteArray) (w : World) (hp : pn ≤ 20) (hnn : nn ≤ 5) (h : RdS B w A c ws) (hl : ws.length ≤ 5) (hn0 : 0 < nn) (h10 : ∀ w ∈ ws, w.size ≤ 10) :
    Calls Tryz.prog 35 #[.agg #[.int .i64 3, .int .i64 pn, .int .i64 nn, .slice A ws.length c]] w fun e w' => e = .returned (.string (headS 3 nn ++ atB ++ dec pn ++ wlF ws ws.length)) ∧ Below w.heap.size w w' := by
  have HB := Lib.hid ((below1 w (.cells #[.int .i64 3, .int .i64 pn, .int .i64 nn, .slice A ws.length c] 35)).trans ((below1 (w.alloc (.cells #[.int .i64 3, .int .i64 pn, .int .i64 nn, .slice A ws.length c] 35)) (.cells #[.string ⟨#[]⟩, .string ⟨#[105, 110, 115, 101, 114, 116]⟩, .string ⟨#[115, 116, 114, 105, 107, 101, 32]⟩, .string ⟨#[114, 101, 112, 108, 97, 99, 101, 32]⟩] 9)).mono (by simp)))
  have HR := Lib.hid (h.cells.below HB.out)
  have hd1 := dec_sz2 (i := nn) (by omega)
  have hd2 := dec_sz2 (i := pn) hp
  have NX := Lib.hid ((BoxL.new w #[.int .i64 3, .int .i64 pn, .int .i64 nn, .slice A ws.length c] 35).below (below1 (w.alloc (.cells #[.int .i64 3, .int .i64 pn, .int .i64 nn, .slice A ws.length c] 35)) (.cells #[.string ⟨#[]⟩, .string ⟨#[105, 110, 115, 101, 114, 116]⟩, .string ⟨#[115, 116, 114, 105, 107, 101, 32]⟩, .string ⟨#[114, 101, 112, 108, 97, 99, 101, 32]⟩] 9)) (by simp))
  have NL := Lib.hid (BoxL.new (w.alloc (.cells #[.int .i64 3, .int .i64 pn, .int .i64 nn, .slice A ws.length c] 35)) #[.string ⟨#[]⟩, .string ⟨#[105, 110, 115, 101, 114, 116]⟩, .string ⟨#[115, 116, 114, 105, 107, 101, 32]⟩, .string ⟨#[114, 101, 112, 108, 97, 99, 101, 32]⟩] 9)
  have hb1 : (w.alloc (.cells #[.int .i64 3, .int .i64 pn, .int .i64 nn, .slice A ws.length c] 35)).heap.size = w.heap.size + 1 := by simp
  rw [hb1] at NL
  have e0 := NX.out.2 0 _ rfl
  have e1 := NX.out.2 1 _ rfl
  have e2 := NX.out.2 2 _ rfl
  have e3 := NX.out.2 3 _ rfl
  have g1 := NL.out.2 1 _ rfl
  have g2 := NL.out.2 2 _ rfl
  have g3 := NL.out.2 3 _ rfl
  have HWS := Lib.hid h10
  clear h h10 hb1
  have y1 : ¬ 9223372036854775807 < 8 + (dec nn).size := by omega
  have i0 : (0 : Int) < (nn : Int) := by omega
  have y2 : ¬ 9223372036854775807 < 8 + (dec nn).size + 4 := by omega
  have y3 : ¬ 9223372036854775807 < 8 + (dec nn).size + 4 + (dec pn).size := by omega
  have HH := Lib.hid (show (⟨#[114, 101, 112, 108, 97, 99, 101, 32]⟩ : ByteArray) ++ dec nn ++ ⟨#[32, 97, 116, 32]⟩ ++ dec pn = headS 3 nn ++ atB ++ dec pn from rfl)
  have hsz : (headS 3 nn ++ atB ++ dec pn).size ≤ 50 := by
    rw [← HH.out]
    simp only [ByteArray.size_append]
    have z1 : (⟨#[114, 101, 112, 108, 97, 99, 101, 32]⟩ : ByteArray).size = 8 := rfl
    have z2 : (⟨#[32, 97, 116, 32]⟩ : ByteArray).size = 4 := rfl
    omega
  go_enter Tryz.func35, Tryz.ntmps35
  go_wp2_with (go_at_call 59; refine (l1Num_any _ (by omega) _).mono ?_; rintro e w2 ⟨rfl, m2, hm2⟩; subst hm2)
  rw [HH.out]
  obtain ⟨pr, hpr⟩ : ∃ s, Hid (headS 3 nn ++ atB ++ dec pn = s) := ⟨_, Lib.hid rfl⟩
  rw [hpr.out] at hsz ⊢
  go_loopw [3, 4] (fun vs vi wr => ∃ i n : Nat, i ≤ ws.length ∧ vs = .string (pr ++ wlF ws i) ∧ vi = .int .i64 i ∧ Hid ((pr ++ wlF ws i).size ≤ 50 + 20 * i) ∧ wr = ((w.alloc (.cells #[.int .i64 3, .int .i64 pn, .int .i64 nn, .slice A ws.length c] 35)).alloc (.cells #[.string ⟨#[]⟩, .string ⟨#[105, 110, 115, 101, 114, 116]⟩, .string ⟨#[115, 116, 114, 105, 107, 101, 32]⟩, .string ⟨#[114, 101, 112, 108, 97, 99, 101, 32]⟩] 9)).drewN n) (fun _ vi _ => ws.length - (intOf vi).toNat)
  case atStart => exact ⟨0, _, Nat.zero_le _, by rw [show wlF ws 0 = ByteArray.empty from rfl, app_empty], rfl, Lib.hid (by rw [show wlF ws 0 = ByteArray.empty from rfl, app_empty]; omega), by first | rfl | exact (World.drewN_drewN _ _ _).symm | exact World.drewN_drewN _ _ _⟩
  case round =>
    obtain ⟨i, n, hi, rfl, rfl, hs, rfl⟩ := hrel
    by_cases hlt : i < ws.length
    · have i1 : (i : Int) < (ws.length : Int) := by omega
      obtain ⟨a, hA, hc⟩ := HR.out i _ (strs_get hlt)
      have hwz := HWS.out _ (List.getElem_mem hlt)
      have HTX := Lib.hid (show wlF ws (i + 1) = wlF ws i ++ (if i = 0 then colB else ByteArray.empty) ++ spB ++ ws.getD i ByteArray.empty from rfl)
      have hgd : ws.getD i ByteArray.empty = ws[i] := by rw [List.getD_eq_getElem?_getD, List.getElem?_eq_getElem hlt]; rfl
      rw [hgd] at HTX
      obtain ⟨wi, hwi⟩ : ∃ s, Hid (ws[i] = s) := ⟨_, Lib.hid rfl⟩
      rw [hwi.out] at hc hwz HTX
      have HSZ := hs.out
      have HNX := Lib.hid (show (pr ++ wlF ws (i + 1)) = (pr ++ wlF ws i) ++ (if i = 0 then colB else ByteArray.empty) ++ spB ++ wi by rw [HTX.out]; simp only [ByteArray.append_assoc])
      obtain ⟨tx, htx⟩ : ∃ s, Hid (pr ++ wlF ws i = s) := ⟨_, Lib.hid rfl⟩
      rw [htx.out] at HNX HSZ ⊢
      have hc' : (((w.alloc (.cells #[.int .i64 3, .int .i64 pn, .int .i64 nn, .slice A ws.length c] 35)).alloc (.cells #[.string ⟨#[]⟩, .string ⟨#[105, 110, 115, 101, 114, 116]⟩, .string ⟨#[115, 116, 114, 105, 107, 101, 32]⟩, .string ⟨#[114, 101, 112, 108, 97, 99, 101, 32]⟩] 9)).drewN n).cell? (a.add i) = some (.string wi) := hc
      have e3' : (((w.alloc (.cells #[.int .i64 3, .int .i64 pn, .int .i64 nn, .slice A ws.length c] 35)).alloc (.cells #[.string ⟨#[]⟩, .string ⟨#[105, 110, 115, 101, 114, 116]⟩, .string ⟨#[115, 116, 114, 105, 107, 101, 32]⟩, .string ⟨#[114, 101, 112, 108, 97, 99, 101, 32]⟩] 9)).drewN n).cell? ⟨w.heap.size, 3, none⟩ = some (.slice A ws.length c) := e3
      subst hA
      clear hgd hs HTX
      by_cases h0 : i = 0
      · subst h0
        rw [if_pos rfl] at HNX
        have hc0 : (((w.alloc (.cells #[.int .i64 3, .int .i64 pn, .int .i64 nn, .slice (some a) ws.length c] 35)).alloc (.cells #[.string ⟨#[]⟩, .string ⟨#[105, 110, 115, 101, 114, 116]⟩, .string ⟨#[115, 116, 114, 105, 107, 101, 32]⟩, .string ⟨#[114, 101, 112, 108, 97, 99, 101, 32]⟩] 9)).drewN n).cell? a = some (.string wi) := by have h9 := hc; rwa [show a.add 0 = a from by unfold Addr.add; simp] at h9
        have y5 : ¬ 9223372036854775807 < tx.size + 1 := by omega
        have y6 : ¬ 9223372036854775807 < tx.size + 1 + 1 := by omega
        have y7 : ¬ 9223372036854775807 < tx.size + 1 + 1 + wi.size := by omega
        go_wp2
        go_roundw
        case rel => exact ⟨1, n, by omega, by rw [HNX.out]; rfl, by go_num, Lib.hid (by rw [HNX.out, ByteArray.size_append, ByteArray.size_append, ByteArray.size_append]; have z1 : colB.size = 1 := rfl; have z2 : spB.size = 1 := rfl; omega), by first | rfl | exact (World.drewN_drewN _ _ _).symm⟩
        case measure => simp [intOf]; omega
      · rw [if_neg h0] at HNX
        have HNX := Lib.hid (HNX.out.trans (by rw [app_empty]))
        have b0 : ((i : Int) == 0) = false := by simp; omega
        have b1 : ¬ (i : Int) = 0 := by omega
        have y5 : ¬ 9223372036854775807 < tx.size + 1 := by omega
        have y6 : ¬ 9223372036854775807 < tx.size + 1 + wi.size := by omega
        go_wp2
        go_roundw
        case rel => exact ⟨i + 1, n, by omega, by rw [HNX.out]; rfl, by go_num, Lib.hid (by rw [HNX.out, ByteArray.size_append, ByteArray.size_append]; have z2 : spB.size = 1 := rfl; omega), by first | rfl | exact (World.drewN_drewN _ _ _).symm⟩
        case measure => simp [intOf]; omega
    · obtain rfl : i = ws.length := by omega
      go_wp2
      go_ret
      exact ⟨by rw [hpr.out]; rfl, by first | exact below_drewN HB.out _ | exact HB.out⟩
end Go.Proofs.YtnnphhhjkhoglaaGreatDoor
