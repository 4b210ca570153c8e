/- Voters: their copies, sizes, comparisons and marks in the laws. Conditions: the ranges named. -/
import Derived.Test.YtcojohcnkafgdaaProxy
namespace Go.Proofs.Ytcojohcnkafgdaa
open Go.RowKit
set_option linter.unusedVariables false

/-- A list of voters, as data. -/
structure Vtr where
  ws : List Int
  ps : List Prx
def RdV (B : Nat) (w : World) (A : Option Addr) (c : Nat) (D : Option Addr) (d : Nat) (f : Vtr) : Prop := Rd IntK B w A c f.ws ∧ Rd ProxyK B w D d f.ps
def OwV (lo hi : Nat) (w : World) (A : Option Addr) (c : Nat) (D : Option Addr) (d : Nat) (f : Vtr) : Prop := Ow IntK 3 lo hi w A c f.ws ∧ Ow ProxyK 91 lo hi w D d f.ps
section
variable {B B' lo hi lo' hi' : Nat} {w w' : World} {A A' D D' : Option Addr} {c c' d d' : Nat} {f : Vtr}
theorem RdV.below (h : RdV B w A c D d f) (hb : Below B' w w') (hB : B ≤ B') : RdV B w' A c D d f := ⟨h.1.below hb hB, h.2.below hb hB⟩
theorem RdV.up (h : RdV B w A c D d f) (hB : B ≤ B') : RdV B' w A c D d f := ⟨h.1.up hB, h.2.up hB⟩
theorem OwV.rd (h : OwV lo hi w A c D d f) : RdV hi w A c D d f := ⟨h.1.rd, h.2.rd⟩
theorem OwV.below (h : OwV lo hi w A c D d f) (hb : Below B w w') (hB : hi ≤ B) : OwV lo hi w' A c D d f := ⟨h.1.below hb hB, h.2.below hb hB⟩
theorem OwV.only (h : OwV lo hi w A c D d f) (ho : Only lo' hi' w w') (hd : hi ≤ lo' ∨ hi' ≤ lo) : OwV lo hi w' A c D d f := ⟨h.1.only ho hd, h.2.only ho hd⟩
theorem OwV.low (h : OwV lo hi w A c D d f) (hl : lo' ≤ lo) : OwV lo' hi w A c D d f := ⟨h.1.low hl, h.2.low hl⟩
theorem OwV.high (h : OwV lo hi w A c D d f) (hl : hi ≤ hi') : OwV lo hi' w A c D d f := ⟨h.1.high hl, h.2.high hl⟩
end
/-- A call that returns a list of voters in memory of its own. -/
def ToV (w : World) (f : Vtr) (e : Ending) (w' : World) : Prop := ∃ (A : Option Addr) (c : Nat) (D : Option Addr) (d : Nat), e = .returned (.agg #[.slice A f.ws.length c, .slice D f.ps.length d]) ∧ OwV w.heap.size w'.heap.size w' A c D d f ∧ Below w.heap.size w w'
set_option maxHeartbeats 1000000 in
theorem toVoters_any (B : Nat) (A D : Option Addr) (c d : Nat) (f : Vtr) (w : World) (h : RdV B w A c D d f) : Calls Try.prog 43 #[.agg #[.slice A f.ws.length c, .slice D f.ps.length d]] w (ToV w f) := by
  have ha := h.1.cells
  have hd := h.2.cells
  have hn := h.1.2.2.1
  have hm := h.2.2.2.1
  clear h
  go_enter Try.func43, Try.ntmps43
  go_wp2_with fail
  refine (toIntS_any A c f.ws _ (((ha.alloc_ _).alloc_ _).alloc_ _) hn).mono ?_
  rintro e w1 ⟨A1, c1, rfl, o1, hb⟩
  obtain ⟨hc, hfz⟩ := bcell hb
  have hB := Lib.hid (after (w := w) (by go_grown) hb)
  have hz : w.heap.size + 2 < w1.heap.size := by have := hb.size; simp at this; omega
  have h0 := fun o => hc w.heap.size o (by simp; omega)
  have h1 := fun o => hc (w.heap.size + 1) o (by simp)
  have h2 := fun o => hc (w.heap.size + 1 + 1) o (by simp)
  have f1 := fun o => hfz (w.heap.size + 1) o (by simp)
  have f2 := fun o => hfz (w.heap.size + 1 + 1) o (by simp)
  clear hc hfz hb
  have HO := Lib.hid (o1.low (lo' := w.heap.size + 3) (by simp))
  clear o1
  go_wp2_with fail
  refine (toProxyS_any D d f.ps _ (hd.below (by have := hB.out; go_grown)) hm (fun _ _ => trivial)).mono ?_
  rintro e w2 ⟨D1, d1, rfl, o2, hb⟩
  obtain ⟨hc, hfz⟩ := bcell hb
  have hB2 := Lib.hid hb
  have hB3 := Lib.hid (after (w := w) (by have := hB.out; go_grown) hb)
  have hz2 : w1.heap.size ≤ w2.heap.size := by have := hb.size; simpa using this
  have e1 := fun o => hc (w.heap.size + 1) o (by simp; omega)
  have e2 := fun o => hc (w.heap.size + 1 + 1) o (by simp; omega)
  have k1 := fun o => hfz (w.heap.size + 1) o (by simp; omega)
  have k2 := fun o => hfz (w.heap.size + 1 + 1) o (by simp; omega)
  clear hc hfz hb hd ha
  have HP := Lib.hid o2
  clear o2
  go_wp2
  refine bodyPost_ret (v := .agg #[.slice A1 f.ws.length c1, .slice D1 f.ps.length d1]) (by simp [results, Try.results43, go_sem, e1, h1]) rfl ?_
  refine ⟨A1, c1, D1, d1, rfl, ⟨((HO.out.stay ?_).low (by omega)).high (by simp <;> omega), ((HP.out.stay ?_).low (by simp <;> omega)).high (by simp)⟩, ?_⟩
  · repeat (refine Keep.set ?_ (.inl (by simp)) _)
    refine Keep.below ?_ hB2.out (by simp)
    exact Keep.set Keep.rfl_ (.inl (by simp)) _
  · repeat (refine Keep.set ?_ (.inl (by simp; omega)) _)
    exact Keep.rfl_
  · have := hB3.out
    go_grown
theorem szVoters_any (B : Nat) (A D : Option Addr) (c d : Nat) (f : Vtr) (left : Int) (w : World) (hn : f.ws.length ≤ maxLen) (hm : f.ps.length ≤ maxLen) (h0 : 0 ≤ left) (h1 : left ≤ 1048576) :
    Calls Try.prog 41 #[.agg #[.slice A f.ws.length c, .slice D f.ps.length d], .int .i64 left] w fun e w' => e = .returned (.int .i64 (if szN f.ws.length left < 0 then -1 else szN f.ps.length (szN f.ws.length left))) ∧ Below w.heap.size w w' := by
  rcases Int.lt_or_le (szN f.ws.length left) 0 with hz | hz
  · go_enter Try.func41, Try.ntmps41
    go_wp2_with (go_at_call 58; refine (szIntS_any _ _ _ _ _ hn h0 h1).mono ?_; rintro e w' ⟨rfl, rfl⟩)
    go_ret
    exact ⟨rfl, by go_grown⟩
  · have hz' : ¬ szN f.ws.length left < 0 := by omega
    have h1' : szN f.ws.length left ≤ 1048576 := by have := (szN_ok hz').2; omega
    rcases Int.lt_or_le (szN f.ps.length (szN f.ws.length left)) 0 with hy | hy
    · have HY := Lib.hid (szN_neg hy)
      go_enter Try.func41, Try.ntmps41
      go_wp2_with (first | (go_at_call 58; refine (szIntS_any _ _ _ _ _ hn h0 h1).mono ?_; rintro e w' ⟨rfl, rfl⟩) | (go_at_call 87; refine (szProxyS_any _ _ _ _ _ hm hz h1').mono ?_; rintro e w' ⟨rfl, rfl⟩))
      go_ret
      exact ⟨ret_int HY.out.symm, by go_grown⟩
    · go_enter Try.func41, Try.ntmps41
      go_wp2_with (first | (go_at_call 58; refine (szIntS_any _ _ _ _ _ hn h0 h1).mono ?_; rintro e w' ⟨rfl, rfl⟩) | (go_at_call 87; refine (szProxyS_any _ _ _ _ _ hm hz h1').mono ?_; rintro e w' ⟨rfl, rfl⟩))
      go_ret
      exact ⟨rfl, by go_grown⟩
set_option maxHeartbeats 1000000 in
theorem eqVoters_same (B B' : Nat) (A D A' D' : Option Addr) (c d c' d' : Nat) (f : Vtr) (w : World) (h : RdV B w A c D d f) (h' : RdV B' w A' c' D' d' f) :
    Calls Try.prog 45 #[.agg #[.slice A f.ws.length c, .slice D f.ps.length d], .agg #[.slice A' f.ws.length c', .slice D' f.ps.length d']] w fun e w' => e = .returned (.bool true) ∧ Below w.heap.size w w' := by
  have H := Lib.hid h
  have H' := Lib.hid h'
  have hd : decide (f.ws = f.ws) = true := decide_eq_true rfl
  clear h h'
  go_enter Try.func45, Try.ntmps45
  go_wp2_with fail
  refine (eqIntS_any A A' c c' f.ws f.ws _ (((H.out.1.cells).alloc_ _).alloc_ _) (((H'.out.1.cells).alloc_ _).alloc_ _) H.out.1.2.2.1 H.out.1.2.2.1).mono ?_
  rintro e w1 ⟨rfl, hb⟩
  obtain ⟨hc, hfz⟩ := bcell hb
  have hB := Lib.hid (after (w := w) (by go_grown) hb)
  have hz : w.heap.size + 1 < w1.heap.size := by have := hb.size; simp at this; omega
  have h0 := fun o => hc w.heap.size o (by simp; omega)
  have h1 := fun o => hc (w.heap.size + 1) o (by simp)
  clear hc hfz hb
  go_wp2_with fail
  refine (eqProxyS_same w1.heap.size w1.heap.size D D' d d' f.ps _ (Rd.up (B := w.heap.size) ?_ (by omega)) (Rd.up (B := w.heap.size) ?_ (by omega))).mono ?_
  · exact ⟨H.out.2.1, (CellsB.of_cells H.out.2.cells).below hB.out (Nat.le_refl _), H.out.2.2.2⟩
  · exact ⟨H'.out.2.1, (CellsB.of_cells H'.out.2.cells).below hB.out (Nat.le_refl _), H'.out.2.2.2⟩
  rintro e w2 ⟨rfl, hb⟩
  have hB2 := Lib.hid (after hB.out hb)
  clear hb
  go_wp2
  go_ret
  exact ⟨rfl, hB2.out⟩
end Go.Proofs.Ytcojohcnkafgdaa
