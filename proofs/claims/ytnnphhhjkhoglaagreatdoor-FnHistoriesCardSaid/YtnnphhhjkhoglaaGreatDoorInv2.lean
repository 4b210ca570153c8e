/- The inverse of an amendment, as the program makes it. Conditions: the ranges named. -/
import Derived.Test.YtnnphhhjkhoglaaGreatDoorInv
import Derived.Deep.DrawnRows
namespace Go.Proofs.YtnnphhhjkhoglaaGreatDoor
open Go.RowKit
set_option linter.unusedVariables false
attribute [local go_sem ↓] Go.wp_at_zero Go.wp_at_succ
/-- The kind of the inverse. -/
def invK (k : Int) : Int := if k = 1 then 2 else if k = 2 then 1 else k
set_option maxHeartbeats 1600000 in
theorem inverse_any (T A : Option Addr) (t c : Nat) (ss : List ByteArray) (a : Amd) (w : World) (h : Cells w T (strs ss)) (hc : ss.length ≤ t) (hf : Fit ss) (hs : Small a) (hw : a.ws.length ≤ 5) (hfit : a.p + a.n ≤ ss.length) :
    Calls Tryz.prog 25 #[.slice T ss.length t, .agg #[.int .i64 a.k, .int .i64 a.p, .int .i64 a.n, .slice A a.ws.length c]] w (MadeA w ⟨invK a.k, a.p, a.ws.length, cutW ss a.p a.n⟩) := by
  obtain ⟨k, p, n, ws⟩ := a
  obtain ⟨hp0, hp1, hn0, hn1⟩ := hs
  simp only at *
  obtain ⟨p, rfl⟩ := Int.eq_ofNat_of_zero_le hp0
  obtain ⟨n, rfl⟩ := Int.eq_ofNat_of_zero_le hn0
  have q0 : IntKind.i64.wrap ((p : Int) + n) = (p : Int) + n := by rw [IntKind.wrap_i64]; omega
  have q1 : ((p : Int) + n).toNat = p + n := by omega
  have q2 : (p : Int) ≤ (p : Int) + n := by omega
  have q3 : (p : Int) + n ≤ (t : Int) := by omega
  have q4 : (p : Int) ≤ (t : Int) := by omega
  have q5 : (0 : Int) ≤ (p : Int) + n := by omega
  have H1 : Hid (Cells w (if t = p then T else T.map (·.add p)) (strs (cutW ss p n))) := by
    have := h.cut (lo := p) (n := n) (A' := if t = p then T else T.map (·.add p)) (fun h0 => by rw [if_neg (by omega)])
    rwa [strs_cut] at this
  obtain ⟨M, e1⟩ : ∃ M, (if t = p then T else T.map (·.add p)) = M := ⟨_, rfl⟩
  rw [e1] at H1
  have HL := Lib.hid (show n = (cutW ss p n).length from (cutW_len (by omega)).symm)
  have HN := Lib.hid (show (strs (cutW ss p n)).length = n * 1 by rw [strs_len, ← HL.out]; simp)
  clear h
  go_enter Tryz.func25, Tryz.ntmps25
  go_upto_region 1 with fail
  go_cut [5] (fun s wx => ∃ (g : Nat) (O : Option Addr) (d : Nat), s = .pointer (some ⟨g, 0, none⟩) ∧ w.heap.size + 2 ≤ g ∧ g < wx.heap.size ∧ BoxF wx g [.int .i64 k, .int .i64 p, .int .i64 ws.length, .slice O n d] ∧ wx.ownsRow (w.heap.size + 2) 9 1 (.slice O n d) n (strs (cutW ss p n)) ∧ (Value.slice O n d).ownBlock ≠ some g ∧ Below (w.heap.size + 2) ((w.alloc (.cells #[.int .i64 k, .int .i64 p, .int .i64 n, .slice A ws.length c] 35)).alloc (.cells #[.int .i64 0, .int .i64 0, .int .i64 0, .slice none 0 0] 35)) wx)
  case first =>
    go_region_held3 (fun w' => Below (w.heap.size + 2) ((w.alloc (.cells #[.int .i64 k, .int .i64 p, .int .i64 n, .slice A ws.length c] 35)).alloc (.cells #[.int .i64 0, .int .i64 0, .int .i64 0, .slice none 0 0] 35)) w' ∧ (∀ b o, b < w.heap.size + 2 → w'.cell? ⟨b, o, none⟩ = ((w.alloc (.cells #[.int .i64 k, .int .i64 p, .int .i64 n, .slice A ws.length c] 35)).alloc (.cells #[.int .i64 0, .int .i64 0, .int .i64 0, .slice none 0 0] 35)).cell? ⟨b, o, none⟩))
      ((first | (refine mkS ?_; assumption) | (refine allocS ?_ ?_; assumption; simp; done) | (refine set4S ?_ ?_; assumption; simp; done) | (refine drewS ?_; assumption) | (refine mkS ?_; go_grown)))
      (first
        | (refine step_append_lit elStr _ (by rfl) _ _ (by rfl) (w.heap.size + 2) _ M n _ (strs (cutW ss p n)) (by rfl) (by rfl) HN.out ?_ ?_ strs_one (by simp) (by omega) ?_; (first | exact own_nil_lit_d _ _ _ _ _ (by simp) (by simp) | exact own_nil_lit _ _ _ _ _ (by simp) (by simp) | exact own_nil_lit_ad _ _ _ _ _ _ (by simp) (by simp) | exact own_nil_lit_a _ _ _ _ _ _ (by simp) (by simp)); exact H1.out.below (by go_grown); intro O d w1 own hb hq; have HO := Lib.hid own; obtain ⟨hB, hzz⟩ := callS (by assumption) (by simp) hb; obtain ⟨hc1, hf1⟩ := bcell hb; have HBB := Lib.hid hb; have HQ := Lib.hid hq; have hz : w.heap.size + 1 < w1.heap.size := (by have := hb.size; simp at this; omega); clear hb own hq))
    all_goals (go_wp2_with fail; go_meet; refine ⟨_, O, d, rfl, ?_, ?_, ?_, ?_, ?_, ?_⟩)
    case rel.refine_1 => omega
    case rel.refine_2 => simp
    case rel.refine_3 => exact BoxF.new _ _ _
    case rel.refine_4 => exact own_alloc HO.out _
    case rel.refine_5 => intro e; exact Nat.lt_irrefl _ (HO.out.lt _ e).2
    case rel.refine_6 => go_grown
    all_goals (have hs := HBB.out.size; simp only [World.size_alloc, World.size_drew, World.size_setCell] at hs ⊢)
    all_goals first
      | omega
      | exact BoxF.call4 HBB.out (BoxF.new' _ _ _ _ (by simp)).drew (by simp)
      | exact BoxF.call4 HBB.out ((BoxF.new' _ _ _ _ (by simp)).below ((Below.refl _ _).alloc (Nat.le_refl _) _) (by simp)).drew (by simp)
      | (refine own_off4 HO.out (HQ.out _ ?_ ?_) _ _ _ _ <;> simp; done)
      | (refine HQ.out _ ?_ ?_ <;> simp; done)
      | (have := hB; go_grown)
  case rest =>
    obtain ⟨g, O, d, rfl, hg1, hg2, hbx, ho, hq, hB⟩ := hcut
    obtain ⟨W, rfl⟩ : ∃ W, W = wc := ⟨_, rfl⟩
    have b0 := hbx.1 0 _ rfl
    have b1 := hbx.1 1 _ rfl
    have b2 := hbx.1 2 _ rfl
    have b3 := hbx.1 3 _ rfl
    have bf := hbx.2
    obtain ⟨hcc, hff⟩ := bcellB hB
    have c0 := fun o => hcc w.heap.size o (by omega)
    have c1 := fun o => hcc (w.heap.size + 1) o (by omega)
    have f1 := fun o => hff (w.heap.size + 1) o (by omega)
    have hBB := Lib.hid (fin_below hB (by omega))
    have HO := Lib.hid ho
    have HQ := Lib.hid hq
    have hq2 := Lib.hid (show (Value.slice O n d).ownBlock ≠ some (w.heap.size + 1) from fun e => by have := (HO.out.lt _ e).1; omega)
    have ne1 : ¬ w.heap.size + 1 = g := by omega
    have ne2 : ¬ g = w.heap.size + 1 := by omega
    clear hbx ho hq hB hcc hff
    by_cases k1 : k = 1
    · subst k1
      have HK := Lib.hid (show invK 1 = 2 by rfl)
      go_wp2
      refine bodyPost_ret (v := .agg #[.int .i64 2, .int .i64 p, .int .i64 ws.length, .slice O n d]) (by simp [results, Tryz.results25, go_sem, c1]) rfl ?_
      refine ⟨O, d, fin_e HK.out HL.out, own_len (own_mono (base := w.heap.size + 2) ?_ (by omega)) HL.out, ?_⟩
      · exact own_off4 (ownsRow_setCell_other HO.out HQ.out _) hq2.out _ _ _ _
      · have := hBB.out
        go_grown
    by_cases k2 : k = 2
    · subst k2
      have HK := Lib.hid (show invK 2 = 1 by rfl)
      go_wp2
      refine bodyPost_ret (v := .agg #[.int .i64 1, .int .i64 p, .int .i64 ws.length, .slice O n d]) (by simp [results, Tryz.results25, go_sem, c1]) rfl ?_
      refine ⟨O, d, fin_e HK.out HL.out, own_len (own_mono (base := w.heap.size + 2) ?_ (by omega)) HL.out, ?_⟩
      · exact own_off4 (ownsRow_setCell_other HO.out HQ.out _) hq2.out _ _ _ _
      · have := hBB.out
        go_grown
    · have h1 : (k == 1) = false := by simp [k1]
      have h2 : (k == 2) = false := by simp [k2]
      have HK := Lib.hid (show invK k = k by unfold invK; rw [if_neg k1, if_neg k2])
      clear k1 k2
      go_wp2
      refine bodyPost_ret (v := .agg #[.int .i64 k, .int .i64 p, .int .i64 ws.length, .slice O n d]) (by simp [results, Tryz.results25, go_sem, c1]) rfl ?_
      refine ⟨O, d, fin_e HK.out HL.out, own_len (own_mono (base := w.heap.size + 2) ?_ (by omega)) HL.out, ?_⟩
      · exact own_off4 HO.out hq2.out _ _ _ _
      · have := hBB.out
        go_grown
end Go.Proofs.YtnnphhhjkhoglaaGreatDoor
