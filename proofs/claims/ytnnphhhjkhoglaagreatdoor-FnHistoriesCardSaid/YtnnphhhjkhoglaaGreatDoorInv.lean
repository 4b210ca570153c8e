/- The amendment with the kind that it must have, inverse amendments, copies of amendments. Conditions: the ranges named. -/
import Derived.Test.YtnnphhhjkhoglaaGreatDoorApd
import Derived.Test.YtnnphhhjkhoglaaGreatDoorSets
import Derived.Test.YtnnphhhjkhoglaaGreatDoorApp
import Derived.Deep.DrawnRows
namespace Go.Proofs.YtnnphhhjkhoglaaGreatDoor
open Go.RowKit
set_option linter.unusedVariables false
attribute [local go_sem ↓] Go.wp_at_zero Go.wp_at_succ
theorem elStr : ElT Tryz.prog 24 9 1 16 := ElT.mk' Tryz.underlying24 infoStr rfl (by omega) (by omega)
theorem strs_len1 (ss : List ByteArray) : (strs ss).length = ss.length * 1 := by simp [strs_len]
/-- A call that returns an amendment of its own. -/
def MadeA (w : World) (a : Amd) (e : Ending) (w' : World) : Prop := ∃ (A : Option Addr) (c : Nat), e = .returned (.agg #[.int .i64 a.k, .int .i64 a.p, .int .i64 a.n, .slice A a.ws.length c]) ∧ w'.ownsRow w.heap.size 9 1 (.slice A a.ws.length c) a.ws.length (strs a.ws) ∧ Below w.heap.size w w'
theorem own_fin4 {w : World} {b n d E size : Nat} {O : Option Addr} {xs : List Value} (h : w.ownsRow (b + 1) E size (.slice O n d) n xs) (v0 v1 v2 v3 : Value) (o : Obj) :
    (((((w.setCell ⟨b, 0, none⟩ v0).setCell ⟨b, 1, none⟩ v1).setCell ⟨b, 2, none⟩ v2).setCell ⟨b, 3, none⟩ v3).alloc o).ownsRow b E size (.slice O n d) n xs :=
  own_mono (own_off h ((only4 w b v0 v1 v2 v3).alloc_ o) (Nat.le_refl _)) (Nat.le_succ _)
theorem fin_e {k k' p m : Int} {n d : Nat} {O : Option Addr} {l : List ByteArray} (h : k' = k) (hn : n = l.length) :
    Ending.returned (.agg #[.int .i64 k, .int .i64 p, .int .i64 m, .slice O n d]) = .returned (.agg #[.int .i64 (Amd.mk k' p m l).k, .int .i64 (Amd.mk k' p m l).p, .int .i64 (Amd.mk k' p m l).n, .slice O (Amd.mk k' p m l).ws.length d]) := by
  subst h hn; rfl
theorem own_fin4' {w : World} {b n d E size : Nat} {O : Option Addr} {xs : List Value} (h : w.ownsRow (b + 1) E size (.slice O n d) n xs) (v0 v1 v2 v3 : Value) :
    ((((w.setCell ⟨b, 0, none⟩ v0).setCell ⟨b, 1, none⟩ v1).setCell ⟨b, 2, none⟩ v2).setCell ⟨b, 3, none⟩ v3).ownsRow (b + 1) E size (.slice O n d) n xs :=
  own_off h (only4 w b v0 v1 v2 v3) (Nat.le_refl _)
/-- The kind that an amendment must have. -/
def kindI (n : Int) (ss : List ByteArray) : Int := if n = 0 then 1 else if ss.length = 0 then 2 else 3
set_option maxHeartbeats 800000 in
theorem l9Kind_any (p n : Int) (A : Option Addr) (c : Nat) (ss : List ByteArray) (w : World) (h : Cells w A (strs ss)) (hn : ss.length ≤ 1000000) :
    Calls Tryz.prog 50 #[.int .i64 p, .int .i64 n, .slice A ss.length c] w (MadeA w ⟨kindI n ss, p, n, ss⟩) := by
  have H := Lib.hid h
  clear h
  by_cases h0 : n = 0
  · subst h0
    have HK := Lib.hid (show kindI 0 ss = 1 by unfold kindI; rw [if_pos rfl])
    go_enter Tryz.func50, Tryz.ntmps50
    go_wp2_with (at_builtin; refine list_append elStr _ rfl _ _ rfl (w.heap.size + 1) _ A _ 0 ss.length c [] (strs ss) rfl rfl (strs_len1 ss) (own_nil_lit _ _ _ _ _ (by simp) (by simp)) ((H.out.alloc_ _).alloc_ _) strs_one (by simp) (by omega) ?_; intro O d w1 own hb; simp only [Nat.zero_add, List.nil_append] at own; have HO := Lib.hid own; obtain ⟨hc, hf⟩ := bcellB hb; have h1 := fun o => hc w.heap.size o (Nat.lt_succ_self _); have f1 := fun o => hf w.heap.size o (Nat.lt_succ_self _); have HB := Lib.hid (((Below.refl w.heap.size w).alloc (Nat.le_refl _) _).trans ((((Below.refl (w.heap.size + 1) _).alloc (by simp) _).trans hb).mono (Nat.le_succ _))); have hz : w.heap.size < w1.heap.size := (by have := hb.size; simp at this; omega); clear own hb hc hf)
    refine bodyPost_ret (v := .agg #[.int .i64 1, .int .i64 p, .int .i64 0, .slice O ss.length d]) (by simp [results, Tryz.results50, go_sem, h1, hz]) rfl ?_
    refine ⟨O, d, by rw [HK.out], ?_, ?_⟩
    · exact own_fin4 HO.out _ _ _ _ _
    · have := HB.out
      go_grown
  by_cases h2 : ss.length = 0
  · have h3 : (n == 0) = false := by simp [h0]
    have h4 : ((ss.length : Int) == 0) = true := by simp [h2]
    have HK := Lib.hid (show kindI n ss = 2 by unfold kindI; rw [if_neg h0, if_pos h2])
    clear h0 h2
    go_enter Tryz.func50, Tryz.ntmps50
    go_wp2_with (at_builtin; refine list_append elStr _ rfl _ _ rfl (w.heap.size + 1) _ A _ 0 ss.length c [] (strs ss) rfl rfl (strs_len1 ss) (own_nil_lit _ _ _ _ _ (by simp) (by simp)) ((H.out.alloc_ _).alloc_ _) strs_one (by simp) (by omega) ?_; intro O d w1 own hb; simp only [Nat.zero_add, List.nil_append] at own; have HO := Lib.hid own; obtain ⟨hc, hf⟩ := bcellB hb; have h1 := fun o => hc w.heap.size o (Nat.lt_succ_self _); have f1 := fun o => hf w.heap.size o (Nat.lt_succ_self _); have HB := Lib.hid (((Below.refl w.heap.size w).alloc (Nat.le_refl _) _).trans ((((Below.refl (w.heap.size + 1) _).alloc (by simp) _).trans hb).mono (Nat.le_succ _))); have hz : w.heap.size < w1.heap.size := (by have := hb.size; simp at this; omega); clear own hb hc hf)
    refine bodyPost_ret (v := .agg #[.int .i64 2, .int .i64 p, .int .i64 n, .slice O ss.length d]) (by simp [results, Tryz.results50, go_sem, h1, hz]) rfl ?_
    refine ⟨O, d, by rw [HK.out], ?_, ?_⟩
    · exact own_fin4 HO.out _ _ _ _ _
    · have := HB.out
      go_grown
  · have h3 : (n == 0) = false := by simp [h0]
    have h4 : ((ss.length : Int) == 0) = false := by simp only [beq_eq_false_iff_ne, ne_eq]; omega
    have HK := Lib.hid (show kindI n ss = 3 by unfold kindI; rw [if_neg h0, if_neg h2])
    clear h0 h2
    go_enter Tryz.func50, Tryz.ntmps50
    go_wp2_with (at_builtin; refine list_append elStr _ rfl _ _ rfl (w.heap.size + 1) _ A _ 0 ss.length c [] (strs ss) rfl rfl (strs_len1 ss) (own_nil_lit _ _ _ _ _ (by simp) (by simp)) ((H.out.alloc_ _).alloc_ _) strs_one (by simp) (by omega) ?_; intro O d w1 own hb; simp only [Nat.zero_add, List.nil_append] at own; have HO := Lib.hid own; obtain ⟨hc, hf⟩ := bcellB hb; have h1 := fun o => hc w.heap.size o (Nat.lt_succ_self _); have f1 := fun o => hf w.heap.size o (Nat.lt_succ_self _); have HB := Lib.hid (((Below.refl w.heap.size w).alloc (Nat.le_refl _) _).trans ((((Below.refl (w.heap.size + 1) _).alloc (by simp) _).trans hb).mono (Nat.le_succ _))); have hz : w.heap.size < w1.heap.size := (by have := hb.size; simp at this; omega); clear own hb hc hf)
    refine bodyPost_ret (v := .agg #[.int .i64 3, .int .i64 p, .int .i64 n, .slice O ss.length d]) (by simp [results, Tryz.results50, go_sem, h1, hz]) rfl ?_
    refine ⟨O, d, by rw [HK.out], ?_, ?_⟩
    · exact own_fin4 HO.out _ _ _ _ _
    · have := HB.out
      go_grown
theorem l9Kind_n (p n : Int) (A : Option Addr) (m c : Nat) (ss : List ByteArray) (w : World) (hm : m = ss.length) (h : Cells w A (strs ss)) (hn : ss.length ≤ 1000000) :
    Calls Tryz.prog 50 #[.int .i64 p, .int .i64 n, .slice A m c] w (MadeA w ⟨kindI n ss, p, n, ss⟩) := by
  subst hm; exact l9Kind_any p n A c ss w h hn
/-- The inverse of an amendment. -/
def invA (ss : List ByteArray) (a : Amd) : Amd := ⟨kindI a.ws.length (cutW ss a.p a.n), a.p, a.ws.length, cutW ss a.p a.n⟩
theorem cutW_len {ss : List ByteArray} {p n : Nat} (h : p + n ≤ ss.length) : (cutW ss p n).length = n := by
  unfold cutW; rw [Int.toNat_natCast, Int.toNat_natCast, List.length_take, List.length_drop]; omega
set_option maxHeartbeats 800000 in
theorem l9Inverse_any (T A : Option Addr) (t c : Nat) (ss : List ByteArray) (a : Amd) (w : World) (h : Cells w T (strs ss)) (hc : ss.length ≤ t) (hf : Fit ss) (hs : Small a) (hw : a.ws.length ≤ 5) (hfit : a.p + a.n ≤ ss.length) :
    Calls Tryz.prog 26 #[.slice T ss.length t, .agg #[.int .i64 a.k, .int .i64 a.p, .int .i64 a.n, .slice A a.ws.length c]] w (MadeA w (invA ss a)) := by
  obtain ⟨k, p, n, ws⟩ := a
  obtain ⟨hp0, hp1, hn0, hn1⟩ := hs
  simp only at *
  obtain ⟨p, rfl⟩ := Int.eq_ofNat_of_zero_le hp0
  obtain ⟨n, rfl⟩ := Int.eq_ofNat_of_zero_le hn0
  have q0 : IntKind.i64.wrap ((p : Int) + n) = (p : Int) + n := by rw [IntKind.wrap_i64]; omega
  have q1 : ((p : Int) + n).toNat = p + n := by omega
  have q2 : (p : Int) ≤ (p : Int) + n := by omega
  have q3 : (p : Int) + n ≤ (t : Int) := by omega
  have q4 : (p : Int) ≤ (t : Int) := by omega
  have q5 : (0 : Int) ≤ (p : Int) + n := by omega
  have H1 : Hid (Cells w (if t = p then T else T.map (·.add p)) (strs (cutW ss p n))) := by
    have := h.cut (lo := p) (n := n) (A' := if t = p then T else T.map (·.add p)) (fun h0 => by rw [if_neg (by omega)])
    rwa [strs_cut] at this
  obtain ⟨M, e1⟩ : ∃ M, (if t = p then T else T.map (·.add p)) = M := ⟨_, rfl⟩
  rw [e1] at H1
  have HL := Lib.hid (show n = (cutW ss p n).length from (cutW_len (by omega)).symm)
  have HN := Lib.hid (show (cutW ss p n).length ≤ 1000000 by rw [← HL.out]; omega)
  clear h
  go_enter Tryz.func26, Tryz.ntmps26
  go_wp2_with fail
  go_region_held3 (fun w' => Below (w.heap.size + 1) ((w.alloc (.cells #[.int .i64 k, .int .i64 p, .int .i64 n, .slice A ws.length c] 35)).alloc (.cells #[.int .i64 0, .int .i64 0, .int .i64 0, .slice none 0 0] 35)) w' ∧ (∀ b o, b < w.heap.size + 1 → w'.cell? ⟨b, o, none⟩ = ((w.alloc (.cells #[.int .i64 k, .int .i64 p, .int .i64 n, .slice A ws.length c] 35)).alloc (.cells #[.int .i64 0, .int .i64 0, .int .i64 0, .slice none 0 0] 35)).cell? ⟨b, o, none⟩))
    ((first | (refine mkS ?_; assumption) | (refine drewS ?_; assumption) | (refine set4S ?_ ?_; assumption; simp; done) | (refine mkS ?_; go_grown)))
    (first
      | (go_at_call 50; refine (l9Kind_n _ _ _ _ _ (cutW ss p n) _ HL.out ?_ HN.out).mono ?_; exact (H1.out.alloc_ _).alloc_ _; rintro e w1 ⟨O, d, rfl, own, hb⟩; have HO := Lib.hid (own_mono own (show w.heap.size + 1 + 1 ≤ _ by simp)); obtain ⟨hB, hzz⟩ := callS (by assumption) (by simp) hb; have HBz := Lib.hid hB; have hz : w.heap.size + 1 < w1.heap.size := (by have := hb.size; simp at this; omega); obtain ⟨hc1, hf1⟩ := bcell hb; have g1 := fun o => hc1 (w.heap.size + 1) o (by simp); have f1 := fun o => hf1 (w.heap.size + 1) o (by simp); clear hb own hc1 hf1))
  go_wp2
  refine bodyPost_ret (v := .agg #[.int .i64 (kindI ws.length (cutW ss p n)), .int .i64 p, .int .i64 ws.length, .slice O (cutW ss p n).length d]) (by simp [results, Tryz.results26, go_sem, g1]) rfl ?_
  refine ⟨O, d, rfl, ?_, ?_⟩
  · exact own_mono (own_fin4' HO.out _ _ _ _) (by omega)
  · have := fin_below HBz.out (by omega)
    go_grown
end Go.Proofs.YtnnphhhjkhoglaaGreatDoor
