/- The marks on a copy of a list of proposals. Conditions: the ranges named. -/
import Derived.Test.YthohogimhijbdaaDk5
import Derived.Test.YthohogimhijbdaaMk
namespace Go.Proofs.Ythohogimhijbdaa
open Go.RowKit
set_option linter.unusedVariables false
set_option linter.unusedSimpArgs false
def cntP (ps : List Prp) : Nat := 5 * ps.length + cntW ps
theorem row_set {hs : List PrH} {j : Nat} (h : j < hs.length) (x : PrH) : setL (PrHK.row hs) (j * 6) (PrHK.enc x) = PrHK.row (hs.set j x) := by
  have hl : (PrHK.row (hs.take j)).length = j * 6 := by rw [PrHK.row_len, List.length_take, Nat.min_eq_left (Nat.le_of_lt h)]; rfl
  have h1 : hs = hs.take j ++ (hs[j] :: hs.drop (j + 1)) := by rw [← List.drop_eq_getElem_cons h, List.take_append_drop]
  have h2 : hs.set j x = hs.take j ++ (x :: hs.drop (j + 1)) := List.set_eq_take_append_cons_drop.trans (if_pos h)
  have e1 : PrHK.row hs = PrHK.row (hs.take j) ++ (PrHK.enc hs[j] ++ PrHK.row (hs.drop (j + 1))) := by
    rw [show PrHK.enc hs[j] ++ PrHK.row (hs.drop (j + 1)) = PrHK.row (hs[j] :: hs.drop (j + 1)) from rfl, ← PrHK.row_append, ← h1]
  rw [e1, ← hl, setL_append _ _ _ (by rw [PrHK.len, PrHK.len]), h2, PrHK.row_append]
  rfl
theorem set_same {Y : List Value} {i : Nat} {v : Value} (h : Y[i]? = some v) : Y.set i v = Y := by
  apply List.ext_getElem?
  intro m
  rw [List.getElem?_set]
  split
  · rename_i hm
    subst hm
    rw [h]
    simp [(List.getElem?_eq_some_iff.1 h).1]
  · rfl
theorem OwS.kept_ {lo hi : Nat} {w w' : World} {B : Option Addr} {d : Nat} {ss : List ByteArray} {row : Option Nat} (h : OwS lo hi w B d ss) (hg : w.grownBy w' row) (hne : ∀ b, B = some b → row ≠ some b.block) : OwS lo hi w' B d ss := by
  refine ⟨h.1.kept hg ?_, h.2⟩
  cases B with
  | none => exact .inl rfl
  | some b => exact .inr (fun e => hne b rfl (by rw [← e]; rfl))
/-- What a marking walk holds of headers hs at element j. -/
def MP (lo hi : Nat) (w : World) (A : Option Addr) (c : Nat) (ps : List Prp) (hs : List PrH) (j : Nat) : Prop := w.ownsRow lo 55 6 (.slice A ps.length c) ps.length (PrHK.row hs) ∧ (∀ i (h1 : i < hs.length) (h2 : i < ps.length), j ≤ i → hs[i].l = ps[i].a.ws.length ∧ OwS lo hi w hs[i].B hs[i].d ps[i].a.ws) ∧ Ord A hs
theorem markG {base : Nat} {A : Option Addr} {n c k : Nat} {xs : List Value} {w : World} (kk : Int) (hkk : kk = (k : Int)) (hown : w.ownsRow base 9 1 (.slice A n c) n xs) (hn : n ≤ 20000000) (hk0 : 0 < k) (hk : k ≤ 20000000) :
    Calls Try.prog 19 #[.slice A n c, .int .i64 kk] w fun e w' => e = .returned (.int .i64 (kk + n)) ∧ w'.ownsRow base 9 1 (.slice A n c) n (strs (marks k n)) ∧ w.grownBy w' (Value.slice A n c).ownBlock := by
  subst hkk
  exact markStringS_any base A n c k xs w hown hn hk0 hk
set_option maxHeartbeats 4000000 in
theorem markP_abs' {lo hi : Nat} {A : Option Addr} {c : Nat} {ps : List Prp} {w : World} (k : Nat) (kk : Int) (hkk : kk = (k : Int)) (h : OwP lo hi w A c ps) (hk0 : 0 < k) (hk : k ≤ 8000000) :
    Calls Try.prog 20 #[.slice A ps.length c, .int .i64 kk] w fun e w' => e = .returned (.int .i64 (kk + cntP ps)) ∧ Only lo hi w w' := by
  subst hkk
  obtain ⟨hs0, hl0, hown0, hu, hf, hin0, hor0⟩ := h
  obtain ⟨hf1, hf2, hf3⟩ := hf
  have HM0 := Lib.hid (show MP lo hi w A c ps hs0 0 from ⟨hown0, fun i h1 h2 _ => ⟨(hin0 i h1 h2).1.2.2.2.2.1, (hin0 i h1 h2).2⟩, hor0⟩)
  clear hown0 hin0 hor0
  go_enter Try.func20, Try.ntmps20
  go_wp2
  go_loopw [1, 5] (fun u i wr => ∃ (j : Nat) (hs : List PrH), hs.length = ps.length ∧ j ≤ ps.length ∧ i = .int .i64 j ∧ u = .int .i64 ((k : Int) + 5 * j + (cntW (ps.take j) : Nat)) ∧ MP lo hi wr A c ps hs j ∧ Only lo hi w wr) (fun _ i _ => ps.length - (intOf i).toNat)
  case atStart => exact ⟨0, hs0, hl0, Nat.zero_le _, rfl, by simp [cntW], HM0.out, Only.refl'⟩
  case round =>
    clear HM0 hl0
    obtain ⟨j, hs, hl, hj, rfl, rfl, hM, hO⟩ := hrel
    by_cases hlt : j < ps.length
    · obtain ⟨hown, hin, hor⟩ := hM
      obtain ⟨g, cap, hv, hbg, hgl⟩ := hown.form (by omega)
      obtain ⟨rfl, _, rfl⟩ : A = some ⟨g, 0, none⟩ ∧ ps.length = ps.length ∧ c = cap := by simpa using hv
      clear hv
      have hjl : j < hs.length := by omega
      have i1 : (j : Int) < (ps.length : Int) := by omega
      obtain ⟨h7, h8⟩ := hin j hjl hlt (Nat.le_refl _)
      obtain ⟨a9, e9, _, _, _, _, c4, _⟩ := prh_at (Cells.of_own hown) hjl
      obtain rfl : (⟨g, 0, none⟩ : Addr) = a9 := by simpa using e9
      rw [h7] at c4
      have hct := cntW_take hlt
      have hcl := cntW_le ps (j + 1)
      have hcw := cntW_le ps j
      obtain ⟨C, HC⟩ : ∃ C, Hid (cntW (ps.take j) = C) := ⟨_, Lib.hid rfl⟩
      rw [HC.out] at hct hcw ⊢
      obtain ⟨B, hB⟩ : ∃ B, Hid (hs[j].B = B) := ⟨_, Lib.hid rfl⟩
      obtain ⟨d, hd⟩ : ∃ d, Hid (hs[j].d = d) := ⟨_, Lib.hid rfl⟩
      rw [hB.out, hd.out] at h8 c4
      obtain ⟨S, HSS⟩ : ∃ S : Int, Hid ((k : Int) + 5 * j + (C : Nat) = S) := ⟨_, Lib.hid rfl⟩
      have hS0 : 1 ≤ S := by rw [← HSS.out]; omega
      have hS1 : S ≤ 15000000 := by rw [← HSS.out]; omega
      have hn1 : ps[j].a.ws.length ≤ 1048576 := h8.2.2.1
      have HOR := Lib.hid hor
      have HIN := Lib.hid hin
      have HCT := Lib.hid hct
      have HOO := Lib.hid hO
      have HL := Lib.hid hl
      obtain ⟨u0, g0⟩ := own_cell hown (j := j * 6) (by omega)
      have z0 := hown.frozenAt (j * 6)
      obtain ⟨u1, g1⟩ := own_cell hown (j := j * 6 + 1) (by omega)
      have z1 := hown.frozenAt (j * 6 + 1)
      obtain ⟨u2, g2⟩ := own_cell hown (j := j * 6 + 2) (by omega)
      have z2 := hown.frozenAt (j * 6 + 2)
      obtain ⟨u3, g3⟩ := own_cell hown (j := j * 6 + 3) (by omega)
      have z3 := hown.frozenAt (j * 6 + 3)
      rw [add_head] at c4
      replace c4 : wr.cell? ⟨g, j * 6 + 4, none⟩ = some (.slice B ps[j].a.ws.length d) := c4
      have s0 := hown.stored (j * 6) (.int .i64 S)
      have s1 := s0.1.stored (j * 6 + 1) (.int .i64 (S + 1))
      have s2 := s1.1.stored (j * 6 + 2) (.int .i64 (S + 1 + 1))
      have s3 := s2.1.stored (j * 6 + 3) (.int .i64 (S + 1 + 1 + 1))
      have HG4 := Lib.hid (grownBy_trans (grownBy_trans (grownBy_trans s0.2 s1.2) s2.2) s3.2)
      have HW4 := Lib.hid s3.1
      have hgB : ∀ b, B = some b → some g ≠ some b.block := fun b hb e => by
        have : g < b.block := hor.2 j hjl _ b rfl (hB.out.trans hb)
        have h9 := Option.some.inj e
        omega
      have HGB := Lib.hid hgB
      have HI4 := Lib.hid (h8.kept_ HG4.out hgB)
      have hX4 : (PrHK.row hs)[j * 6 + 4]? = some (.slice B ps[j].a.ws.length d) := by
        have := PrHK.row_get (xs := hs) (i := j) (j := 4) (v := .slice hs[j].B hs[j].l hs[j].d) hjl rfl
        rw [hB.out, hd.out, h7] at this
        exact this
      have HX4 := Lib.hid hX4
      have HLB := Lib.hid (fun b (hb : B = some b) => (show lo ≤ b.block ∧ b.block < hi from ⟨(h8.1.lt b.block (by rw [hb]; rfl)).1, h8.2.1 b hb⟩))
      have HU := Lib.hid (show lo ≤ g ∧ g < hi from ⟨hbg, hu _ rfl⟩)
      have HJL := Lib.hid hjl
      clear s0 s1 s2 s3 hown hor hin hct hO hl h8 hX4 hgB hcl hcw
      rw [HSS.out]
      obtain ⟨kS, hkS⟩ : ∃ kS : Nat, S + 1 + 1 + 1 + 1 = (kS : Int) := ⟨(S + 1 + 1 + 1 + 1).toNat, by omega⟩
      have HKS := Lib.hid hkS
      clear hkS hu hbg hgl
      go_wp2_with fail
      refine (markG (S + 1 + 1 + 1 + 1) HKS.out HI4.out.1 (by omega) (by have := HKS.out; omega) (by have := HKS.out; omega)).mono ?_
      rintro e w1 ⟨rfl, own1, hgS⟩
      have hne : (Value.slice (some ⟨g, 0, none⟩) ps.length c).ownBlock ≠ (Value.slice B ps[j].a.ws.length d).ownBlock := by
        cases B with
        | none => simp [Value.ownBlock]
        | some b => exact HGB.out b rfl
      have hown1 := HW4.out.kept hgS (.inr hne)
      have HGS := Lib.hid hgS
      obtain ⟨u5, g5⟩ := own_cell hown1 (j := j * 6 + 5) (by omega)
      have z5 := hown1.frozenAt (j * 6 + 5)
      have s5 := hown1.stored (j * 6 + 5) (.int .i64 (S + 1 + 1 + 1 + 1 + (ps[j].a.ws.length : Int)))
      have HG5 := Lib.hid s5.2
      have hrw := row_set HJL.out ⟨S, S + 1, S + 1 + 1, S + 1 + 1 + 1, B, ps[j].a.ws.length, d, S + 1 + 1 + 1 + 1 + (ps[j].a.ws.length : Int)⟩
      have hx4 : (((((PrHK.row hs).set (j * 6) (.int .i64 S)).set (j * 6 + 1) (.int .i64 (S + 1))).set (j * 6 + 2) (.int .i64 (S + 1 + 1))).set (j * 6 + 3) (.int .i64 (S + 1 + 1 + 1)))[j * 6 + 4]? = some (.slice B ps[j].a.ws.length d) := by
        rw [List.getElem?_set_ne (by omega), List.getElem?_set_ne (by omega), List.getElem?_set_ne (by omega), List.getElem?_set_ne (by omega)]
        exact HX4.out
      have h5 := s5.1
      rw [← set_same hx4] at h5
      have HS5 : Hid (World.ownsRow _ _ _ _ _ _ (PrHK.row (hs.set j ⟨S, S + 1, S + 1 + 1, S + 1 + 1 + 1, B, ps[j].a.ws.length, d, S + 1 + 1 + 1 + 1 + (ps[j].a.ws.length : Int)⟩))) := Lib.hid (by rw [← hrw]; exact h5)
      clear own1 hgS hown1 s5 hrw hx4 h5 hne
      go_wp2
      go_roundw
      case rel =>
        refine ⟨j + 1, hs.set j ⟨S, S + 1, S + 1 + 1, S + 1 + 1 + 1, B, ps[j].a.ws.length, d, S + 1 + 1 + 1 + 1 + (ps[j].a.ws.length : Int)⟩, by rw [List.length_set]; exact HL.out, hlt, by go_num, ?_, ⟨HS5.out, fun i h1 h2 hji => ?_, HOR.out.set HJL.out hB.out.symm⟩, ?_⟩
        · have e1 := HSS.out
          have e2 := HCT.out
          have e3 := HC.out
          congr 1
          rw [e2]
          push_cast
          omega
        · rw [List.getElem_set_ne (by omega)]
          have h1' : i < hs.length := by simpa using h1
          obtain ⟨q1, q2⟩ := HIN.out i h1' h2 (by omega)
          have ha : ∀ b, hs[i].B = some b → some g ≠ some b.block := fun b hb e => by
            have : g < b.block := HOR.out.2 i h1' _ b rfl hb
            have h9 := Option.some.inj e
            omega
          refine ⟨q1, ((q2.kept_ HG4.out ha).kept_ HGS.out fun b hb e => ?_).kept_ HG5.out ha⟩
          cases hBB : B with
          | none => rw [hBB] at e; simp [Value.ownBlock] at e
          | some b2 =>
            have := HOR.out.1 j i (by omega) h1' b2 b (hB.out.trans hBB) hb
            rw [hBB] at e
            have h9 : b2.block = b.block := Option.some.inj e
            omega
        · refine ((HOO.out.trans (Only.of_grown HG4.out fun g' e => ?_)).trans (Only.of_grown HGS.out fun g' e => ?_)).trans (Only.of_grown HG5.out fun g' e => ?_)
          · have h9 := Option.some.inj e; rw [← h9]; exact HU.out
          · cases hBB : B with
            | none => rw [hBB] at e; simp [Value.ownBlock] at e
            | some b2 =>
              rw [hBB] at e
              have h9 : b2.block = g' := Option.some.inj e
              rw [← h9]
              exact HLB.out b2 hBB
          · have h9 := Option.some.inj e; rw [← h9]; exact HU.out
      case measure => simp [intOf]; omega
    · obtain rfl : j = ps.length := by omega
      have HR := Lib.hid (show (k : Int) + 5 * (ps.length : Int) + (cntW (ps.take ps.length) : Nat) = (k : Int) + cntP ps by rw [List.take_length]; unfold cntP; push_cast; omega)
      rw [HR.out]
      have HO := Lib.hid hO
      clear hM hO
      go_wp2
      go_ret
      exact ⟨rfl, HO.out⟩
end Go.Proofs.Ythohogimhijbdaa
