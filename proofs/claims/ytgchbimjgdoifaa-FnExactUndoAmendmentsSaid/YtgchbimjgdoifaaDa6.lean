/- The marks on a list of amendments, written and read. Conditions: the ranges named. -/
import Derived.Test.YtgchbimjgdoifaaDa5
import Derived.Test.YtgchbimjgdoifaaMk
namespace Go.Proofs.Ytgchbimjgdoifaa
open Go.RowKit
set_option linter.unusedVariables false
set_option linter.unusedSimpArgs false
def cntQ (ps : List Amd) : Nat := 3 * ps.length + cntV ps
/-- A list of amendments of this shape, marked from k on. -/
def mksQ : Nat → List Amd → List Amd
  | _, [] => []
  | k, p :: ps => ⟨k, k + 1, k + 2, marks (k + 3) p.ws.length⟩ :: mksQ (k + 3 + p.ws.length) ps
theorem mksQ_len (k : Nat) (ps : List Amd) : (mksQ k ps).length = ps.length := by
  induction ps generalizing k with
  | nil => rfl
  | cons p ps ih => simp [mksQ, ih]
theorem cntV_mks (k : Nat) (ps : List Amd) : cntV (mksQ k ps) = cntV ps := by
  induction ps generalizing k with
  | nil => rfl
  | cons p ps ih => simp [mksQ, cntV, ih, marks_len]
theorem mksQ_append (k : Nat) (ps qs : List Amd) : mksQ k (ps ++ qs) = mksQ k ps ++ mksQ (k + cntQ ps) qs := by
  induction ps generalizing k with
  | nil => simp [mksQ, cntQ, cntV]
  | cons p ps ih =>
    simp only [List.cons_append, mksQ, ih]
    congr 2
    congr 1
    simp [cntQ, cntV]; omega
theorem cntQ_take {ps : List Amd} {j : Nat} (h : j < ps.length) : cntQ (ps.take (j + 1)) = cntQ (ps.take j) + 3 + ps[j].ws.length := by
  unfold cntQ
  rw [cntV_take h, List.length_take, List.length_take, Nat.min_eq_left (by omega), Nat.min_eq_left (by omega)]
  omega
theorem cntQ_le (ps : List Amd) (j : Nat) : cntQ (ps.take j) ≤ cntQ ps := by
  unfold cntQ
  have := cntV_le ps j
  have : (ps.take j).length ≤ ps.length := by rw [List.length_take]; omega
  omega
/-- The first j are marked. -/
def mxQ (k j : Nat) (ps : List Amd) : List Amd := mksQ k (ps.take j) ++ ps.drop j
theorem mxQ_zero (k : Nat) (ps : List Amd) : mxQ k 0 ps = ps := by simp [mxQ, mksQ]
theorem mxQ_all (k : Nat) (ps : List Amd) : mxQ k ps.length ps = mksQ k ps := by simp [mxQ]
theorem mxQ_len (k j : Nat) (ps : List Amd) : (mxQ k j ps).length = ps.length := by
  unfold mxQ
  rw [List.length_append, mksQ_len, ← List.length_append, List.take_append_drop]
theorem mxQ_at {k j : Nat} {ps : List Amd} (h : j < ps.length) : (mxQ k j ps)[j]'(by rw [mxQ_len]; exact h) = ps[j] := by
  have hl : (mksQ k (ps.take j)).length = j := by rw [mksQ_len, List.length_take]; omega
  simp only [mxQ]
  rw [List.getElem_append_right (by omega)]
  simp [hl]
theorem mxQ_step {k j : Nat} {ps : List Amd} (h : j < ps.length) : (mxQ k j ps).set j ⟨((k + cntQ (ps.take j) : Nat) : Int), ((k + cntQ (ps.take j) : Nat) : Int) + 1, ((k + cntQ (ps.take j) : Nat) : Int) + 2, marks (k + cntQ (ps.take j) + 3) ps[j].ws.length⟩ = mxQ k (j + 1) ps := by
  have hl : (mksQ k (ps.take j)).length = j := by rw [mksQ_len, List.length_take]; omega
  unfold mxQ
  rw [List.take_succ_eq_append_getElem h, mksQ_append, List.set_append_right _ _ (by omega), hl, Nat.sub_self, List.drop_eq_getElem_cons h, List.set_cons_zero]
  simp [mksQ]
theorem row_setQ {hs : List AmH} {j : Nat} (h : j < hs.length) (x : AmH) : setL (AmHK.row hs) (j * 4) (AmHK.enc x) = AmHK.row (hs.set j x) := by
  have hl : (AmHK.row (hs.take j)).length = j * 4 := by rw [AmHK.row_len, List.length_take, Nat.min_eq_left (Nat.le_of_lt h)]; rfl
  have h1 : hs = hs.take j ++ (hs[j] :: hs.drop (j + 1)) := by rw [← List.drop_eq_getElem_cons h, List.take_append_drop]
  have h2 : hs.set j x = hs.take j ++ (x :: hs.drop (j + 1)) := List.set_eq_take_append_cons_drop.trans (if_pos h)
  have e1 : AmHK.row hs = AmHK.row (hs.take j) ++ (AmHK.enc hs[j] ++ AmHK.row (hs.drop (j + 1))) := by
    rw [show AmHK.enc hs[j] ++ AmHK.row (hs.drop (j + 1)) = AmHK.row (hs[j] :: hs.drop (j + 1)) from rfl, ← AmHK.row_append, ← h1]
  rw [e1, ← hl, setL_append _ _ _ (by rw [AmHK.len, AmHK.len]), h2, AmHK.row_append]
  rfl
theorem set_sameQ {Y : List Value} {i : Nat} {v : Value} (h : Y[i]? = some v) : Y.set i v = Y := by
  apply List.ext_getElem?
  intro m
  rw [List.getElem?_set]
  split
  · rename_i hm
    subst hm
    rw [h]
    simp [(List.getElem?_eq_some_iff.1 h).1]
  · rfl
theorem OwS.keptQ {lo hi : Nat} {w w' : World} {B : Option Addr} {d : Nat} {ss : List ByteArray} {row : Option Nat} (h : OwS lo hi w B d ss) (hg : w.grownBy w' row) (hne : ∀ b, B = some b → row ≠ some b.block) : OwS lo hi w' B d ss := by
  refine ⟨h.1.kept hg ?_, h.2⟩
  cases B with
  | none => exact .inl rfl
  | some b => exact .inr (fun e => hne b rfl (by rw [← e]; rfl))
theorem markGQ {base : Nat} {A : Option Addr} {n c k : Nat} {xs : List Value} {w : World} (kk : Int) (hkk : kk = (k : Int)) (hown : w.ownsRow base 9 1 (.slice A n c) n xs) (hn : n ≤ 20000000) (hk0 : 0 < k) (hk : k ≤ 20000000) :
    Calls Try.prog 16 #[.slice A n c, .int .i64 kk] w fun e w' => e = .returned (.int .i64 (kk + n)) ∧ w'.ownsRow base 9 1 (.slice A n c) n (strs (marks k n)) ∧ w.grownBy w' (Value.slice A n c).ownBlock := by
  subst hkk
  exact markStringS_any base A n c k xs w hown hn hk0 hk
theorem OwQ.cnt {lo hi : Nat} {w : World} {A : Option Addr} {c : Nat} {ps : List Amd} (h : OwQ lo hi w A c ps) : cntQ ps ≤ 4200000 := by
  obtain ⟨hs, _, _, _, ⟨h1, _, h2⟩, _⟩ := h
  unfold cntQ; omega
/-- What is held of a list with headers hs that is being marked. -/
def MQ (lo hi : Nat) (w : World) (A : Option Addr) (c n : Nat) (qs : List Amd) (hs : List AmH) : Prop := hs.length = n ∧ qs.length = n ∧ w.ownsRow lo 40 4 (.slice A n c) n (AmHK.row hs) ∧ (∀ i (h1 : i < hs.length) (h2 : i < qs.length), HeadsQ hs[i] qs[i] ∧ OwS lo hi w hs[i].B hs[i].d qs[i].ws) ∧ OrdQ A hs
set_option maxHeartbeats 4000000 in
theorem markQ_abs' {lo hi : Nat} {A : Option Addr} {c : Nat} {ps : List Amd} {w : World} (k : Nat) (kk : Int) (hkk : kk = (k : Int)) (h : OwQ lo hi w A c ps) (hk0 : 0 < k) (hk : k ≤ 8000000) :
    Calls Try.prog 17 #[.slice A ps.length c, .int .i64 kk] w fun e w' => e = .returned (.int .i64 (kk + cntQ ps)) ∧ OwQ lo hi w' A c (mksQ k ps) ∧ Only lo hi w w' := by
  subst hkk
  obtain ⟨hs0, hl0, hown0, hu, hf, hin0, hor0⟩ := h
  obtain ⟨hf1, hf2, hf3⟩ := hf
  have HM0 := Lib.hid (show MQ lo hi w A c ps.length ps hs0 from ⟨hl0, rfl, hown0, hin0, hor0⟩)
  have hcp : cntQ ps ≤ 4200000 := by unfold cntQ; omega
  clear hown0 hin0 hor0 hl0
  go_enter Try.func17, Try.ntmps17
  go_wp2
  go_loopw [1, 5] (fun u i wr => ∃ (j : Nat) (hs : List AmH), j ≤ ps.length ∧ i = .int .i64 j ∧ u = .int .i64 ((k + cntQ (ps.take j) : Nat) : Int) ∧ Hid (MQ lo hi wr A c ps.length (mxQ k j ps) hs) ∧ Hid (Only lo hi w wr)) (fun _ i _ => ps.length - (intOf i).toNat)
  case atStart => exact ⟨0, hs0, Nat.zero_le _, rfl, by simp [cntQ, cntV], by rw [mxQ_zero]; exact HM0, Lib.hid Only.refl'⟩
  case round =>
    clear HM0
    obtain ⟨j, hs, hj, rfl, rfl, hM, HOO⟩ := hrel
    by_cases hlt : j < ps.length
    · obtain ⟨hl, hql, hown, hin, hor⟩ := hM.out
      clear hM
      obtain ⟨g, cap, hv, hbg, hgl⟩ := hown.form (by omega)
      obtain ⟨rfl, _, rfl⟩ : A = some ⟨g, 0, none⟩ ∧ ps.length = ps.length ∧ c = cap := by simpa using hv
      clear hv
      have hjl : j < hs.length := by omega
      have i1 : (j : Int) < (ps.length : Int) := by omega
      obtain ⟨⟨_, _, _, h7⟩, h8⟩ := hin j hjl (by rw [mxQ_len]; exact hlt)
      rw [mxQ_at hlt] at h7 h8
      obtain ⟨a9, e9, _, _, _, c4⟩ := amh_at (Cells.of_own hown) hjl
      obtain rfl : (⟨g, 0, none⟩ : Addr) = a9 := by simpa using e9
      rw [h7] at c4
      have hct := cntQ_take hlt
      have hcl := cntQ_le ps (j + 1)
      have HST := Lib.hid (mxQ_step (k := k) hlt)
      obtain ⟨C, HC⟩ : ∃ C, Hid (k + cntQ (ps.take j) = C) := ⟨_, Lib.hid rfl⟩
      rw [HC.out] at HST ⊢
      have hC0 : 1 ≤ C := by rw [← HC.out]; omega
      have hC1 : C ≤ 13000000 := by rw [← HC.out]; omega
      have HCT := Lib.hid (show k + cntQ (ps.take (j + 1)) = C + 3 + ps[j].ws.length by rw [← HC.out]; omega)
      obtain ⟨B, hB⟩ : ∃ B, Hid (hs[j].B = B) := ⟨_, Lib.hid rfl⟩
      obtain ⟨d, hd⟩ : ∃ d, Hid (hs[j].d = d) := ⟨_, Lib.hid rfl⟩
      rw [hB.out, hd.out] at h8 c4
      have hn1 : ps[j].ws.length ≤ 1048576 := h8.2.2.1
      have HOR := Lib.hid hor
      have HIN := Lib.hid hin
      have HL := Lib.hid hl
      have HQL := Lib.hid hql
      obtain ⟨u0, g0⟩ := own_cell hown (j := j * 4) (by omega)
      have z0 := hown.frozenAt (j * 4)
      obtain ⟨u1, g1⟩ := own_cell hown (j := j * 4 + 1) (by omega)
      have z1 := hown.frozenAt (j * 4 + 1)
      obtain ⟨u2, g2⟩ := own_cell hown (j := j * 4 + 2) (by omega)
      have z2 := hown.frozenAt (j * 4 + 2)
      rw [add_head] at c4
      replace c4 : wr.cell? ⟨g, j * 4 + 3, none⟩ = some (.slice B ps[j].ws.length d) := c4
      have s0 := hown.stored (j * 4) (.int .i64 (C : Int))
      have s1 := s0.1.stored (j * 4 + 1) (.int .i64 ((C : Int) + 1))
      have s2 := s1.1.stored (j * 4 + 2) (.int .i64 ((C : Int) + 1 + 1))
      have HG4 := Lib.hid (grownBy_trans (grownBy_trans s0.2 s1.2) s2.2)
      have HW4 := Lib.hid s2.1
      have hgB : ∀ b, B = some b → some g ≠ some b.block := fun b hb e => by
        have : g ≠ b.block := hor.2 j hjl _ b rfl (hB.out.trans hb)
        have h9 := Option.some.inj e
        omega
      have HGB := Lib.hid hgB
      have HI4 := Lib.hid (h8.keptQ HG4.out hgB)
      have hX4 : (AmHK.row hs)[j * 4 + 3]? = some (.slice B ps[j].ws.length d) := by
        have := AmHK.row_get (xs := hs) (i := j) (j := 3) (v := .slice hs[j].B hs[j].l hs[j].d) hjl rfl
        rw [hB.out, hd.out, h7] at this
        exact this
      have HX4 := Lib.hid hX4
      have HLB := Lib.hid (fun b (hb : B = some b) => (show lo ≤ b.block ∧ b.block < hi from ⟨(h8.1.lt b.block (by rw [hb]; rfl)).1, h8.2.1 b hb⟩))
      have HU8 := Lib.hid h8.2.1
      have HU := Lib.hid (show lo ≤ g ∧ g < hi from ⟨hbg, hu _ rfl⟩)
      have HJL := Lib.hid hjl
      have HH7 := Lib.hid h7
      clear s0 s1 s2 hown hor hin hl hql h7 h8 hX4 hgB hcl hct
      have HKS : Hid ((C : Int) + 1 + 1 + 1 = ((C + 3 : Nat) : Int)) := Lib.hid (by omega)
      clear hu hbg hgl
      go_wp2_with fail
      refine (markGQ (C + 1 + 1 + 1 : Int) HKS.out HI4.out.1 (by omega) (by omega) (by omega)).mono ?_
      rintro e w1 ⟨rfl, own1, hgS⟩
      have hne : (Value.slice (some ⟨g, 0, none⟩) ps.length c).ownBlock ≠ (Value.slice B ps[j].ws.length d).ownBlock := by
        cases B with
        | none => simp [Value.ownBlock]
        | some b => exact HGB.out b rfl
      have hown1 := HW4.out.kept hgS (.inr hne)
      have HGS := Lib.hid hgS
      have HO1 := Lib.hid own1
      have hrw := row_setQ HJL.out ⟨(C : Int), (C : Int) + 1, (C : Int) + 1 + 1, B, ps[j].ws.length, d⟩
      have hx4 : ((((AmHK.row hs).set (j * 4) (.int .i64 (C : Int))).set (j * 4 + 1) (.int .i64 ((C : Int) + 1))).set (j * 4 + 2) (.int .i64 ((C : Int) + 1 + 1)))[j * 4 + 3]? = some (.slice B ps[j].ws.length d) := by
        rw [List.getElem?_set_ne (by omega), List.getElem?_set_ne (by omega), List.getElem?_set_ne (by omega)]
        exact HX4.out
      have h5 := hown1
      rw [← set_sameQ hx4] at h5
      have HS5 : Hid (World.ownsRow _ _ _ _ _ _ (AmHK.row (hs.set j ⟨(C : Int), (C : Int) + 1, (C : Int) + 1 + 1, B, ps[j].ws.length, d⟩))) := Lib.hid (by rw [← hrw]; exact h5)
      clear own1 hgS hown1 hrw hx4 h5 hne
      go_wp2
      go_roundw
      case rel =>
        refine ⟨j + 1, hs.set j ⟨(C : Int), (C : Int) + 1, (C : Int) + 1 + 1, B, ps[j].ws.length, d⟩, hlt, by go_num, by rw [HCT.out]; congr 1 <;> omega, Lib.hid ⟨by rw [List.length_set]; exact HL.out, mxQ_len _ _ _, HS5.out, fun i h1 h2 => ?_, HOR.out.set HJL.out hB.out.symm⟩, Lib.hid ?_⟩
        · have h1' : i < hs.length := by simpa using h1
          have e2 : (mxQ k (j + 1) ps)[i]'h2 = ((mxQ k j ps).set j ⟨(C : Int), (C : Int) + 1, (C : Int) + 2, marks (C + 3) ps[j].ws.length⟩)[i]'(by rw [HST.out]; exact h2) := by
            simp only [HST.out]
          rw [e2]
          by_cases hij : j = i
          · subst hij
            rw [List.getElem_set_self, List.getElem_set_self]
            refine ⟨⟨rfl, rfl, by show (C : Int) + 1 + 1 = (C : Int) + 2; omega, (marks_len _ _).symm⟩, ?_, HU8.out, Fit.marks hn1 (by omega)⟩
            show World.ownsRow _ _ _ _ (.slice B (marks (C + 3) ps[j].ws.length).length d) (marks (C + 3) ps[j].ws.length).length _
            rw [marks_len]
            exact HO1.out
          · rw [List.getElem_set_ne hij, List.getElem_set_ne hij]
            obtain ⟨q1, q2⟩ := HIN.out i h1' (by rw [mxQ_len]; have := HL.out; omega)
            have ha : ∀ b, hs[i].B = some b → some g ≠ some b.block := fun b hb e => by
              have : g ≠ b.block := HOR.out.2 i h1' _ b rfl hb
              have h9 := Option.some.inj e
              omega
            refine ⟨q1, (q2.keptQ HG4.out ha).keptQ HGS.out fun b hb e => ?_⟩
            cases hBB : B with
            | none => rw [hBB] at e; simp [Value.ownBlock] at e
            | some b2 =>
              rw [hBB] at e
              have h9 : b2.block = b.block := Option.some.inj e
              rcases Nat.lt_or_ge i j with h3 | h3
              · have := HOR.out.1 i j h3 HJL.out b b2 hb (hB.out.trans hBB); omega
              · have := HOR.out.1 j i (by omega) h1' b2 b (hB.out.trans hBB) hb; omega
        · refine (HOO.out.trans (Only.of_grown HG4.out fun g' e => ?_)).trans (Only.of_grown HGS.out fun g' e => ?_)
          · have h9 := Option.some.inj e; rw [← h9]; exact HU.out
          · cases hBB : B with
            | none => rw [hBB] at e; simp [Value.ownBlock] at e
            | some b2 =>
              rw [hBB] at e
              have h9 : b2.block = g' := Option.some.inj e
              rw [← h9]
              exact HLB.out b2 hBB
      case measure => simp [intOf]; omega
    · obtain rfl : j = ps.length := by omega
      have HR := Lib.hid (show ((k + cntQ (ps.take ps.length) : Nat) : Int) = (k : Int) + cntQ ps by rw [List.take_length]; push_cast; rfl)
      rw [HR.out]
      rw [mxQ_all] at hM
      go_wp2
      go_ret
      refine ⟨rfl, ?_, HOO.out⟩
      obtain ⟨hl, hql, hown, hin, hor⟩ := hM.out
      refine ⟨hs, by rw [hl, hql], by rw [hql]; exact hown, hu, ⟨by rw [hql]; exact hf1, fun p hp => ?_, by rw [cntV_mks]; exact hf3⟩, hin, hor⟩
      obtain ⟨i, hi, rfl⟩ := List.getElem_of_mem hp
      exact (hin i (by omega) hi).2.2.2
theorem mksQ_at {ps : List Amd} {k j : Nat} (h : j < ps.length) : (mksQ k ps)[j]'(by rw [mksQ_len]; exact h) = ⟨((k + cntQ (ps.take j) : Nat) : Int), ((k + cntQ (ps.take j) : Nat) : Int) + 1, ((k + cntQ (ps.take j) : Nat) : Int) + 2, marks (k + cntQ (ps.take j) + 3) ps[j].ws.length⟩ := by
  induction ps generalizing k j with
  | nil => simp at h
  | cons p ps ih =>
    cases j with
    | zero => simp [mksQ, cntQ, cntV]
    | succ j =>
      have h' : j < ps.length := by simpa using h
      simp only [mksQ, List.getElem_cons_succ, List.take_succ_cons]
      rw [ih h']
      have e : k + 3 + p.ws.length + cntQ (ps.take j) = k + cntQ (p :: ps.take j) := by simp [cntQ, cntV]; omega
      rw [e]
theorem heldG {A : Option Addr} {n c k : Nat} {w : World} (kk : Int) (hkk : kk = (k : Int)) (ha : Cells w A (strs (marks k n))) (hn : n ≤ 20000000) (hk0 : 0 < k) (hk : k ≤ 20000000) :
    Calls Try.prog 18 #[.slice A n c, .int .i64 kk] w fun e w' => e = .returned (.int .i64 (kk + n)) ∧ Below w.heap.size w w' := by
  subst hkk
  exact heldStringS_yes A n c k w ha hn hk0 hk
set_option maxHeartbeats 2000000 in
theorem heldQ_abs' {B : Nat} {A : Option Addr} {c : Nat} {ps : List Amd} {w : World} (k : Nat) (kk : Int) (hkk : kk = (k : Int)) (h : RdQ B w A c (mksQ k ps)) (hk0 : 0 < k) (hk : k ≤ 8000000) :
    Calls Try.prog 21 #[.slice A ps.length c, .int .i64 kk] w fun e w' => e = .returned (.int .i64 (kk + cntQ ps)) ∧ Below w.heap.size w w' := by
  subst hkk
  have hf1 := h.2.1
  have hf3 := h.2.2.2
  rw [mksQ_len] at hf1
  rw [cntV_mks] at hf3
  have hcp : cntQ ps ≤ 4200000 := by unfold cntQ; omega
  have HD := Lib.hid h.1.dl
  clear h hf3
  go_enter Try.func21, Try.ntmps21
  go_wp2
  go_loopw [1, 5] (fun u i wr => ∃ j : Nat, j ≤ ps.length ∧ i = .int .i64 j ∧ u = .int .i64 ((k + cntQ (ps.take j) : Nat) : Int) ∧ Hid (Below w.heap.size w wr)) (fun _ i _ => ps.length - (intOf i).toNat)
  case atStart => exact ⟨0, Nat.zero_le _, rfl, by simp [cntQ, cntV], Lib.hid (Below.refl _ _)⟩
  case round =>
    obtain ⟨j, hj, rfl, rfl, HB⟩ := hrel
    by_cases hlt : j < ps.length
    · have i1 : (j : Int) < (ps.length : Int) := by omega
      obtain ⟨a, A1, d1, rfl, ⟨c0, c1, c2, c3⟩, hle, hcw⟩ := (HD.out.below HB.out).at_ (i := j) (by rw [mksQ_len]; exact hlt)
      rw [mksQ_at hlt] at c0 c1 c2 c3 hle hcw
      simp only [marks_len] at c0 c1 c2 c3 hle hcw
      have hct := cntQ_take hlt
      have hcl := cntQ_le ps (j + 1)
      obtain ⟨C, HC⟩ : ∃ C, Hid (k + cntQ (ps.take j) = C) := ⟨_, Lib.hid rfl⟩
      rw [HC.out] at c0 c1 c2 hcw ⊢
      have hC0 : 1 ≤ C := by rw [← HC.out]; omega
      have hC1 : C ≤ 13000000 := by rw [← HC.out]; omega
      have HCT := Lib.hid (show k + cntQ (ps.take (j + 1)) = C + 3 + ps[j].ws.length by rw [← HC.out]; omega)
      have hn1 : ps[j].ws.length ≤ 4200000 := by unfold cntQ at hcp hct hcl; omega
      have e2 : (C : Int) + 2 = (C : Int) + 1 + 1 := by omega
      rw [e2] at c2
      have HKS : Hid ((C : Int) + 1 + 1 + 1 = ((C + 3 : Nat) : Int)) := Lib.hid (by omega)
      have HW := Lib.hid hcw
      have n0 : ((C : Int) != (C : Int)) = false := by simp
      have n1 : ((C : Int) + 1 != (C : Int) + 1) = false := by simp
      have n2 : ((C : Int) + 1 + 1 != (C : Int) + 1 + 1) = false := by simp
      clear e2
      have NN := Lib.hid n2
      clear hct hcl hle hcw
      go_wp2_with fail
      refine (heldG (C + 1 + 1 + 1 : Int) (by have := HKS.out; omega) HW.out (by omega) (by omega) (by omega)).mono ?_
      rintro e w1 ⟨rfl, hb⟩
      have HB1 := Lib.hid (after HB.out hb)
      clear hb
      go_wp2
      go_roundw
      case rel => exact ⟨j + 1, hlt, by go_num, by rw [HCT.out]; congr 1 <;> omega, HB1⟩
      case measure => simp [intOf]; omega
    · obtain rfl : j = ps.length := by omega
      have HR := Lib.hid (show ((k + cntQ (ps.take ps.length) : Nat) : Int) = (k : Int) + cntQ ps by rw [List.take_length]; push_cast; rfl)
      rw [HR.out]
      go_wp2
      go_ret
      exact ⟨rfl, HB.out⟩
end Go.Proofs.Ytgchbimjgdoifaa
