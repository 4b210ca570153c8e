/- ParseDocument of the reference. Conditions: the ranges named. -/
import Derived.Test.YtajfbiihlfccnaaDoorDoc2
namespace Go.Proofs.YtajfbiihlfccnaaDoor
open Go.RowKit
set_option linter.unusedVariables false
set_option linter.unusedSimpArgs false
theorem ds_long {l : List UInt8} (h : 300 < l.length) : dpS l = none := by unfold dpS; rw [if_pos (.inl h)]
theorem ds_last {l : List UInt8} {ls : List (List UInt8)} (hl : spl 10 l = ls) (h : ls.getLast? ≠ some []) : dpS l = none := by unfold dpS; rw [hl, if_pos (.inr h)]
theorem last_at {ls : List (List UInt8)} {n : Nat} (hn : ls.length = n) (h1 : 1 ≤ n) {x : List UInt8} (hx : ls[n - 1]? = some x) : ls.getLast? = some x := by rw [List.getLast?_eq_getElem?, hn, hx]
theorem ds_two {l : List UInt8} {ls : List (List UInt8)} (hl : spl 10 l = ls) {k : Nat} (hk : k < ls.length - 1) (hk2 : k < ls.length) (h : twoW ls[k] = false) : dpS l = none := by
  unfold dpS
  rw [hl]
  split
  · rfl
  · rw [if_neg]
    intro hc
    rw [List.all_eq_true] at hc
    have h2 := hc ls[k] (by
      rw [List.dropLast_eq_take]
      have h3 : (ls.take (ls.length - 1))[k]? = some ls[k] := by rw [List.getElem?_take, if_pos hk, List.getElem?_eq_getElem hk2]
      exact List.mem_of_getElem? h3)
    rw [h] at h2
    cases h2
theorem ds_fin {l : List UInt8} {ls : List (List UInt8)} {xs : List Sec} {n : Nat} (hl : spl 10 l = ls) (hn : ls.length = n) (h3 : ¬ 300 < l.length) (hg : ls.getLast? = some []) (ha : (ls.take (n - 1)).all twoW = true) (hx : xs = (ls.take (n - 1)).map secW) : dpS l = finD l xs := by
  unfold dpS
  rw [hl, if_neg (by intro h; rcases h with h | h; · exact h3 h
                     · exact h hg), List.dropLast_eq_take, hn, if_pos ha, hx]
theorem secW_snoc {ls : List (List UInt8)} {k : Nat} (hk : k < ls.length) : (ls.take (k + 1)).map secW = (ls.take k).map secW ++ [secW ls[k]] := by
  rw [List.take_add_one, List.getElem?_eq_getElem hk, List.map_append]
  rfl
theorem twoW_snoc {ls : List (List UInt8)} {k : Nat} (hk : k < ls.length) (h : (ls.take k).all twoW = true) (h2 : twoW ls[k] = true) : (ls.take (k + 1)).all twoW = true := by
  rw [List.take_add_one, List.getElem?_eq_getElem hk, List.all_append, h]
  simp [h2]
theorem below_ex {w w' : World} (h : ∃ m, w' = w.drewN m) : Below w.heap.size w w' := by
  obtain ⟨m, rfl⟩ := h
  exact below_drewN (Below.refl _ _) _
set_option maxRecDepth 100000 in
set_option maxHeartbeats 8000000 in
theorem sParseDocument_any (s : ByteArray) (w : World) (hs : s.size ≤ 1048576) : Calls Tryd.prog 21 #[.string s] w (ToLB SectionK 51 w (dcR (dpS s.data.toList)) (dcB (dpS s.data.toList))) := by
  have hsl : s.data.toList.length = s.size := Array.length_toList
  obtain ⟨ls, hls⟩ : ∃ ls, Hid (spl 10 s.data.toList = ls) := ⟨_, Lib.hid rfl⟩
  have HZ : Hid (∀ l ∈ ls, l.length ≤ s.size) := Lib.hid (fun l hl => by rw [← hls.out] at hl; have := spl_mem hl; omega)
  have hp1 : 1 ≤ ls.length := by rw [← hls.out]; exact spl_pos _ _
  have hbl := below1 w (.cells #[] 51)
  have HB0 := Lib.hid hbl
  have E0 := Lib.hid (show OwD SectionK 51 w.heap.size (w.alloc (.cells #[] 51)) (some ⟨w.heap.size, 0, none⟩) 0 [] from Ow.mk (K := SectionK) (own_nil_lit w w.heap.size w.heap.size 51 2 rfl (Nat.le_refl _)) (by simp) (by simp))
  clear hbl
  go_enter Tryd.func21, Tryd.ntmps21
  go_wp2_with fail
  generalize (w.alloc (.cells #[] 51)) = W at *
  refine (l1SplitL_any 10 s W hs).mono ?_
  rintro e v0 ⟨O, oc, ps, rfl, hps, own, hb⟩
  rw [hls.out] at hps
  have hpl : ps.length = ls.length := by rw [hps, List.length_map]
  have HP := Lib.hid hps
  have O0 := Lib.hid (show OwP w.heap.size v0 O oc ps from ⟨own_mono own.1 HB0.out.size, own.2⟩)
  replace E0 := Lib.hid (E0.out.call hb)
  have HB := Lib.hid (HB0.out.trans (hb.mono HB0.out.size))
  clear HB0
  obtain ⟨n, hn⟩ : ∃ n, ps.length = n := ⟨_, rfl⟩
  rw [hn]
  have hnl : ls.length = n := by omega
  have HNL := Lib.hid hnl
  have HPN := Lib.hid hn
  have h1n : 1 ≤ n := by omega
  clear hps own hb hn hpl hp1
  have hl1 : n - 1 < ls.length := by omega
  have HL1 := Lib.hid hl1
  obtain ⟨g, hO, hcl⟩ := str_cell O0.out HP.out hl1
  obtain ⟨lz, hlz⟩ : ∃ x, Hid (ls[n - 1]'HL1.out = x) := ⟨_, Lib.hid rfl⟩
  rw [hlz.out] at hcl
  have HLA : Hid (ls.getLast? = some lz) := Lib.hid (last_at HNL.out h1n (by rw [List.getElem?_eq_getElem HL1.out, hlz.out]))
  have q1 : IntKind.i64.wrap ((n : Int) - 1) = ((n - 1 : Nat) : Int) := by rw [IntKind.wrap_i64]; have h9 := HPN.out; have h8 := spl_len 10 s.data.toList []; have h7 := hls.out; unfold spl at h7; rw [h7, HNL.out] at h8; omega
  have q2 : (0 : Int) ≤ ((n - 1 : Nat) : Int) := by omega
  have q3 : ((n - 1 : Nat) : Int) < (n : Int) := by omega
  have q4 : ((n - 1 : Nat) : Int).toNat = n - 1 := by omega
  subst hO
  clear hl1 hnl hlz HL1
  by_cases h3 : 300 < s.size
  · have c1 : (300 : Int) < (s.size : Int) := by omega
    have HR := Lib.hid (ds_long (l := s.data.toList) (by omega))
    clear h3
    go_wp2
    go_ret2
    exact toLB_emp HR.out E0.out HB.out
  have c1 : ¬ (300 : Int) < (s.size : Int) := by omega
  have H3 := Lib.hid (show ¬ 300 < s.data.toList.length by omega)
  have HS3 := Lib.hid h3
  clear h3
  by_cases hz : lz = []
  · subst hz
    have hcl2 : v0.cell? ⟨g, n - 1, none⟩ = some (.string ⟨#[]⟩) := hcl
    clear hcl
    have HN300 : Hid (n ≤ 301) := Lib.hid (by have h8 := spl_len 10 s.data.toList []; have h7 := hls.out; unfold spl at h7; rw [h7, HNL.out] at h8; have := H3.out; omega)
    have O1 := Lib.hid (O0.out.owd (by have := HPN.out; have := HN300.out; omega))
    clear O0
    go_wp2
    go_loopw [4, 6] (fun u i wr => ∃ (Q : Option Addr) (qc : Nat) (xs : List Sec), xs.length ≤ n - 1 ∧ i = .int .i64 xs.length ∧ u = .slice Q xs.length qc ∧ Hid (xs = (ls.take xs.length).map secW) ∧ Hid ((ls.take xs.length).all twoW = true) ∧ Hid (OwD SectionK 51 w.heap.size wr Q qc xs) ∧ Hid (OwD StrK 9 w.heap.size wr (some ⟨g, 0, none⟩) oc ps) ∧ Hid (Below w.heap.size w wr)) (fun _ i _ => n - 1 - (intOf i).toNat)
    case atStart => exact ⟨_, 0, [], Nat.zero_le _, rfl, rfl, Lib.hid rfl, Lib.hid rfl, E0, O1, HB⟩
    case round =>
      clear E0 O1 HB hcl2
      obtain ⟨wq, hwq⟩ : ∃ x : World, x = wr := ⟨_, rfl⟩
      subst hwq
      obtain ⟨Q, qc, xs, hk, rfl, rfl, HX, HW, OX, OP, HB⟩ := hrel
      by_cases hlt : xs.length < n - 1
      · have hkl : xs.length < ls.length := by have := HNL.out; omega
        obtain ⟨g0, hO, hc⟩ := str_cell (O := some ⟨g, 0, none⟩) ⟨(show wq.ownsRow w.heap.size 9 1 (.slice (some ⟨g, 0, none⟩) ps.length oc) ps.length (StrK.row ps) from OP.out.1), OP.out.2.2.2⟩ HP.out hkl
        obtain ⟨rfl, _⟩ : g = g0 ∧ True := ⟨by cases hO; rfl, trivial⟩
        clear hO
        have HKL := Lib.hid hkl
        obtain ⟨l, hl⟩ : ∃ l, Hid (ls[xs.length]'HKL.out = l) := ⟨_, Lib.hid rfl⟩
        rw [hl.out] at hc
        have HLL := Lib.hid (show l.length ≤ s.size by rw [← hl.out]; exact HZ.out _ (List.getElem_mem hkl))
        have HLT := Lib.hid hlt
        have i1 : (xs.length : Int) < ((n - 1 : Nat) : Int) := by omega
        have i2 : (xs.length : Int) < (n : Int) := by omega
        clear hkl
        go_wp2_with fail
        refine (l1SplitL_any 32 (bar l) _ (by rw [bar_size]; have := HLL.out; omega)).mono ?_
        rintro e v1 ⟨O1, o1, ws, rfl, hws, own, hb⟩
        rw [bar_list] at hws
        replace OX := Lib.hid (OX.out.call hb)
        replace OP := Lib.hid (OP.out.call hb)
        have WP := Lib.hid (show OwP w.heap.size v1 O1 o1 ws from ⟨own_mono own.1 HB.out.size, own.2⟩)
        replace HB := Lib.hid (HB.out.trans (hb.mono HB.out.size))
        clear hb hc own
        obtain ⟨m, hm⟩ : ∃ m, ws.length = m := ⟨_, rfl⟩
        rw [hm]
        have hml : (spl 32 l).length = m := by rw [← hm, hws, List.length_map]
        have HWS := Lib.hid hws
        have HM := Lib.hid hm
        clear hws hm
        by_cases h2 : m = 2
        · subst h2
          obtain ⟨w0, w1, e2⟩ : ∃ a b, spl 32 l = [a, b] := by
            match he : spl 32 l, hml with
            | [a, b], _ => exact ⟨a, b, rfl⟩
          have HE2 := Lib.hid e2
          clear e2 hml
          have HWS2 : Hid (ws = [w0, w1].map bar) := Lib.hid (by rw [HWS.out, HE2.out])
          clear HWS
          obtain ⟨g2, hO2, _⟩ := str_cell WP.out HWS2.out (k := 0) (by simp)
          subst hO2
          have KX : ∀ {w'' : World}, OwP w.heap.size w'' (some ⟨g2, 0, none⟩) o1 ws → (w''.cell? ⟨g2, 0, none⟩ = some (.string (bar w0)) ∧ w''.cell? ⟨g2, 1, none⟩ = some (.string (bar w1))) := fun h => ⟨by (obtain ⟨g3, h3, h4⟩ := str_cell h HWS2.out (k := 0) (by simp)); cases h3; exact h4, by (obtain ⟨g3, h3, h4⟩ := str_cell h HWS2.out (k := 1) (by simp)); cases h3; exact h4⟩
          have HW0 := Lib.hid (show w0.length ≤ l.length from spl_mem (c := 32) (by rw [HE2.out]; simp))
          have HW1 := Lib.hid (show w1.length ≤ l.length from spl_mem (c := 32) (by rw [HE2.out]; simp))
          have HSE : Hid (secW l = ⟨((spl 46 w0).length : Int), bar w1⟩) := Lib.hid (by unfold secW; rw [HE2.out]; rfl)
          have HTW := Lib.hid (show twoW l = true by unfold twoW; rw [HE2.out]; rfl)
          have HSN := Lib.hid (secW_snoc HKL.out)
          rw [← HX.out, hl.out] at HSN
          have HWN := Lib.hid (twoW_snoc HKL.out HW.out (by rw [hl.out]; exact HTW.out))
          have HFT := Lib.hid (show SectionK.fit ⟨((spl 46 w0).length : Int), bar w1⟩ by show (bar w1).size ≤ maxLen; rw [bar_size]; have := HW1.out; have := HLL.out; unfold maxLen; omega)
          have HX20 := Lib.hid (show xs.length ≤ 1000000 by have := HN300.out; omega)
          have hx20 : xs.length + 1 ≤ 1100000 := by have := HX20.out; omega
          obtain ⟨d, hd⟩ : ∃ d, Hid ((spl 46 w0).length = d) := ⟨_, Lib.hid rfl⟩
          rw [hd.out] at HSE HFT
          go_upto_region 11 with fail
          refine wp_region_noPanic ?_
          refine wp_region_held_drew (S := (fun w'' => w''.cell? ⟨g2, 0, none⟩ = some (.string (bar w0)) ∧ w''.cell? ⟨g2, 1, none⟩ = some (.string (bar w1)))) (by kernel_rfl) ?_ (fun hHeld => ?_)
          · ((try dsimp only); exact KX (WP.out.call (Below.refl _ _).drew))
          replace OX := Lib.hid (OX.out.call (show Below v1.heap.size v1 v1.drew from (Below.refl _ _).drew))
          replace OP := Lib.hid (OP.out.call (show Below v1.heap.size v1 v1.drew from (Below.refl _ _).drew))
          replace WP := Lib.hid (WP.out.call (show Below v1.heap.size v1 v1.drew from (Below.refl _ _).drew))
          replace HB := Lib.hid (HB.out.trans (((show Below v1.heap.size v1 v1.drew from (Below.refl _ _).drew)).mono HB.out.size))
          generalize v1.drew = v2 at *
          refine take_yes (i := 0) (d := 40) (v := ?_) rfl rfl (by kernel_rfl) (by kernel_rfl) (by kernel_rfl) (fun _ _ _ h => h) (by kernel_rfl) ?_ hHeld ?_
          rotate_left
          · (intro w hSw; (try dsimp only at hSw); go_simp; try (with_reducible rfl))
          try simp only [Act.put, List.setIfInBounds_toArray, List.set_cons_zero, List.set_cons_succ]
          refine take_yes (i := 1) (d := 41) (v := ?_) rfl rfl (by kernel_rfl) (by kernel_rfl) (by kernel_rfl) (fun _ _ _ h => h) (by kernel_rfl) ?_ hHeld ?_
          rotate_left
          · (intro w hSw; (try dsimp only at hSw); go_simp; try (with_reducible rfl))
          try simp only [Act.put, List.setIfInBounds_toArray, List.set_cons_zero, List.set_cons_succ]
          refine take_yes (i := 2) (d := 42) (v := ?_) rfl rfl (by kernel_rfl) (by kernel_rfl) (by kernel_rfl) (fun _ _ _ h => h) (by kernel_rfl) ?_ hHeld ?_
          rotate_left
          · (intro w hSw; (try dsimp only at hSw); go_simp; try (with_reducible rfl))
          try simp only [Act.put, List.setIfInBounds_toArray, List.set_cons_zero, List.set_cons_succ]
          refine take_yes (i := 3) (d := 43) (v := ?_) rfl rfl (by kernel_rfl) (by kernel_rfl) (by kernel_rfl) (fun _ _ _ h => h) (by kernel_rfl) ?_ hHeld ?_
          rotate_left
          · (intro w hSw; (try dsimp only at hSw); go_simp; try (with_reducible rfl))
          try simp only [Act.put, List.setIfInBounds_toArray, List.set_cons_zero, List.set_cons_succ]
          refine take_yes (i := 6) (d := 46) (v := ?_) rfl rfl (by kernel_rfl) (by kernel_rfl) (by kernel_rfl) (fun _ _ _ h => h) (by kernel_rfl) ?_ hHeld ?_
          rotate_left
          · (intro w hSw; (try dsimp only at hSw); go_simp; try (with_reducible rfl))
          try simp only [Act.put, List.setIfInBounds_toArray, List.set_cons_zero, List.set_cons_succ]
          refine take_yes (i := 7) (d := 47) (v := ?_) rfl rfl (by kernel_rfl) (by kernel_rfl) (by kernel_rfl) (fun _ _ _ h => h) (by kernel_rfl) ?_ hHeld ?_
          rotate_left
          · (intro w hSw; (try dsimp only at hSw); go_simp; try (with_reducible rfl))
          try simp only [Act.put, List.setIfInBounds_toArray, List.set_cons_zero, List.set_cons_succ]
          refine take_yes (i := 8) (d := 48) (v := ?_) rfl rfl (by kernel_rfl) (by kernel_rfl) (by kernel_rfl) (fun _ _ _ h => h) (by kernel_rfl) ?_ hHeld ?_
          rotate_left
          · (intro w hSw; (try dsimp only at hSw); go_simp; try (with_reducible rfl))
          try simp only [Act.put, List.setIfInBounds_toArray, List.set_cons_zero, List.set_cons_succ]
          refine wpAnyH_ready (rs := [4]) (by kernel_rfl) (by simp) ?_
          refine AllReadyH.cons rfl (fun K hK => ?_) (AllReadyH.nil)
          go_simp
          (go_at_call 40; refine (l1SplitL_any 46 (bar w0) _ (by rw [bar_size]; have := HW0.out; have := HLL.out; omega)).mono ?_; rintro e v3 ⟨O2, o2, ds, rfl, hds, own2, hb⟩; rw [bar_list] at hds; have hdl : ds.length = d := (by rw [hds, List.length_map, hd.out]); rw [hdl]; have HBC := Lib.hid hb; clear hds hdl own2 hb)
          replace OX := Lib.hid (OX.out.call HBC.out)
          replace OP := Lib.hid (OP.out.call HBC.out)
          replace WP := Lib.hid (WP.out.call HBC.out)
          replace HB := Lib.hid (HB.out.trans ((HBC.out).mono HB.out.size))
          (first | refine hK.out _ _ ?_ (fun hHeld1 => ?_) | (go_wp2_with fail; refine hK.out _ _ ?_ (fun hHeld1 => ?_)))
          · ((try dsimp only); exact KX WP.out)
          clear hK K hHeld
          have hHeld := hHeld1
          clear hHeld1
          try simp only [Act.put, List.setIfInBounds_toArray, List.set_cons_zero, List.set_cons_succ]
          clear HBC
          refine take_yes (i := 5) (d := 45) (v := ?_) rfl rfl (by kernel_rfl) (by kernel_rfl) (by kernel_rfl) (fun _ _ _ h => h) (by kernel_rfl) ?_ hHeld ?_
          rotate_left
          · (intro w hSw; (try dsimp only at hSw); go_simp; try (with_reducible rfl))
          try simp only [Act.put, List.setIfInBounds_toArray, List.set_cons_zero, List.set_cons_succ]
          refine take_yes (i := 9) (d := 49) (v := ?_) rfl rfl (by kernel_rfl) (by kernel_rfl) (by kernel_rfl) (fun _ _ _ h => h) (by kernel_rfl) ?_ hHeld ?_
          rotate_left
          · (intro w hSw; (try dsimp only at hSw); go_simp; try (with_reducible rfl))
          try simp only [Act.put, List.setIfInBounds_toArray, List.set_cons_zero, List.set_cons_succ]
          refine wpAnyH_ready (rs := [10]) (by kernel_rfl) (by simp) ?_
          refine AllReadyH.cons rfl (fun K hK => ?_) (AllReadyH.nil)
          try go_simp
          have HL := Lib.hid (show Cells _ _ (SectionK.row [⟨(d : Int), bar w1⟩]) from cells_arr v3 #[.int .i64 d, .string (bar w1)] 51 v3.heap.size rfl)
          have hbl := below1 v3 (.cells #[.int .i64 d, .string (bar w1)] 51)
          replace OX := Lib.hid (OX.out.call hbl)
          replace OP := Lib.hid (OP.out.call hbl)
          replace WP := Lib.hid (WP.out.call hbl)
          replace HB := Lib.hid (HB.out.trans ((hbl).mono HB.out.size))
          clear hbl
          (first | refine hK.out _ _ ?_ (fun hHeld1 => ?_) | (go_wp2_with fail; refine hK.out _ _ ?_ (fun hHeld1 => ?_)))
          · ((try dsimp only); exact KX WP.out)
          clear hK K hHeld
          have hHeld := hHeld1
          clear hHeld1
          try simp only [Act.put, List.setIfInBounds_toArray, List.set_cons_zero, List.set_cons_succ]
          refine wpAnyH_ready (rs := [11]) (by kernel_rfl) (by simp) ?_
          refine AllReadyH.cons rfl (fun K hK => ?_) (AllReadyH.nil)
          have hsz := HB.out.size
          refine step_append_gr elSec _ (by rfl) _ _ (by rfl) w.heap.size Q _ qc xs.length 1 1 (SectionK.row xs) (SectionK.row [⟨(d : Int), bar w1⟩]) (by rfl) (by rfl) rfl OX.out.1 HL.out sec_one hsz hx20 ?_
          intro Q3 q3 v5 own5 hb5 hg5
          have HG := Lib.hid hg5
          have HW5 := Lib.hid own5
          have HB5 := Lib.hid hb5
          clear own5 hb5 hg5
          have WP5 := Lib.hid (show OwP w.heap.size v5 (some ⟨g2, 0, none⟩) o1 ws from ⟨((WP.out.owd (by rw [HM.out]; omega)).grow OX.out.1 (by decide) HG.out).1, WP.out.2⟩)
          (first | refine hK.out _ _ ?_ (fun hHeld1 => ?_) | (go_wp2_with fail; refine hK.out _ _ ?_ (fun hHeld1 => ?_)))
          · ((try dsimp only); exact KX WP5.out)
          clear hK K hHeld
          have hHeld := hHeld1
          clear hHeld1
          try simp only [Act.put, List.setIfInBounds_toArray, List.set_cons_zero, List.set_cons_succ]
          refine take_yes (i := 12) (d := 4) (v := ?_) rfl rfl (by kernel_rfl) (by kernel_rfl) (by kernel_rfl) (fun _ _ _ h => h) (by kernel_rfl) ?_ hHeld ?_
          rotate_left
          · (intro w hSw; (try dsimp only at hSw); go_simp; try (with_reducible rfl))
          try simp only [Act.put, List.setIfInBounds_toArray, List.set_cons_zero, List.set_cons_succ]
          refine wpAnyH_done (by kernel_rfl) ?_ _
          refine NoPanic.normal ?_
          clear hHeld KX
          replace OP := Lib.hid (OP.out.grow OX.out.1 (by decide) HG.out)
          have N3 := Lib.hid (owd_grown OX.out rfl (SectionK.row_append _ _).symm HW5.out HX20.out HFT.out)
          have HB6 := Lib.hid (HB.out.trans HB5.out)
          clear HG HW5 HB5 OX HL hsz HB WP WP5
          rw [← HSE.out] at N3
          go_wp2
          go_roundw
          case rel => exact ⟨Q3, q3, xs ++ [secW l], by first | (simp; done) | (simp; omega), by first | (simp; done) | (simp; go_num), by simp, Lib.hid (by rw [List.length_append, List.length_singleton]; exact HSN.out.symm), Lib.hid (by rw [List.length_append, List.length_singleton]; exact HWN.out), N3, OP, HB6⟩
          case measure => (first | (simp [intOf]; done) | (simp [intOf]; omega))
        · have c2 : ((m : Int) != 2) = true := by simp; omega
          have HR := Lib.hid (ds_two hls.out (by have := HNL.out; omega) HKL.out (by rw [hl.out]; unfold twoW; rw [hml]; simp; exact h2))
          have E1 := Lib.hid (show OwD SectionK 51 w.heap.size (v1.alloc (.cells #[] 51)) (some ⟨v1.heap.size, 0, none⟩) 0 [] from Ow.mk (K := SectionK) (own_nil_lit v1 w.heap.size v1.heap.size 51 2 rfl HB.out.size) (by simp) (by simp))
          have HB2 := Lib.hid (HB.out.trans ((below1 v1 (.cells #[] 51)).mono HB.out.size))
          clear h2 hml
          go_wp2
          go_ret2
          exact toLB_emp HR.out E1.out HB2.out
      · have hxn : xs.length = n - 1 := by omega
        have i1 : ¬ (xs.length : Int) < ((n - 1 : Nat) : Int) := by omega
        have HF := Lib.hid (ds_fin (xs := xs) hls.out HNL.out H3.out HLA.out (by (have h9 := HW.out); rw [hxn] at h9; exact h9) (by (have h9 := HX.out); rw [hxn] at h9; exact h9))
        clear hxn hk hlt
        rcases Bool.eq_false_or_eq_true (docB xs) with hv | hv
        · by_cases hx : txF xs xs.length = s
          · have HR := Lib.hid (HF.out.trans (finD_ok hv (by rw [hx])))
            have HT := Lib.hid hx
            clear hx
            go_wp2_with (first
              | (go_at_call 54; refine (l6Good_any Q qc xs _ OX.out.rd.cells OX.out.2.2.1 OX.out.2.2.2).mono ?_; rintro e v1 ⟨rfl, hw⟩; rw [hv]; have OY := Lib.hid (OX.out.call (below_ex hw)); have HC := Lib.hid (HB.out.trans ((below_ex hw).mono HB.out.size)); clear hw)
              | (go_at_call 55; have y9 := OY; clear y9; refine (l6Text_any Q qc xs _ OY.out.rd.cells hv).mono ?_; rintro e v2 ⟨rfl, hw⟩; rw [HT.out]; have OZ := Lib.hid (OY.out.call (below_ex hw)); have HE := Lib.hid (HC.out.trans ((below_ex hw).mono HC.out.size)); clear hw))
            go_ret2
            exact toLB_yes HR.out OZ.out HE.out
          · have hxs := same_no hx
            have HR := Lib.hid (HF.out.trans (finD_ne (fun h => hx (ByteArray.ext (Array.ext' h)))))
            obtain ⟨x, ex⟩ : ∃ x, Hid (txF xs xs.length = x) := ⟨_, Lib.hid rfl⟩
            rw [ex.out] at hxs
            clear hx
            go_wp2_with (first
              | (go_at_call 54; refine (l6Good_any Q qc xs _ OX.out.rd.cells OX.out.2.2.1 OX.out.2.2.2).mono ?_; rintro e v1 ⟨rfl, hw⟩; rw [hv]; have OY := Lib.hid (OX.out.call (below_ex hw)); have HC := Lib.hid (HB.out.trans ((below_ex hw).mono HB.out.size)); clear hw)
              | (go_at_call 55; have y9 := OY; clear y9; refine (l6Text_any Q qc xs _ OY.out.rd.cells hv).mono ?_; rintro e v2 ⟨rfl, hw⟩; rw [ex.out]; have OZ := Lib.hid (OY.out.call (below_ex hw)); have HE := Lib.hid (HC.out.trans ((below_ex hw).mono HC.out.size)); clear hw; have E1 := Lib.hid (show OwD SectionK 51 w.heap.size (v2.alloc (.cells #[] 51)) (some ⟨v2.heap.size, 0, none⟩) 0 [] from Ow.mk (K := SectionK) (own_nil_lit v2 w.heap.size v2.heap.size 51 2 rfl HE.out.size) (by simp) (by simp)); have HB2 := Lib.hid (HE.out.trans ((below1 v2 (.cells #[] 51)).mono HE.out.size))))
            go_ret2
            exact toLB_emp HR.out E1.out HB2.out
        · have HR := Lib.hid (HF.out.trans (finD_bad hv))
          go_wp2_with (go_at_call 54; refine (l6Good_any Q qc xs _ OX.out.rd.cells OX.out.2.2.1 OX.out.2.2.2).mono ?_; rintro e v1 ⟨rfl, hw⟩; rw [hv]; have OY := Lib.hid (OX.out.call (below_ex hw)); have HC := Lib.hid (HB.out.trans ((below_ex hw).mono HB.out.size)); clear hw; have E1 := Lib.hid (show OwD SectionK 51 w.heap.size (v1.alloc (.cells #[] 51)) (some ⟨v1.heap.size, 0, none⟩) 0 [] from Ow.mk (K := SectionK) (own_nil_lit v1 w.heap.size v1.heap.size 51 2 rfl HC.out.size) (by simp) (by simp)); have HB2 := Lib.hid (HC.out.trans ((below1 v1 (.cells #[] 51)).mono HC.out.size)))
          go_ret2
          exact toLB_emp HR.out E1.out HB2.out
  · have HR := Lib.hid (ds_last hls.out (by rw [HLA.out]; intro h; exact hz (Option.some.inj h)))
    have hne : (bar lz).toList.isEmpty = false := by rw [ByteArray.toList_eq, List.isEmpty_eq_false_iff, bar_list]; exact hz
    clear hz
    go_wp2
    go_ret2
    exact toLB_emp HR.out E0.out HB.out
end Go.Proofs.YtajfbiihlfccnaaDoor
