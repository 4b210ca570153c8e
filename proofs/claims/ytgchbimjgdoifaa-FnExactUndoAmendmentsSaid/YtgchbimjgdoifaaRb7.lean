/- UndoAmendments in the reference. Conditions: the ranges named. -/
import Derived.Test.YtgchbimjgdoifaaRb6
namespace Go.Proofs.Ytgchbimjgdoifaa
open Go.RowKit
set_option linter.unusedVariables false
set_option linter.unusedSimpArgs false
theorem OwQ.high {lo hi hi' : Nat} {w : World} {A : Option Addr} {c : Nat} {ps : List Amd} (h : OwQ lo hi w A c ps) (hl : hi ≤ hi') : OwQ lo hi' w A c ps := by
  obtain ⟨hs, h1, h2, h3, h4, h5, h6⟩ := h
  exact ⟨hs, h1, h2, h3.mono hl, h4, fun i hi hi' => ⟨(h5 i hi hi').1, (h5 i hi hi').2.1, (h5 i hi hi').2.2.1.mono hl, (h5 i hi hi').2.2.2⟩, h6⟩
theorem undo_part {ss : List ByteArray} {ps : List Amd} (h : rebB ss ps = false) : undoB ss ps = false := by unfold undoB; rw [h]; rfl
theorem owQ_lit {w : World} {B : Nat} (hB : B ≤ w.heap.size) : OwQ B (w.alloc (.cells #[] 40)).heap.size (w.alloc (.cells #[] 40)) (some ⟨w.heap.size, 0, none⟩) 0 [] :=
  (OwV.nil (own_nil_lit w B w.heap.size 40 4 rfl hB)).own ⟨by simp, (fun q hq => by simp at hq), by simp [cntV]⟩
set_option maxHeartbeats 4000000 in
set_option maxRecDepth 100000 in
theorem sUndoAmendments_any (T A : Option Addr) (t c : Nat) (ss : List ByteArray) (ps : List Amd) (w : World) (hT : Cells w T (strs ss)) (htc : ss.length ≤ t) (hfs : Fit ss) (hd : DLQ w A c ps) (hf : FitQ ps) :
    Calls Try.prog 19 #[.slice T ss.length t, .slice A ps.length c] w (ToQB w (undoL ss ps) (undoB ss ps)) := by
  have hbl := below1 w (.cells #[] 40)
  have HT := Lib.hid (hT.below hbl)
  have HD := Lib.hid (hd.below hbl)
  have HF := Lib.hid hf
  have HFU := Lib.hid (undo_fit (ss := ss) hfs hf)
  have HBL := Lib.hid hbl
  have HO0 := Lib.hid (OwV.nil (own_nil_lit w w.heap.size w.heap.size 40 4 rfl (Nat.le_refl _)))
  have HQ0 := Lib.hid (owQ_lit (w := w) (B := w.heap.size) (Nat.le_refl _))
  have hn := hf.1
  clear hT hd hf hbl
  rcases Bool.eq_false_or_eq_true (wordsB ss 0 20) with h1 | h1
  · rcases Bool.eq_false_or_eq_true (listB ps) with h2 | h2
    · have hr : rebB ss ps = true := by unfold rebB; rw [h1, h2]; rfl
      obtain ⟨_, _, h3, h4⟩ := rebB_parts hr
      have HG := Lib.hid (show GoodT ss from ⟨h1, hfs⟩)
      have hsl := HG.out.len
      have HV : Hid (∀ (k : Nat) (hk : k < ps.length), vldA ps[k] = true ∧ Fit ps[k].ws) := Lib.hid fun k hk => ⟨h4 _ (List.getElem_mem hk), HF.out.2.1 _ (List.getElem_mem hk)⟩
      have HNO := Lib.hid (fun (pre : List (List ByteArray)) (cur : List ByteArray) (he : rebT ss ps = pre ++ [cur]) (hl : pre.length < ps.length) => (show undoB ss ps = false ∧ undoL ss ps = [] from by
        have h9 : undoB ss ps = false := by unfold undoB fullB; rw [he, decide_eq_false (by simp; omega)]; simp
        exact ⟨h9, undo_no h9⟩))
      have HYE := Lib.hid (fun (pre : List (List ByteArray)) (cur : List ByteArray) (us : List Amd) (he : rebT ss ps = pre ++ [cur]) (hl : pre.length = ps.length) (hi : invsL ss ps = us.reverse) => (show undoB ss ps = true ∧ undoL ss ps = us from by
        have h9 : undoB ss ps = true := by unfold undoB fullB; rw [hr, he, decide_eq_true (by simp; omega)]; simp
        exact ⟨h9, by unfold undoL; rw [h9, hi]; simp⟩))
      clear h4
      go_enter Try.func19, Try.ntmps19
      go_upto_region 2 with fail
      generalize w.alloc (.cells #[] 40) = w0 at *
      go_upto_region 4 with (first
        | (go_at_call 65; refine (l9Text_any T t ss w0 HT.out hfs.1 hfs.2).mono ?_; rintro e w1 ⟨rfl, rfl⟩; rw [h1])
        | (go_at_call 66; refine (l9List_any A c ps w0 HD.out HF.out).mono ?_; rintro e w1 ⟨rfl, hb⟩; rw [h2]; have HO0 := Lib.hid (HO0.out.keep hb); have HT := Lib.hid (HT.out.below hb); have HD := Lib.hid (HD.out.below hb); have HB := Lib.hid (HBL.out.trans (hb.mono HBL.out.size)); clear hb))
      go_upto_region 5 with (at_builtin; go_must (refine list_append_lit elStr _ rfl _ _ rfl w.heap.size w1.heap.size T ss.length t (strs ss) rfl rfl (strs_len1 ss) (own_nil_lit w1 _ _ _ _ rfl HB.out.size) (HT.out.alloc_ _) strs_one (by have := HB.out.size; simp; omega) (by omega) ?_); intro O1 d1 w2 own hb hq; have HO1 := Lib.hid own; have hbx := (below1 w1 (.cells #[] 9)).trans (hb.mono (by simp)); have HD := Lib.hid (HD.out.below hbx); have HO0 := Lib.hid (HO0.out.keep hbx); have HB2 := Lib.hid (HB.out.trans (hbx.mono HB.out.size)); clear own hb hq hbx)
      go_wp2_with fail
      go_loopw [6, 7, 8] (fun v u i wr => ∃ k : Nat, k ≤ ps.length ∧ i = .int .i64 k ∧ ∃ (pre : List (List ByteArray)) (cur : List ByteArray) (O : Option Addr) (oc : Nat) (us : List Amd) (U : Option Addr) (uc : Nat) (hs : List AmH), pre.length = k ∧ us.length = k ∧ Hid (rebT ss ps = pre ++ rebT cur (ps.drop k)) ∧ Hid (invsL ss ps = us.reverse ++ invsL cur (ps.drop k)) ∧ u = .slice O cur.length oc ∧ v = .slice U us.length uc ∧ Hid (GoodT cur) ∧ Hid (wr.ownsRow w.heap.size 9 1 (.slice O cur.length oc) cur.length (strs cur)) ∧ Hid (OwV w.heap.size wr U uc us hs) ∧ Hid (DLQ wr A c ps) ∧ Hid (Below w.heap.size w wr)) (fun _ _ i _ => ps.length - (intOf i).toNat)
      case atStart => exact ⟨0, Nat.zero_le _, rfl, [], ss, _, _, [], _, _, _, rfl, rfl, Lib.hid (by simp), Lib.hid (by simp), rfl, rfl, HG, HO1, HO0, HD, HB2⟩
      case round =>
        clear HO1 HB2 HO0 HD
        obtain ⟨wq, hwq⟩ : ∃ x : World, x = wr := ⟨_, rfl⟩
        subst hwq
        obtain ⟨k, hk, rfl, pre, cur, O, oc, us, U, uc, hs, hpl, hul, HR, HI, rfl, rfl, HGC, HOW, HOU, HD, HB3⟩ := hrel
        by_cases hlt : k < ps.length
        · obtain ⟨a0, B, d, rfl, ⟨hc0, hc1, hc2, hc3⟩, hle, hcw⟩ := HD.out.at_ hlt
          have i1 : (k : Int) < (ps.length : Int) := by omega
          have HVA := Lib.hid (HV.out _ hlt).1
          have HFA := Lib.hid (HV.out _ hlt).2
          have HS1 := Lib.hid (chain_step hlt HR.out)
          have HS2 := Lib.hid (chain_stop hlt HR.out)
          have HI2 := Lib.hid (show invsL ss ps = (invA cur ps[k] :: us).reverse ++ invsL (amdL cur ps[k]) (ps.drop (k + 1)) by rw [HI.out, List.drop_eq_getElem_cons hlt, invsL]; simp)
          obtain ⟨a, ha⟩ : ∃ a, Hid (ps[k] = a) := ⟨_, Lib.hid rfl⟩
          rw [ha.out] at hc0 hc1 hc2 hc3 hle hcw HVA HFA HS1 HS2 HI2
          have hw5 := (vldA_range HVA.out).2.2.2.2.1
          have HCW := Lib.hid hcw
          have HPL := Lib.hid hpl
          have HUL := Lib.hid hul
          have hu8 : us.length ≤ 8 := by omega
          have HFT := Lib.hid (l9Fits_any O B oc d cur a wq (Cells.of_own HOW.out) (own_cap HOW.out) HGC.out.fit hcw HFA.out HVA.out)
          clear hcw hpl hul HR HI
          rcases Bool.eq_false_or_eq_true (fitsB cur a) with hz | hz
          · have HS := Lib.hid (HS1.out hz)
            clear HS1 HS2
            go_wp2_with fail
            refine HFT.out.mono ?_
            rintro e w3 ⟨rfl, hb⟩
            rw [hz]
            have n0 := (hb.cell (World.block_lt_of_cell? _ _ hc0)).trans hc0
            have n1 := (hb.cell (World.block_lt_of_cell? _ _ hc1)).trans hc1
            have n2 := (hb.cell (World.block_lt_of_cell? _ _ hc2)).trans hc2
            have n3 := (hb.cell (World.block_lt_of_cell? _ _ hc3)).trans hc3
            have HB4 := Lib.hid (after HB3.out hb)
            have HCC := Lib.hid (own_keep HOW.out hb)
            have HCW3 := Lib.hid (HCW.out.below hb)
            have HOU3 := Lib.hid (HOU.out.keep hb)
            have HD3 := Lib.hid (HD.out.below hb)
            clear hb hc0 hc1 hc2 hc3
            go_wp2_with fail
            refine (l9Inverse_any O B oc d cur a w3 (Cells.of_own HCC.out) (own_cap HCC.out) HGC.out.fit (Small.of HVA.out) hw5 (fitsB_le hz)).mono ?_
            rintro e w4 ⟨N, nd, rfl, own, hb⟩
            have HOU4 := Lib.hid ((HOU3.out.keep hb).keep (below1 w4 (.cells #[.int .i64 (invA cur a).k, .int .i64 (invA cur a).p, .int .i64 (invA cur a).n, .slice N (invA cur a).ws.length nd] 40)))
            have HNO := Lib.hid (own_mono (own_alloc own (.cells #[.int .i64 (invA cur a).k, .int .i64 (invA cur a).p, .int .i64 (invA cur a).n, .slice N (invA cur a).ws.length nd] 40)) HB4.out.size)
            have HP := Lib.hid (And.intro n0 (And.intro n1 (And.intro n2 n3)))
            have HNB := Lib.hid (fun b (hb' : N = some b) => (show w3.heap.size ≤ b.block from (own.lt b.block (by rw [hb']; rfl)).1))
            have HUN := Lib.hid (fun i (hi : i < hs.length) => HOU3.out.under hi)
            have HLIT : Hid ((w4.alloc (.cells #[.int .i64 (invA cur a).k, .int .i64 (invA cur a).p, .int .i64 (invA cur a).n, .slice N (invA cur a).ws.length nd] 40)).ownsRow w4.heap.size 40 4 (.slice (some ⟨w4.heap.size, 0, none⟩) 1 1) 1 [.int .i64 (invA cur a).k, .int .i64 (invA cur a).p, .int .i64 (invA cur a).n, .slice N (invA cur a).ws.length nd]) := Lib.hid (World.ownsRow_lit w4 #[_, _, _, _] 1 (Nat.le_refl _) (by unfold maxLen; omega) (by rfl))
            have HB34 := Lib.hid hb
            have HZ5 := Lib.hid (Nat.le_trans HB4.out.size hb.size)
            clear own hb n0 n1 n2 n3
            have hsz : w4.heap.size ≤ (w4.alloc (.cells #[.int .i64 (invA cur a).k, .int .i64 (invA cur a).p, .int .i64 (invA cur a).n, .slice N (invA cur a).ws.length nd] 40)).heap.size := by simp
            go_upto_region 11 with (at_builtin; go_must (refine list_append_gr elAm _ rfl _ _ rfl w4.heap.size (some ⟨w4.heap.size, 0, none⟩) U 1 1 us.length uc [.int .i64 (invA cur a).k, .int .i64 (invA cur a).p, .int .i64 (invA cur a).n, .slice N (invA cur a).ws.length nd] (AmHK.row hs) rfl rfl (by rw [AmHK.row_len, HOU4.out.1]; rfl) HLIT.out (Cells.of_own HOU4.out.2.1) amh_one hsz (by omega) ?_); intro U2 uc2 w5 own5 hb5 hg5; have HOU5 := Lib.hid (OwV.cons (m := w3.heap.size) HOU4.out HNO.out HUN.out HNB.out (own_mono HLIT.out HZ5.out) hg5 (own_mono own5 HZ5.out)); have HB35 := Lib.hid (HB34.out.trans (((below1 w4 (.cells #[.int .i64 (invA cur a).k, .int .i64 (invA cur a).p, .int .i64 (invA cur a).n, .slice N (invA cur a).ws.length nd] 40)).trans hb5).mono HB34.out.size)); clear own5 hb5 hg5)
            have n0 := (HB35.out.cell (World.block_lt_of_cell? _ _ HP.out.1)).trans HP.out.1
            have n1 := (HB35.out.cell (World.block_lt_of_cell? _ _ HP.out.2.1)).trans HP.out.2.1
            have n2 := (HB35.out.cell (World.block_lt_of_cell? _ _ HP.out.2.2.1)).trans HP.out.2.2.1
            have n3 := (HB35.out.cell (World.block_lt_of_cell? _ _ HP.out.2.2.2)).trans HP.out.2.2.2
            have HCC5 := Lib.hid (own_keep HCC.out HB35.out)
            have HCW5 := Lib.hid (HCW3.out.below HB35.out)
            have HD5 := Lib.hid (HD3.out.below HB35.out)
            have HB5 := Lib.hid (after HB4.out HB35.out)
            go_wp2_with fail
            refine (l9Apply_any O B oc d cur a w5 (Cells.of_own HCC5.out) (own_cap HCC5.out) HGC.out.fit HCW5.out HFA.out (Small.of HVA.out) (fitsB_le hz) hw5 HGC.out.len).mono ?_
            rintro e w6 ⟨M, md, rfl, own, hb⟩
            have HO6 := Lib.hid (own_mono own HB5.out.size)
            have HOU6 := Lib.hid (HOU5.out.keep hb)
            have HD6 := Lib.hid (HD5.out.below hb)
            have HB6 := Lib.hid (after HB5.out hb)
            clear own hb n0 n1 n2 n3
            go_wp2
            go_roundw
            case rel => exact ⟨k + 1, hlt, by go_num, pre ++ [cur], amdL cur a, M, md, invA cur a :: us, U2, uc2, _, by simp; exact HPL.out, by simp; exact HUL.out, HS, HI2, rfl, by rw [List.length_cons, Nat.add_comm], Lib.hid (HGC.out.step HVA.out hz HFA.out), HO6, HOU6, HD6, HB6⟩
            case measure => simp [intOf]; omega
          · have HE := Lib.hid (HNO.out _ _ (HS2.out hz) (by rw [HPL.out]; exact hlt))
            clear HS1 HS2
            go_wp2_with fail
            refine HFT.out.mono ?_
            rintro e w3 ⟨rfl, hb⟩
            rw [hz]
            have HB4 := Lib.hid (after HB3.out hb)
            have HQ := Lib.hid (owQ_lit (w := w3) (B := w.heap.size) HB4.out.size)
            clear hb hc0 hc1 hc2 hc3
            go_wp2
            go_ret2
            exact ⟨_, _, by rw [HE.out.1, HE.out.2]; rfl, by rw [HE.out.2]; exact HQ.out, HB4.out.trans ((below1 w3 _).mono HB4.out.size)⟩
        · obtain rfl : k = ps.length := by omega
          have HE := Lib.hid (HYE.out pre cur us (chain_end HR.out) hpl (by have h9 := HI.out; rw [List.drop_length] at h9; simpa [invsL] using h9))
          have HOQ := Lib.hid (HOU.out.own (by rw [← HE.out.2]; exact HFU.out))
          clear hpl hul HR HI
          go_wp2
          go_ret2
          exact ⟨U, uc, by rw [HE.out.1, HE.out.2]; rfl, by rw [HE.out.2]; exact HOQ.out, HB3.out⟩
    · have hr := undo_part (show rebB ss ps = false by unfold rebB; rw [h2]; simp)
      rw [undo_no hr, hr]
      go_enter Try.func19, Try.ntmps19
      go_upto_region 2 with fail
      generalize w.alloc (.cells #[] 40) = w0 at *
      go_wp2_with (first
        | (go_at_call 65; refine (l9Text_any T t ss w0 HT.out hfs.1 hfs.2).mono ?_; rintro e w1 ⟨rfl, rfl⟩; rw [h1])
        | (go_at_call 66; refine (l9List_any A c ps w0 HD.out HF.out).mono ?_; rintro e w1 ⟨rfl, hb⟩; rw [h2]; have HQ := Lib.hid (HQ0.out.below hb (Nat.le_refl _)); have HZ := Lib.hid hb.size; have HB := Lib.hid (HBL.out.trans (hb.mono HBL.out.size)); clear hb))
      go_ret2
      exact ⟨_, _, rfl, (OwQ.high HQ.out HZ.out), HB.out⟩
  · have hr := undo_part (show rebB ss ps = false by unfold rebB; rw [h1]; simp)
    rw [undo_no hr, hr]
    go_enter Try.func19, Try.ntmps19
    go_upto_region 2 with fail
    generalize w.alloc (.cells #[] 40) = w0 at *
    go_wp2_with (go_at_call 65; refine (l9Text_any T t ss w0 HT.out hfs.1 hfs.2).mono ?_; rintro e w1 ⟨rfl, rfl⟩; rw [h1])
    go_ret2
    exact ⟨_, _, rfl, HQ0.out, HBL.out⟩
end Go.Proofs.Ytgchbimjgdoifaa
