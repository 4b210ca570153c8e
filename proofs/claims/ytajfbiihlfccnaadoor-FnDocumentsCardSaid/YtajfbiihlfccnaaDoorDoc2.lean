/- ParseDocument of the program. Conditions: what Mx names, the ranges named. -/
import Derived.Test.YtajfbiihlfccnaaDoorDoc1
import Derived.Test.YtajfbiihlfccnaaDoorPc1
namespace Go.Proofs.YtajfbiihlfccnaaDoor
open Go.RowKit
set_option linter.unusedVariables false
set_option linter.unusedSimpArgs false
theorem tlW_no : ∀ {l : List UInt8}, (32 : UInt8) ∉ l → tlW l = []
  | [], _ => rfl
  | b :: t, h => by
    have h1 : b ≠ 32 := fun e => h (by rw [e]; simp)
    rw [tlW, if_neg h1]
    exact tlW_no (fun h2 => h (List.mem_cons_of_mem _ h2))
theorem cut_sp (l : List UInt8) : (Go.Lib.cut l [32]).1 = (spl 32 l).getD 0 [] ∧ (Go.Lib.cut l [32]).2.1 = tlW l := by
  by_cases h : (32 : UInt8) ∈ l
  · obtain ⟨a, r, rfl, hn⟩ := first_of h
    rw [cut1 hn, tlW_hit hn]
    unfold spl
    rw [spF_hit hn]
    exact ⟨by simp, rfl⟩
  · rw [cut0 h, tlW_no h]
    unfold spl
    rw [spF_no h]
    exact ⟨by simp, rfl⟩
theorem cutSp_any (l : List UInt8) (w : World) (hs : l.length ≤ 1048576) (h : Mx w) : Calls Tryd.prog 56 #[.string (bar l), .string ⟨#[32]⟩] w fun e w' => (∃ b : Bool, e = .returned (.tuple #[.string (bar ((spl 32 l).getD 0 [])), .string (bar (tlW l)), .bool b])) ∧ Below w.heap.size w w' := by
  obtain ⟨m, hm⟩ := h
  refine (Tryd.strings_Cut (bar l) ⟨#[32]⟩ m w (by rw [bar_size]; omega) hm).mono ?_
  rintro e w' ⟨rfl, n, rfl⟩
  obtain ⟨e1, e2⟩ := cut_sp l
  refine ⟨⟨(Go.Lib.cut l [32]).2.2, ?_⟩, below_drewN (Below.refl _ _) _⟩
  rw [bar_list, e1, e2]
  rfl
theorem countDot_any (l : List UInt8) (w : World) : Calls Tryd.prog 57 #[.string (bar l), .string ⟨#[46]⟩] w fun e w' => e = .returned (.int .i64 (l.count 46)) ∧ w = w' := by
  refine (Tryd.strings_Count_one (bar l) 46 w).mono ?_
  rintro e w' ⟨rfl, rfl⟩
  rw [bar_list]
  exact ⟨rfl, rfl⟩
theorem tlW_len : ∀ l : List UInt8, (tlW l).length ≤ l.length
  | [] => Nat.le_refl _
  | b :: t => by
    rw [tlW]
    split
    · simp
    · have := tlW_len t; simp; omega
theorem elSec : ElT Tryd.prog 39 51 2 24 := ElT.mk' Tryd.underlying39 infoSection rfl (by omega) (by omega)
theorem sec_one {xs : List Sec} : ∀ u ∈ SectionK.row xs, u.oneCell' = true := fun u hu => by
  obtain ⟨x, _, h⟩ := List.mem_flatMap.1 hu
  simp only [SectionK, List.mem_cons, List.not_mem_nil, or_false] at h
  rcases h with rfl | rfl <;> rfl
theorem owN {α : Type} {K : Kd α} {e : TypeId} {lo hi : Nat} {w : World} : Ow K e lo hi w none 0 [] := ⟨⟨by simp [Kd.row], .inl ⟨rfl, rfl⟩⟩, (fun a h => (by cases h)), by simp, (fun x h => (by simp at h))⟩
def dcR (o : Option (List Sec)) : List Sec := o.getD []
def dcB (o : Option (List Sec)) : Bool := o.isSome
theorem owd_grown {α : Type} {K : Kd α} {e lo : Nat} {w w' : World} {O O' : Option Addr} {oc d n : Nat} {xs : List α} {x : α} {v : List Value} (h : OwD K e lo w O oc xs) (hn : n = xs.length + 1) (hv : v = K.row (xs ++ [x])) (own : w'.ownsRow lo e K.sz (.slice O' n d) n v) (hl : xs.length ≤ 1000000) (hx : K.fit x) : OwD K e lo w' O' d (xs ++ [x]) := by
  refine Ow.mk ?_ (by simp; omega) (fun y hy => ?_)
  · subst hn hv
    rw [List.length_append, List.length_singleton]
    exact own
  · rcases List.mem_append.1 hy with h1 | h1
    · exact h.2.2.2 y h1
    · simp at h1; subst h1; exact hx
theorem toLB_no {w w' : World} {e : TypeId} {o : Option (List Sec)} (h : o = none) (hb : Below w.heap.size w w') : ToLB SectionK e w (dcR o) (dcB o) (.returned (.tuple #[.slice none 0 0, .bool false])) w' := by
  rw [h]
  exact ⟨none, 0, rfl, owN, hb⟩
theorem toLB_emp {w w' : World} {e : TypeId} {O : Option Addr} {oc : Nat} {o : Option (List Sec)} (h : o = none) (hx : OwD SectionK e w.heap.size w' O oc []) (hb : Below w.heap.size w w') : ToLB SectionK e w (dcR o) (dcB o) (.returned (.tuple #[.slice O 0 oc, .bool false])) w' := by
  rw [h]
  exact ⟨O, oc, rfl, hx, hb⟩
theorem toLB_yes {w w' : World} {e : TypeId} {O : Option Addr} {oc : Nat} {xs : List Sec} {o : Option (List Sec)} (h : o = some xs) (hx : OwD SectionK e w.heap.size w' O oc xs) (hb : Below w.heap.size w w') : ToLB SectionK e w (dcR o) (dcB o) (.returned (.tuple #[.slice O xs.length oc, .bool true])) w' := by
  rw [h]
  exact ⟨O, oc, rfl, hx, hb⟩
theorem dp_short {l : List UInt8} (h : 13 < (spl 10 l).length) : dpI l = none := by unfold dpI; rw [if_pos h]
theorem dp_fin {l : List UInt8} {ls : List (List UInt8)} {xs : List Sec} (hl : spl 10 l = ls) (h : ¬ 13 < ls.length) (hx : xs = (ls.take (ls.length - 1)).map secI) : dpI l = finD l xs := by
  unfold dpI
  rw [hl, if_neg h, hx, List.dropLast_eq_take]
theorem finD_bad {l : List UInt8} {xs : List Sec} (h : docB xs = false) : finD l xs = none := by unfold finD; rw [if_neg (by rw [h]; simp)]
theorem finD_ne {l : List UInt8} {xs : List Sec} (h : (txF xs xs.length).data.toList ≠ l) : finD l xs = none := by unfold finD; rw [if_neg (fun c => h c.2)]
theorem finD_ok {l : List UInt8} {xs : List Sec} (h1 : docB xs = true) (h : (txF xs xs.length).data.toList = l) : finD l xs = some xs := by unfold finD; rw [if_pos ⟨h1, h⟩]
theorem secI_snoc {ls : List (List UInt8)} {k : Nat} (hk : k < ls.length) : (ls.take (k + 1)).map secI = (ls.take k).map secI ++ [secI ls[k]] := by
  rw [List.take_add_one, List.getElem?_eq_getElem hk, List.map_append]
  rfl
set_option maxRecDepth 100000 in
set_option maxHeartbeats 4000000 in
theorem ParseDocument_any (s : ByteArray) (w : World) (hs : s.size ≤ 1048576) (h : Mx w) : Calls Tryd.prog 22 #[.string s] w (ToLB SectionK 51 w (dcR (dpI s.data.toList)) (dcB (dpI s.data.toList))) := by
  have hsl : s.data.toList.length = s.size := Array.length_toList
  obtain ⟨ls, hls⟩ : ∃ ls, Hid (spl 10 s.data.toList = ls) := ⟨_, Lib.hid rfl⟩
  have HZ : Hid (∀ l ∈ ls, l.length ≤ 1048576) := Lib.hid (fun l hl => by rw [← hls.out] at hl; have := spl_mem hl; omega)
  have hp1 : 1 ≤ ls.length := by rw [← hls.out]; exact spl_pos _ _
  have HM := Lib.hid h
  clear h
  go_enter Tryd.func22, Tryd.ntmps22
  go_wp2_with fail
  refine (splitL_any 10 s w hs HM.out).mono ?_
  rintro e v0 ⟨O, oc, ps, rfl, hps, own, hb⟩
  rw [hls.out] at hps
  have hpl : ps.length = ls.length := by rw [hps, List.length_map]
  have HP := Lib.hid hps
  have O0 := Lib.hid own
  have HB := Lib.hid hb
  obtain ⟨n, hn⟩ : ∃ n, ps.length = n := ⟨_, rfl⟩
  have hcap : n ≤ oc := by rw [← hn]; exact own_cap own.1
  rw [hn]
  have hnl : ls.length = n := by omega
  have HNL := Lib.hid hnl
  have HPN := Lib.hid hn
  clear hps own hb hn hpl
  by_cases h13 : 13 < n
  · have c1 : (13 : Int) < (n : Int) := by omega
    have HD := Lib.hid (dp_short (l := s.data.toList) (by rw [hls.out]; omega))
    clear hnl h13
    go_wp2
    go_ret2
    exact toLB_no HD.out HB.out
  · have c1 : ¬ (13 : Int) < (n : Int) := by omega
    have H13 := Lib.hid h13
    have O1 := Lib.hid (O0.out.owd (by rw [HPN.out]; omega))
    have q1 : IntKind.i64.wrap ((n : Int) - 1) = ((n - 1 : Nat) : Int) := by rw [IntKind.wrap_i64]; omega
    have q2 : (0 : Int) ≤ ((n - 1 : Nat) : Int) := by omega
    have q3 : ((n - 1 : Nat) : Int) ≤ (oc : Int) := by omega
    have q4 : ((n - 1 : Nat) : Int).toNat = n - 1 := by omega
    clear h13
    go_wp2
    have hbl := below1 v0 (.cells #[] 51)
    have O2 := Lib.hid (O1.out.call hbl)
    have HBL := Lib.hid (HB.out.trans (hbl.mono HB.out.size))
    have HN0 := Lib.hid (show OwD SectionK 51 w.heap.size (v0.alloc (.cells #[] 51)) (some ⟨v0.heap.size, 0, none⟩) 0 [] from Ow.mk (K := SectionK) (own_nil_lit v0 w.heap.size v0.heap.size 51 2 rfl HB.out.size) (by simp) (by simp))
    clear hbl
    go_loopw [5, 23] (fun u i wr => ∃ (k : Nat) (Q : Option Addr) (qc : Nat) (xs : List Sec), k ≤ n - 1 ∧ i = .int .i64 k ∧ u = .slice Q xs.length qc ∧ xs.length = k ∧ Hid (xs = (ls.take k).map secI) ∧ Hid (OwD SectionK 51 w.heap.size wr Q qc xs) ∧ Hid (OwD StrK 9 w.heap.size wr O oc ps) ∧ Hid (Below w.heap.size w wr)) (fun _ i _ => n - 1 - (intOf i).toNat)
    case atStart => exact ⟨0, _, 0, [], Nat.zero_le _, rfl, rfl, rfl, Lib.hid rfl, HN0, O2, HBL⟩
    case round =>
      clear HN0 O2 HBL O1 O0 HB
      obtain ⟨wq, hwq⟩ : ∃ x : World, x = wr := ⟨_, rfl⟩
      subst hwq
      obtain ⟨k, Q, qc, xs, hk, rfl, rfl, hxk, HX, OX, OP, HB⟩ := hrel
      subst hxk
      by_cases hlt : xs.length < n - 1
      · have hkl : xs.length < ls.length := by omega
        obtain ⟨g, hO, hc⟩ := str_cell (O := O) ⟨(show wq.ownsRow w.heap.size 9 1 (.slice O ps.length oc) ps.length (StrK.row ps) from OP.out.1), OP.out.2.2.2⟩ HP.out hkl
        subst hO
        obtain ⟨l, hl⟩ : ∃ l, Hid (ls[xs.length] = l) := ⟨_, Lib.hid rfl⟩
        rw [hl.out] at hc
        have hll : l.length ≤ 1048576 := by rw [← hl.out]; exact HZ.out _ (List.getElem_mem hkl)
        have HS := Lib.hid (secI_snoc hkl)
        rw [← HX.out, hl.out] at HS
        have i1 : (xs.length : Int) < ((n - 1 : Nat) : Int) := by omega
        have hcn : (spl 46 ((spl 32 l).getD 0 [])).length = ((spl 32 l).getD 0 []).count 46 + 1 := by unfold spl; rw [spl_len_count]
        have HSE : Hid (secI l = ⟨((((spl 32 l).getD 0 []).count 46 + 1 : Nat) : Int), bar (tlW l)⟩) := Lib.hid (by unfold secI; rw [hcn])
        clear hcn
        have hhd : ((spl 32 l).getD 0 []).length ≤ l.length := by
          rw [List.getD_eq_getElem?_getD]
          cases hq : (spl 32 l)[0]? with
          | none => exact Nat.zero_le _
          | some x => exact spl_mem (List.mem_of_getElem? hq)
        have hct : ((spl 32 l).getD 0 []).count 46 ≤ ((spl 32 l).getD 0 []).length := List.count_le_length
        have htl := tlW_len l
        have HLL := Lib.hid hll
        have HTL := Lib.hid (show SectionK.fit ⟨((((spl 32 l).getD 0 []).count 46 + 1 : Nat) : Int), bar (tlW l)⟩ by show (bar (tlW l)).size ≤ maxLen; rw [bar_size]; unfold maxLen; omega)
        clear htl
        obtain ⟨hd, hhd2⟩ : ∃ x, Hid ((spl 32 l).getD 0 [] = x) := ⟨_, Lib.hid rfl⟩
        rw [hhd2.out] at hhd hct HSE HTL
        obtain ⟨tl, htl⟩ : ∃ x, Hid (tlW l = x) := ⟨_, Lib.hid rfl⟩
        rw [htl.out] at HSE HTL
        have q5 : IntKind.i64.wrap ((hd.count 46 : Int) + 1) = ((hd.count 46 + 1 : Nat) : Int) := by rw [IntKind.wrap_i64]; omega
        clear hhd hct hll
        go_wp2_with fail
        refine (cutSp_any l _ HLL.out (HM.out.below HB.out)).mono ?_
        rintro e v1 ⟨⟨b, rfl⟩, hb⟩
        rw [hhd2.out, htl.out]
        replace OX := Lib.hid (OX.out.call hb)
        replace OP := Lib.hid (OP.out.call hb)
        replace HB := Lib.hid (HB.out.trans (hb.mono HB.out.size))
        clear hb hc
        go_wp2_with fail
        refine (countDot_any hd _).mono ?_
        rintro e v2 ⟨rfl, hv⟩
        subst hv
        have HL := Lib.hid (show Cells _ _ (SectionK.row [⟨((hd.count 46 + 1 : Nat) : Int), bar tl⟩]) from cells_arr v1 #[.int .i64 ((hd.count 46 + 1 : Nat) : Int), .string (bar tl)] 51 v1.heap.size rfl)
        have hbl := below1 v1 (.cells #[.int .i64 ((hd.count 46 + 1 : Nat) : Int), .string (bar tl)] 51)
        replace OX := Lib.hid (OX.out.call hbl)
        replace OP := Lib.hid (OP.out.call hbl)
        replace HB := Lib.hid (HB.out.trans (hbl.mono HB.out.size))
        clear hbl
        have hsz := HB.out.size
        have hx20 : xs.length + 1 ≤ 1100000 := by have := H13.out; omega
        have HX20 := Lib.hid (show xs.length ≤ 1000000 by have := H13.out; omega)
        go_wp2_with (at_builtin; go_must (refine list_append_gr elSec _ rfl _ _ rfl w.heap.size Q _ qc xs.length 1 1 (SectionK.row xs) (SectionK.row [⟨((hd.count 46 + 1 : Nat) : Int), bar tl⟩]) rfl rfl rfl OX.out.1 HL.out sec_one hsz hx20 ?_); intro Q3 q3 v3 own hb hg; have HG := Lib.hid hg; have HW := Lib.hid own; have HB3 := Lib.hid hb; clear own hb hg)
        replace OP := Lib.hid (OP.out.grow OX.out.1 (by decide) HG.out)
        have N3 := Lib.hid (owd_grown OX.out rfl (SectionK.row_append _ _).symm HW.out HX20.out HTL.out)
        have HB4 := Lib.hid (HB.out.trans HB3.out)
        clear HG HW HB3 OX HL hsz HB
        rw [← HSE.out] at N3
        go_roundw
        case rel => exact ⟨xs.length + 1, Q3, q3, xs ++ [secI l], by omega, by go_num, by simp, by simp, Lib.hid HS.out.symm, N3, OP, HB4⟩
        case measure => (first | (simp [intOf]; done) | (simp [intOf]; omega))
      · have hxn : xs.length = n - 1 := by omega
        have i1 : ¬ (xs.length : Int) < ((n - 1 : Nat) : Int) := by omega
        have HF := Lib.hid (dp_fin (l := s.data.toList) (xs := xs) hls.out (by have := H13.out; have := HNL.out; omega) (by (have h9 := HX.out); rw [hxn, ← HNL.out] at h9; exact h9))
        clear hxn hk
        rcases Bool.eq_false_or_eq_true (docB xs) with hv | hv
        · by_cases hx : txF xs xs.length = s
          · have HR := Lib.hid (HF.out.trans (finD_ok hv (by rw [hx])))
            have HT := Lib.hid hx
            clear hx
            go_wp2_with (first
              | (go_at_call 37; refine (IsDocument_any Q qc xs _ OX.out.rd.cells OX.out.2.2.1 OX.out.2.2.2).mono ?_; rintro e v1 ⟨rfl, hb⟩; rw [hv]; have OY := Lib.hid (OX.out.call hb); have HC := Lib.hid (HB.out.trans (hb.mono HB.out.size)); clear hb)
              | (go_at_call 58; have y9 := OY; clear y9; refine (documentText_any Q qc xs _ OY.out.rd.cells hv).mono ?_; rintro e v2 ⟨rfl, hb⟩; rw [HT.out]; have OZ := Lib.hid (OY.out.call hb); have HE := Lib.hid (HC.out.trans (hb.mono HC.out.size)); clear hb))
            go_ret2
            exact toLB_yes HR.out OZ.out HE.out
          · have hxs := same_no hx
            have HR := Lib.hid (HF.out.trans (finD_ne (fun h => hx (ByteArray.ext (Array.ext' h)))))
            obtain ⟨x, ex⟩ : ∃ x, Hid (txF xs xs.length = x) := ⟨_, Lib.hid rfl⟩
            rw [ex.out] at hxs
            clear hx
            go_wp2_with (first
              | (go_at_call 37; refine (IsDocument_any Q qc xs _ OX.out.rd.cells OX.out.2.2.1 OX.out.2.2.2).mono ?_; rintro e v1 ⟨rfl, hb⟩; rw [hv]; have OY := Lib.hid (OX.out.call hb); have HC := Lib.hid (HB.out.trans (hb.mono HB.out.size)); clear hb)
              | (go_at_call 58; have y9 := OY; clear y9; refine (documentText_any Q qc xs _ OY.out.rd.cells hv).mono ?_; rintro e v2 ⟨rfl, hb⟩; rw [ex.out]; have OZ := Lib.hid (OY.out.call hb); have HE := Lib.hid (HC.out.trans (hb.mono HC.out.size)); clear hb))
            go_ret2
            exact toLB_no HR.out HE.out
        · have HR := Lib.hid (HF.out.trans (finD_bad hv))
          go_wp2_with (go_at_call 37; refine (IsDocument_any Q qc xs _ OX.out.rd.cells OX.out.2.2.1 OX.out.2.2.2).mono ?_; rintro e v1 ⟨rfl, hb⟩; rw [hv]; have OY := Lib.hid (OX.out.call hb); have HC := Lib.hid (HB.out.trans (hb.mono HB.out.size)); clear hb)
          go_ret2
          exact toLB_no HR.out HC.out
end Go.Proofs.YtajfbiihlfccnaaDoor
