/- The walk of the law FnDocuments: it returns true. Conditions: none. -/
import Derived.Test.YtajfbiihlfccnaaDoorSeF
import Derived.Test.YtajfbiihlfccnaaDoorSeP
import Derived.Test.YtajfbiihlfccnaaDoorDoc3
import Derived.Test.YtajfbiihlfccnaaDoorLst
import Derived.Test.YtajfbiihlfccnaaDoorByt
import Derived.Deep.DrawnRows
import Derived.Deep.Cut
import Derived.Deep.CutRange
import Derived.Deep.DeepCutAuto
import Derived.BigQuiet
namespace Go.Proofs.YtajfbiihlfccnaaDoor.fnDocuments
open Go.RowKit
set_option linter.unusedVariables false
set_option linter.unusedSimpArgs false
attribute [local go_sem ↓] Go.wp_at_zero Go.wp_at_succ
set_option maxRecDepth 100000 in
set_option maxHeartbeats 16000000 in
theorem walk (A : Option Addr) (c : Nat) (xs : List Int) (w : World) (hm : Mx w) (hx : xs.length ≤ c ∧ Cells w A (ByteK.row xs) ∧ xs.length ≤ maxLen ∧ ∀ x ∈ xs, ByteK.fit x) :
    Calls Tryd.prog 6 #[.slice A xs.length c] w fun e w' => e = .returned (.bool true) ∧ Below w.heap.size w w' := by
  have S := Lib.hid (Lst.mk (Below.refl w.heap.size w) (bytesC_of hx.2.1 hx.2.2.2))
  have HM := Lib.hid hm
  clear hx hm
  by_cases hbig : 65536 < xs.length
  · have hd : decide (65536 < xs.length) = true := decide_eq_true hbig
    go_enter Tryd.func6, Tryd.ntmps6
    go_wp2_with fail
    refine (rBig_any A _ c w).mono ?_
    rintro e w1 ⟨rfl, hb⟩
    rw [hd]
    go_wp2
    go_ret
    exact ⟨rfl, hb⟩
  have hd : decide (65536 < xs.length) = false := decide_eq_false hbig
  have hxl : xs.length ≤ 65536 := by omega
  clear hbig
  go_enter Tryd.func6, Tryd.ntmps6
  go_wp2_with fail
  refine (rBig_any A _ c w).mono ?_
  rintro e v1 ⟨rfl, hb⟩
  replace S := Lib.hid (S.out.call hb)
  rw [hd]
  clear hd hb
  have hlo := S.out.sz
  go_wp2_with fail
  refine (DrawSectionNumber_any A _ c v1 S.out.bytes hxl).mono ?_
  rintro e v2 ⟨P, p, ls, i, rfl, o1, hl, hb⟩
  replace S := Lib.hid (S.out.call hb)
  have R := Lib.hid (OwD.low o1 hlo)
  have HLER := Lib.hid hl
  clear o1 hl hb hlo
  have HL := Lib.hid (sec_law (xs := ls) (i := i))
  obtain ⟨s, hs⟩ : ∃ s, Hid (snS ls i = s) := ⟨_, Lib.hid rfl⟩
  obtain ⟨ok, hok⟩ : ∃ b, Hid (askB ls i = b) := ⟨_, Lib.hid rfl⟩
  go_wp2_with fail
  refine (SectionNumber_any P p ls i v2 R.out.rd.cells R.out.rd.2.2.1 R.out.rd.2.2.2).mono ?_
  rintro e v3 ⟨rfl, hb⟩
  replace S := Lib.hid (S.out.call hb)
  replace R := Lib.hid (R.out.call hb)
  rw [hs.out, hok.out]
  clear hb 
  go_wp2_with fail
  refine (sSectionNumber_any P p ls i v3 R.out.rd.cells R.out.rd.2.2.1 R.out.rd.2.2.2).mono ?_
  rintro e v4 ⟨rfl, hb⟩
  replace S := Lib.hid (S.out.call hb)
  replace R := Lib.hid (R.out.call hb)
  rw [hs.out, hok.out]
  clear hb 
  have kb : (ok != ok) = false := by simp
  go_upto_if 60 with fail
  go_cut [4, 5, 6, 7, 8] (fun u4 u5 u6 u7 u8 wx => Hid (Lst w wx A xs.length))
  case first =>
    rcases Bool.eq_false_or_eq_true ok with hk | hk
    · obtain ⟨n, hin, hn, e0, e1, e2, e3, d1, d4, hz, e4⟩ := HL.out (hok.out.trans hk)
      subst hin
      rw [hs.out] at e0
      subst e0
      subst hk
      have E1 := Lib.hid e1
      have E2 := Lib.hid e2
      have E3 := Lib.hid e3
      have E4 := Lib.hid e4
      have HN := Lib.hid hn
      have HZ := Lib.hid hz
      clear e1 e2 e3 e4 HL hs hz kb
      obtain ⟨t, ht⟩ : ∃ t, Hid (numS ls n = t) := ⟨_, Lib.hid rfl⟩
      rw [ht.out] at E1 E2 E4 HZ
      rw [ht.out]
      have i1 : (n : Int) < (ls.length : Int) := by omega
      have i2 : (n : Int).toNat = n := by omega
      go_wp2_with fail
      refine (FindSection_any P p ls t v4 R.out.rd.cells R.out.rd.2.2.1 R.out.rd.2.2.2).mono ?_
      rintro e v5 ⟨rfl, hb⟩
      replace S := Lib.hid (S.out.call hb)
      replace R := Lib.hid (R.out.call hb)
      rw [E1.out, E2.out]
      clear hb 
      obtain ⟨two, htwo⟩ : ∃ b, Hid (upB ls (n : Int) = b) := ⟨_, Lib.hid rfl⟩
      obtain ⟨d, hd⟩ : ∃ d, Hid (dAt ls n = d) := ⟨_, Lib.hid rfl⟩
      rw [htwo.out] at E3 E4
      rw [hd.out] at E3 E4 d1 d4
      go_wp2_with fail
      refine (BelongsTo_any P p ls (n : Int) v5 R.out.rd.cells R.out.rd.2.2.1 R.out.rd.2.2.2).mono ?_
      rintro e v6 ⟨rfl, hb⟩
      replace S := Lib.hid (S.out.call hb)
      replace R := Lib.hid (R.out.call hb)
      rw [htwo.out]
      clear hb 
      have k0 : ((n : Int) != (n : Int)) = false := by simp
      obtain ⟨a, hP, hc0, hc1⟩ := sec_cell R.out.rd.cells hn
      rw [hd.out] at hc0
      clear hc1
      have hPa := hP
      subst hP
      rcases Bool.eq_false_or_eq_true two with hk2 | hk2
      · obtain ⟨u, f1, f2, f3, f4, t2, f5⟩ := E4.out hk2
        have F1 := Lib.hid f1
        have F3 := Lib.hid f3
        have F4 := Lib.hid f4
        have F5 := Lib.hid f5
        have F2 := Lib.hid f2
        have hg : decide (1 < d) = true := by rw [← E3.out, hk2]
        have HK2 := Lib.hid hk2
        subst hk2
        rw [F1.out]
        clear f1 f3 f5 f2 E4 HK2
        have t1 : snS ls (u : Int) = numS ls u := by unfold snS; rw [if_pos F3.out]; rfl
        obtain ⟨q, hq⟩ : ∃ q, Hid (numS ls u = q) := ⟨_, Lib.hid rfl⟩
        rw [hq.out] at t1 F5
        go_wp2_with fail
        refine (SectionNumber_any (some a) p ls (u : Int) v6 R.out.rd.cells R.out.rd.2.2.1 R.out.rd.2.2.2).mono ?_
        rintro e v7 ⟨rfl, hb⟩
        replace S := Lib.hid (S.out.call hb)
        replace R := Lib.hid (R.out.call hb)
        rw [t1, F3.out]
        clear hb 
        obtain ⟨b, hb1, hd0, hd1⟩ := sec_cell R.out.rd.cells F2.out
        obtain ⟨rfl, _⟩ : a = b ∧ True := ⟨by cases hb1; rfl, trivial⟩
        clear hd1 hb1 hc0
        obtain ⟨b, hb1, hc0, hc1⟩ := sec_cell R.out.rd.cells HN.out
        obtain ⟨rfl, _⟩ : a = b ∧ True := ⟨by cases hb1; rfl, trivial⟩
        clear hc1 hb1
        rw [hd.out] at hc0
        rw [F4.out] at hd0
        have i3 : (u : Int) < (ls.length : Int) := by have := F2.out; omega
        have i4 : (u : Int).toNat = u := by omega
        have z0 : t.size = q.size + 1 + t2.size := by rw [F5.out, ByteArray.size_append, ByteArray.size_append]; rfl
        have z9 := HZ.out
        have z1 : decide (t.size ≤ q.size) = false := decide_eq_false (by omega)
        have z11 : decide ((t.size : Int) ≤ (q.size : Int)) = false := decide_eq_false (by omega)
        have z2 : IntKind.i64.wrap ((q.size : Int) + 1) = ((q.size + 1 : Nat) : Int) := by rw [IntKind.wrap_i64]; omega
        have z3 : (0 : Int) ≤ ((q.size + 1 : Nat) : Int) := by omega
        have z4 : ((q.size + 1 : Nat) : Int) ≤ (t.size : Int) := by omega
        have z5 : ((q.size + 1 : Nat) : Int).toNat = q.size + 1 := by omega
        have z6 : ¬ 9223372036854775807 < q.size + 1 := by omega
        have z7 : t.extract 0 (q.size + 1) = q ++ ⟨#[46]⟩ := by
          apply ByteArray.ext
          apply Array.ext'
          have e8 := congrArg (fun b => b.data.toList) F5.out
          simp only [ByteArray.data_append, Array.toList_append] at e8
          have e9 : q.data.toList.length = q.size := Array.length_toList
          rw [Go.Lib.extract_eq]
          simp only [List.drop_zero, ByteArray.data_append, Array.toList_append, Nat.sub_zero, e8]
          rw [List.take_append_of_le_length (by simp), List.take_of_length_le (by simp)]
        have z8 : IntKind.i64.wrap (d - 1) = d - 1 := by rw [IntKind.wrap_i64]; omega
        have k1 : ((d - 1 : Int) != d - 1) = false := by simp
        obtain ⟨Q9, hQ9⟩ : ∃ x, Hid (q ++ ⟨#[46]⟩ = x) := ⟨_, Lib.hid rfl⟩
        rw [hQ9.out] at z7
        have hsame := same_yes (rfl : Q9 = Q9)
        have HQ9 := hQ9.out
        clear z0 z9 F5 F4 HZ
        go_wp2
        go_quiet (fail)
        go_wp2_with fail
        go_meet
        exact Lib.hid (S.out.call (below_drewN (Below.refl _ _) _))
      · have hg : decide (1 < d) = false := by rw [← E3.out, hk2]
        have HK2 := Lib.hid hk2
        subst hk2
        clear E4
        go_wp2_with fail
        go_meet
        exact S
    · subst hk
      go_wp2_with fail
      go_meet
      exact S
  case rest =>
    clear S R HL hs hok kb
    obtain ⟨W, rfl⟩ : ∃ W, W = wc := ⟨_, rfl⟩
    have S := hcut
    clear hcut
    have hlo := S.out.sz
    go_wp2_with fail
    refine (DrawFindSection_any A _ c W S.out.bytes hxl).mono ?_
    rintro e v8 ⟨P, p, ls, z, rfl, o1, hl, hb⟩
    replace S := Lib.hid (S.out.call hb)
    have R := Lib.hid (OwD.low o1 hlo)
    have HLER := Lib.hid hl
    clear o1 hl hb hlo
    obtain ⟨fi, hfi⟩ : ∃ b, Hid (fsI ls z = b) := ⟨_, Lib.hid rfl⟩
    obtain ⟨fb, hfb⟩ : ∃ b, Hid (fsB ls z = b) := ⟨_, Lib.hid rfl⟩
    have kb : (fb != fb) = false := by simp
    have ki : (fi != fi) = false := by simp
    go_wp2_with fail
    refine (FindSection_any P p ls z v8 R.out.rd.cells R.out.rd.2.2.1 R.out.rd.2.2.2).mono ?_
    rintro e v9 ⟨rfl, hb⟩
    replace S := Lib.hid (S.out.call hb)
    replace R := Lib.hid (R.out.call hb)
    rw [hfi.out, hfb.out]
    clear hb 
    go_wp2_with fail
    refine (sFindSection_any P p ls z v9 R.out.rd.cells R.out.rd.2.2.1 R.out.rd.2.2.2).mono ?_
    rintro e v10 ⟨rfl, hb⟩
    replace S := Lib.hid (S.out.call hb)
    replace R := Lib.hid (R.out.call hb)
    rw [hfi.out, hfb.out]
    clear hb 
    clear hfi hfb
    clear R
    have hlo := S.out.sz
    go_wp2_with fail
    refine (DrawDocumentText_any A _ c v10 S.out.bytes hxl).mono ?_
    rintro e v11 ⟨P, p, ds, rfl, o1, hl, hb⟩
    replace S := Lib.hid (S.out.call hb)
    have R := Lib.hid (OwD.low o1 hlo)
    have HLER := Lib.hid hl
    clear o1 hl hb hlo
    have HT : Hid (docB ds = true → dpI (txS ds).data.toList = some ds) := Lib.hid (fun h => by unfold txS; rw [if_pos h]; exact (dp_yes h).1)
    have HZ := Lib.hid (txS_size ds)
    obtain ⟨t, ht⟩ : ∃ t, Hid (txS ds = t) := ⟨_, Lib.hid rfl⟩
    obtain ⟨b, hb0⟩ : ∃ b, Hid (docB ds = b) := ⟨_, Lib.hid rfl⟩
    rw [ht.out, hb0.out] at HT
    rw [ht.out] at HZ
    clear kb ki
    have kb : (b != b) = false := by simp
    go_wp2_with fail
    refine (DocumentText_any P p ds v11 R.out.rd.cells R.out.rd.2.2.1 R.out.rd.2.2.2).mono ?_
    rintro e v12 ⟨rfl, hb⟩
    replace S := Lib.hid (S.out.call hb)
    replace R := Lib.hid (R.out.call hb)
    rw [ht.out, hb0.out]
    clear hb 
    go_wp2_with fail
    refine (sDocumentText_any P p ds v12 R.out.rd.cells R.out.rd.2.2.1 R.out.rd.2.2.2).mono ?_
    rintro e v13 ⟨rfl, hb⟩
    replace S := Lib.hid (S.out.call hb)
    replace R := Lib.hid (R.out.call hb)
    rw [ht.out, hb0.out]
    clear hb 
    go_wp2_with fail
    refine (IsDocument_any P p ds v13 R.out.rd.cells R.out.rd.2.2.1 R.out.rd.2.2.2).mono ?_
    rintro e v14 ⟨rfl, hb⟩
    replace S := Lib.hid (S.out.call hb)
    replace R := Lib.hid (R.out.call hb)
    rw [hb0.out]
    clear hb 
    have HZ9 := Lib.hid (show t.size ≤ 1048576 by have := HZ.out; omega)
    have hlo := S.out.sz
    go_wp2_with fail
    refine (ParseDocument_any t v14 HZ9.out (HM.out.below S.out.on)).mono ?_
    rintro e v15 ⟨B, bc, rfl, o1, hb⟩
    replace S := Lib.hid (S.out.call hb)
    replace R := Lib.hid (R.out.call hb)
    have Y := Lib.hid (OwD.low (show OwD SectionK 51 _ v15 B bc _ from o1) hlo)
    clear o1 hb hlo
    go_upto_region 28 with fail
    go_cut [23, 26, 27, 196] (fun u23 u26 u27 u wx => u = .bool false ∧ Hid (Lst w wx A xs.length))
    case first =>
      rcases Bool.eq_false_or_eq_true b with hk | hk
      · have h9 := HT.out hk
        rw [h9] at Y
        rw [h9]
        have Y : Hid (OwD SectionK 51 _ _ B bc ds) := Y
        rw [show dcR (some ds) = ds from rfl, show dcB (some ds) = true from rfl]
        subst hk
        clear h9
        go_wp2_with fail
        refine (rSections_same Y.out.rd R.out.rd).mono ?_
        rintro e v16 ⟨rfl, hb⟩
        replace S := Lib.hid (S.out.call hb)
        clear hb
        go_wp2_with fail
        go_meet
        exact ⟨rfl, S⟩
      · subst hk
        go_wp2_with fail
        go_meet
        exact ⟨rfl, S⟩
    case rest =>
      clear S R Y HT HZ HZ9 ht hb0 kb
      obtain ⟨W, rfl⟩ : ∃ W, W = wc := ⟨_, rfl⟩
      obtain ⟨rfl, S⟩ := hcut
      go_wp2_with fail
      refine (DrawParseDocument_any A _ c W S.out.bytes hxl).mono ?_
      rintro e v17 ⟨⟨t, rfl, ht⟩, hb⟩
      replace S := Lib.hid (S.out.call hb)
      clear hb 
      have HZ := Lib.hid (show t.size ≤ 1048576 by omega)
      clear ht
      obtain ⟨ys, hys⟩ : ∃ xs, Hid (dcR (dpI t.data.toList) = xs) := ⟨_, Lib.hid rfl⟩
      obtain ⟨ok, hok⟩ : ∃ b, Hid (dcB (dpI t.data.toList) = b) := ⟨_, Lib.hid rfl⟩
      have kb : (ok == ok) = true := by simp
      have hlo := S.out.sz
      go_wp2_with fail
      refine (ParseDocument_any t v17 HZ.out (HM.out.below S.out.on)).mono ?_
      rintro e v18 ⟨B, bc, rfl, o1, hb⟩
      replace S := Lib.hid (S.out.call hb)
      have Y := Lib.hid (OwD.low (show OwD SectionK 51 _ v18 B bc _ from o1) hlo)
      clear o1 hb hlo
      rw [hys.out] at Y ⊢
      rw [hok.out]
      have hlo := S.out.sz
      go_wp2_with fail
      refine (sParseDocument_any t v18 HZ.out).mono ?_
      rintro e v19 ⟨C, cc, rfl, o1, hb⟩
      replace S := Lib.hid (S.out.call hb)
      replace Y := Lib.hid (Y.out.call hb)
      have Z := Lib.hid (OwD.low (show OwD SectionK 51 _ v19 C cc _ from o1) hlo)
      clear o1 hb hlo
      rw [← dp_same, hys.out] at Z
      rw [← dp_same, hys.out, hok.out]
      go_wp2_with fail
      refine (rSections_same Y.out.rd Z.out.rd).mono ?_
      rintro e v20 ⟨rfl, hb⟩
      replace S := Lib.hid (S.out.call hb)
      clear hb
      go_wp2
      go_ret
      exact ⟨rfl, S.out.on⟩
end Go.Proofs.YtajfbiihlfccnaaDoor.fnDocuments
