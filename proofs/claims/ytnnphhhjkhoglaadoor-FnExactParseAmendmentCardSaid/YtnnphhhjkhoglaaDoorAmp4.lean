/- ParseAmendment of the reference. Conditions: the ranges named. -/
import Derived.Test.YtnnphhhjkhoglaaDoorAmp2
import Derived.Test.YtnnphhhjkhoglaaDoorInv
import Derived.Deep.DrawnRows
import Derived.Deep.Cut
import Derived.Deep.CutRange
import Derived.Deep.DeepCutAuto
import Derived.Deep.MidRow
namespace Go.Proofs.YtnnphhhjkhoglaaDoor
open Go.RowKit
set_option linter.unusedVariables false
set_option linter.unusedSimpArgs false
attribute [local go_sem ↓] Go.wp_at_zero Go.wp_at_succ
theorem Cells.call {w w' : World} {A : Option Addr} {xs : List Value} (h : Cells w A xs) (hb : Below w.heap.size w w') : Cells w' A xs := h.below hb
theorem cells_drop1 {w : World} {A : Option Addr} {oc : Nat} {xs : List ByteArray} (h : Cells w A (StrK.row xs)) (hc : xs.length ≤ oc) : Cells w (if oc = 1 then A else A.map (·.add 1)) (StrK.row (xs.drop 1)) := by
  intro i u hu
  have hl : 1 + i < xs.length := by
    have h1 := (List.getElem?_eq_some_iff.1 hu).1
    rw [strK_row, List.length_map, List.length_drop] at h1
    omega
  rw [if_neg (by omega)]
  rw [strK_row, List.getElem?_map, List.getElem?_drop] at hu
  obtain ⟨ad, hA, hx⟩ := h (1 + i) u (by rw [strK_row, List.getElem?_map]; exact hu)
  subst hA
  exact ⟨ad.add 1, rfl, by rw [add_add']; exact hx⟩
theorem as_long {l : List UInt8} (h : 100 < l.length) : amS l = none := by unfold amS; rw [if_pos (.inl h)]
theorem as_halves {l : List UInt8} (h : 2 < (hvS l).length) : amS l = none := by unfold amS; rw [if_pos (.inr (.inl h))]
theorem as_words {l : List UInt8} (h : (wdS l).length ≠ 3 ∧ (wdS l).length ≠ 4) : amS l = none := by unfold amS; rw [if_pos (.inr (.inr h))]
theorem as_fin {l : List UInt8} (h1 : ¬ 100 < l.length) (h2 : ¬ 2 < (hvS l).length) (h3 : (wdS l).length = 3 ∨ (wdS l).length = 4) : amS l = finA l (mkSA l) (lrV ((wdS l).getD ((wdS l).length - 1) [])) (if (wdS l).length = 4 then lrV ((wdS l).getD 1 []) else some 0) := by unfold amS; rw [if_neg (by omega)]
theorem lread_any (l : List UInt8) (w : World) (hs : l.length ≤ 1048576) : Calls Tryd.prog 20 #[.string (bar l)] w fun e w' => e = .returned (.tuple #[.int .i64 (nI (lrV l)), .bool (bI (lrV l))]) ∧ Below w.heap.size w w' := by
  refine (l1Read_any (bar l) w (by rw [bar_size]; unfold maxLen; omega)).mono ?_
  rintro e w' ⟨rfl, m, rfl⟩
  rw [bar_list, optI_eq]
  exact ⟨rfl, below_drewN (Below.refl _ _) _⟩
theorem made_own {w w' : World} {a : Amd} {e : Ending} (h : MadeA w a e w') (hl : a.ws.length ≤ 1048576) (hf : ∀ s ∈ a.ws, s.size ≤ maxLen) : ∃ (A : Option Addr) (c : Nat), e = .returned (.agg #[.int .i64 a.k, .int .i64 a.p, .int .i64 a.n, .slice A a.ws.length c]) ∧ OwD StrK 9 w.heap.size w' A c a.ws ∧ Below w.heap.size w w' := by
  obtain ⟨A, c, he, own, hb⟩ := h
  exact ⟨A, c, he, Ow.mk (by rw [row_strs]; exact own) hl hf, hb⟩
set_option maxRecDepth 100000 in
set_option maxHeartbeats 16000000 in
theorem l9Parse_any (s : ByteArray) (w : World) (hs : s.size ≤ 1048576) : Calls Tryd.prog 9 #[.string s] w (AmTo w (amR (amS s.data.toList)) (amB (amS s.data.toList))) := by
  have hsl : s.data.toList.length = s.size := Array.length_toList
  have hb1 := below1 w (.cells #[.int .i64 0, .int .i64 0, .int .i64 0, .slice none 0 0] 24)
  have hb2 := below1 (w.alloc (.cells #[.int .i64 0, .int .i64 0, .int .i64 0, .slice none 0 0] 24)) (.cells #[.int .i64 0, .int .i64 0, .int .i64 0, .slice none 0 0] 24)
  have S := Lib.hid (((lst0 w).call hb1).call hb2)
  have Z := Lib.hid ((BT.new w #[.int .i64 0, .int .i64 0, .int .i64 0, .slice none 0 0] 24 w.heap.size rfl).call hb2)
  have N := Lib.hid (BT.new (w.alloc (.cells #[.int .i64 0, .int .i64 0, .int .i64 0, .slice none 0 0] 24)) #[.int .i64 0, .int .i64 0, .int .i64 0, .slice none 0 0] 24 (w.heap.size + 1) (by simp))
  obtain ⟨hv, hhv⟩ : ∃ x, Hid (hvS s.data.toList = x) := ⟨_, Lib.hid rfl⟩
  obtain ⟨wd, hwd⟩ : ∃ x, Hid (wdS s.data.toList = x) := ⟨_, Lib.hid rfl⟩
  obtain ⟨ph, hph⟩ : ∃ x, Hid (phS s.data.toList = x) := ⟨_, Lib.hid rfl⟩
  have h1h : 1 ≤ hv.length := by rw [← hhv.out]; exact spl_pos _ _
  have HZ : Hid (∀ x ∈ hv, x.length ≤ s.size) := Lib.hid (fun x hx => by rw [← hhv.out] at hx; have := spl_mem hx; omega)
  have h2h : hv.length ≤ 1048577 := by (have h9 := spl_len 58 s.data.toList []); rw [← hhv.out]; unfold hvS spl; omega
  clear hb1 hb2
  go_enter Tryd.func9, Tryd.ntmps9
  go_upto_region 2 with fail
  generalize ((w.alloc (.cells #[.int .i64 0, .int .i64 0, .int .i64 0, .slice none 0 0] 24)).alloc (.cells #[.int .i64 0, .int .i64 0, .int .i64 0, .slice none 0 0] 24)) = v1 at *
  have hlo := S.out.sz
  go_wp2_with fail
  refine (l1SplitL_any 58 s v1 hs).mono ?_
  rintro e v2 ⟨O, oc, ps, rfl, hps, own, hb⟩
  rw [show spl 58 s.data.toList = hv from hhv.out] at hps
  replace S := Lib.hid (S.out.call hb)
  replace Z := Lib.hid (Z.out.call hb)
  replace N := Lib.hid (N.out.call hb)
  have HR := Lib.hid (show OwP w.heap.size v2 O oc ps from ⟨own_mono own.1 hlo, own.2⟩)
  have HP := Lib.hid hps
  clear hb own hlo
  have hpl : ps.length = hv.length := by rw [hps, List.length_map]
  rw [hpl]
  have HPL := Lib.hid hpl
  clear hpl hps
  obtain ⟨m, hm⟩ : ∃ m, hv.length = m := ⟨_, rfl⟩
  rw [hm] at h1h h2h ⊢
  have HM := Lib.hid hm
  clear hm
  have HL0 : Hid (0 < hv.length) := Lib.hid (by have := HM.out; omega)
  obtain ⟨x0, hx0⟩ : ∃ x, Hid (hv.getD 0 [] = x) := ⟨_, Lib.hid rfl⟩
  have HX2 : Hid (hv[0]'HL0.out = x0) := Lib.hid (by rw [← hx0.out, List.getD_eq_getElem?_getD, List.getElem?_eq_getElem HL0.out]; rfl)
  obtain ⟨g, hO, hc⟩ := str_cell HR.out HP.out HL0.out
  subst hO
  rw [HX2.out] at hc
  have i0 : (0 : Int) < (m : Int) := by omega
  have i00 : 0 < m := by omega
  have hx0l : x0.length ≤ s.size := by rw [← HX2.out]; exact HZ.out _ (List.getElem_mem _)
  have hsp : spl 32 x0 = wd := by rw [← hwd.out, ← hx0.out, ← hhv.out]; rfl
  have HX0 := Lib.hid hx0l
  have HSP := Lib.hid hsp
  clear hx0l hsp
  have hlo := S.out.sz
  go_wp2_with fail
  refine (l1SplitL_any 32 (bar x0) v2 (by rw [bar_size]; have := HX0.out; omega)).mono ?_
  rintro e v3 ⟨Q, qc, qs, rfl, hps, own, hb⟩
  rw [bar_list, HSP.out] at hps
  replace S := Lib.hid (S.out.call hb)
  replace Z := Lib.hid (Z.out.call hb)
  replace N := Lib.hid (N.out.call hb)
  replace HR := Lib.hid (HR.out.call hb)
  have WP := Lib.hid (show OwP w.heap.size v3 Q qc qs from ⟨own_mono own.1 hlo, own.2⟩)
  have HQ := Lib.hid hps
  clear hb own hlo
  have hpl : qs.length = wd.length := by rw [hps, List.length_map]
  rw [hpl]
  clear hpl hps hc
  have h1n : 1 ≤ wd.length := by rw [← HSP.out]; exact spl_pos _ _
  obtain ⟨n, hn⟩ : ∃ n, wd.length = n := ⟨_, rfl⟩
  rw [hn] at h1n ⊢
  have HN := Lib.hid hn
  clear hn
  obtain ⟨g1, hQ, _⟩ := str_cell WP.out HQ.out (k := 0) (by have := HN.out; omega)
  subst hQ
  by_cases ha : 100 < s.size
  · have c1 : (100 : Int) < (s.size : Int) := by omega
    have HE := Lib.hid (as_long (l := s.data.toList) (by omega))
    clear ha
    go_wp2_with (first | (refine wpList_load_mid rfl 24 _ rfl (w.heap.size + 1) 0 rfl [.int .i64 0, .int .i64 0, .int .i64 0, .slice none 0 0] _ N.out.rng Tryd.underlying24 rfl (by kernel_rfl) ?_) | ((refine wpList_store_mid rfl 24 _ _ rfl w.heap.size 0 #[.int .i64 0, .int .i64 0, .int .i64 0, .slice none 0 0] rfl rfl Z.out.there (by kernel_rfl) (by simp [Value.oneCell']) ?_); have hsz := S.out.sz; replace S := Lib.hid (S.out.puts (q := w.heap.size) (by omega) 0 [.int .i64 0, .int .i64 0, .int .i64 0, .slice none 0 0]); replace N := Lib.hid (N.out.putsfar w.heap.size (by omega) 0 [.int .i64 0, .int .i64 0, .int .i64 0, .slice none 0 0]); replace HR := Lib.hid (HR.out.puts Z.out.ty (by decide) 0 [.int .i64 0, .int .i64 0, .int .i64 0, .slice none 0 0]); replace WP := Lib.hid (WP.out.puts Z.out.ty (by decide) 0 [.int .i64 0, .int .i64 0, .int .i64 0, .slice none 0 0]); replace Z := Lib.hid (Z.out.puts [.int .i64 0, .int .i64 0, .int .i64 0, .slice none 0 0] (by rfl)); have KS := Z.out.box; have k0 := KS.1 0 _ rfl; have k1 := KS.1 1 _ rfl; have k2 := KS.1 2 _ rfl; have k3 := KS.1 3 _ rfl; clear KS) | (refine bodyPost_ret (v := .tuple #[.agg #[.int .i64 0, .int .i64 0, .int .i64 0, .slice none 0 0], .bool false]) (by (rw [results_cell_tmp Tryd.results9]; simp [go_sem, k0, k1, k2, k3])) rfl ?_; exact amTo_no HE.out S.out.on))
  have c1 : ¬ (100 : Int) < (s.size : Int) := by omega
  by_cases hb : 2 < m
  · have c2 : (2 : Int) < (m : Int) := by omega
    have HE := Lib.hid (as_halves (l := s.data.toList) (by rw [hhv.out, HM.out]; exact hb))
    clear hb
    go_wp2_with (first | (refine wpList_load_mid rfl 24 _ rfl (w.heap.size + 1) 0 rfl [.int .i64 0, .int .i64 0, .int .i64 0, .slice none 0 0] _ N.out.rng Tryd.underlying24 rfl (by kernel_rfl) ?_) | ((refine wpList_store_mid rfl 24 _ _ rfl w.heap.size 0 #[.int .i64 0, .int .i64 0, .int .i64 0, .slice none 0 0] rfl rfl Z.out.there (by kernel_rfl) (by simp [Value.oneCell']) ?_); have hsz := S.out.sz; replace S := Lib.hid (S.out.puts (q := w.heap.size) (by omega) 0 [.int .i64 0, .int .i64 0, .int .i64 0, .slice none 0 0]); replace N := Lib.hid (N.out.putsfar w.heap.size (by omega) 0 [.int .i64 0, .int .i64 0, .int .i64 0, .slice none 0 0]); replace HR := Lib.hid (HR.out.puts Z.out.ty (by decide) 0 [.int .i64 0, .int .i64 0, .int .i64 0, .slice none 0 0]); replace WP := Lib.hid (WP.out.puts Z.out.ty (by decide) 0 [.int .i64 0, .int .i64 0, .int .i64 0, .slice none 0 0]); replace Z := Lib.hid (Z.out.puts [.int .i64 0, .int .i64 0, .int .i64 0, .slice none 0 0] (by rfl)); have KS := Z.out.box; have k0 := KS.1 0 _ rfl; have k1 := KS.1 1 _ rfl; have k2 := KS.1 2 _ rfl; have k3 := KS.1 3 _ rfl; clear KS) | (refine bodyPost_ret (v := .tuple #[.agg #[.int .i64 0, .int .i64 0, .int .i64 0, .slice none 0 0], .bool false]) (by (rw [results_cell_tmp Tryd.results9]; simp [go_sem, k0, k1, k2, k3])) rfl ?_; exact amTo_no HE.out S.out.on))
  have c2 : ¬ (2 : Int) < (m : Int) := by omega
  by_cases hcn : n ≠ 3 ∧ n ≠ 4
  · have c3 : ((n : Int) != 3) = true := by simp; omega
    have c4 : ((n : Int) != 4) = true := by simp; omega
    have HE := Lib.hid (as_words (l := s.data.toList) (by rw [hwd.out, HN.out]; exact hcn))
    clear hcn
    go_wp2_with (first | (refine wpList_load_mid rfl 24 _ rfl (w.heap.size + 1) 0 rfl [.int .i64 0, .int .i64 0, .int .i64 0, .slice none 0 0] _ N.out.rng Tryd.underlying24 rfl (by kernel_rfl) ?_) | ((refine wpList_store_mid rfl 24 _ _ rfl w.heap.size 0 #[.int .i64 0, .int .i64 0, .int .i64 0, .slice none 0 0] rfl rfl Z.out.there (by kernel_rfl) (by simp [Value.oneCell']) ?_); have hsz := S.out.sz; replace S := Lib.hid (S.out.puts (q := w.heap.size) (by omega) 0 [.int .i64 0, .int .i64 0, .int .i64 0, .slice none 0 0]); replace N := Lib.hid (N.out.putsfar w.heap.size (by omega) 0 [.int .i64 0, .int .i64 0, .int .i64 0, .slice none 0 0]); replace HR := Lib.hid (HR.out.puts Z.out.ty (by decide) 0 [.int .i64 0, .int .i64 0, .int .i64 0, .slice none 0 0]); replace WP := Lib.hid (WP.out.puts Z.out.ty (by decide) 0 [.int .i64 0, .int .i64 0, .int .i64 0, .slice none 0 0]); replace Z := Lib.hid (Z.out.puts [.int .i64 0, .int .i64 0, .int .i64 0, .slice none 0 0] (by rfl)); have KS := Z.out.box; have k0 := KS.1 0 _ rfl; have k1 := KS.1 1 _ rfl; have k2 := KS.1 2 _ rfl; have k3 := KS.1 3 _ rfl; clear KS) | (refine bodyPost_ret (v := .tuple #[.agg #[.int .i64 0, .int .i64 0, .int .i64 0, .slice none 0 0], .bool false]) (by (rw [results_cell_tmp Tryd.results9]; simp [go_sem, k0, k1, k2, k3])) rfl ?_; exact amTo_no HE.out S.out.on))
  have hn34 : n = 3 ∨ n = 4 := by omega
  go_upto_region 5 with fail
  go_cut [38] (fun u wx => u = .bool false ∧ wx = v3)
  case first =>
    rcases hn34 with hn3 | hn3
    · have c3 : ((n : Int) != 3) = false := by simp; omega
      clear hn3 hcn
      go_wp2_with fail
      go_meet
      exact ⟨by (first | rfl | (rw [decide_eq_false (show ¬ (100 : Int) < (s.size : Int) by omega), decide_eq_false (show ¬ (2 : Int) < (m : Int) by omega)]; rfl)), rfl⟩
    · have c3 : ((n : Int) != 3) = true := by simp; omega
      have c4 : ((n : Int) != 4) = false := by simp; omega
      clear hn3 hcn
      go_wp2_with fail
      go_meet
      exact ⟨by (first | rfl | (rw [decide_eq_false (show ¬ (100 : Int) < (s.size : Int) by omega), decide_eq_false (show ¬ (2 : Int) < (m : Int) by omega)]; rfl)), rfl⟩
  obtain ⟨rfl, hwc⟩ := hcut
  have hwc2 := hwc.symm
  clear hwc
  subst hwc2
  have HF := Lib.hid (as_fin (l := s.data.toList) (by omega) (by rw [hhv.out, HM.out]; exact hb) (by rw [hwd.out, HN.out]; exact hn34))
  rw [hwd.out, HN.out] at HF
  have HS1 := Lib.hid (show s.size ≤ 100 by omega)
  have HB2 := Lib.hid (show m ≤ 2 by omega)
  have H34 := Lib.hid hn34
  clear ha hb hcn hn34
  obtain ⟨oN, hoN⟩ : ∃ o, Hid ((if n = 4 then lrV (wd.getD 1 []) else some 0) = o) := ⟨_, Lib.hid rfl⟩
  obtain ⟨nv, hnv⟩ : ∃ y, Hid (nI oN = y) := ⟨_, Lib.hid rfl⟩
  obtain ⟨nb, hnb⟩ : ∃ y, Hid (bI oN = y) := ⟨_, Lib.hid rfl⟩
  have hwm : ∀ x ∈ wd, x.length ≤ 1048576 := fun x hx => by rw [← HSP.out] at hx; have := spl_mem hx; have := HX0.out; have := HS1.out; omega
  have HWM := Lib.hid hwm
  clear hwm
  go_upto_if 41 with fail
  go_cut [8, 9] (fun u8 u9 wx => u8 = .int .i64 nv ∧ u9 = .bool nb ∧ Hid (Lst w wx none 0) ∧ Hid (BT wx w.heap.size 24 [.int .i64 0, .int .i64 0, .int .i64 0, .slice none 0 0]) ∧ Hid (BT wx (w.heap.size + 1) 24 [.int .i64 0, .int .i64 0, .int .i64 0, .slice none 0 0]) ∧ Hid (OwP w.heap.size wx (some ⟨g, 0, none⟩) oc ps) ∧ Hid (OwP w.heap.size wx (some ⟨g1, 0, none⟩) qc qs))
  case first =>
    by_cases h44 : n = 4
    · have hnn := h44
      subst h44
      have hl1 : 1 < wd.length := by have := HN.out; omega
      obtain ⟨x1, hx1⟩ : ∃ x, Hid (wd.getD (1) [] = x) := ⟨_, Lib.hid rfl⟩
      have hx2 : wd[1] = x1 := by rw [← hx1.out, List.getD_eq_getElem?_getD, List.getElem?_eq_getElem hl1]; rfl
      have hxm : x1.length ≤ 1048576 := by rw [← hx2]; exact HWM.out _ (List.getElem_mem hl1)
      obtain ⟨g3, hO, hc⟩ := str_cell WP.out HQ.out hl1
      obtain ⟨rfl, _⟩ : g1 = g3 ∧ True := ⟨by cases hO; rfl, trivial⟩
      rw [hx2] at hc
      clear hx2 hl1 hO
      have HON : Hid (lrV x1 = oN) := Lib.hid (by rw [← hoN.out, if_pos rfl, hx1.out])
      go_wp2_with fail
      refine (lread_any x1 v3 hxm).mono ?_
      rintro e v4 ⟨rfl, hb⟩
      replace S := Lib.hid (S.out.call hb)
      replace Z := Lib.hid (Z.out.call hb)
      replace N := Lib.hid (N.out.call hb)
      replace HR := Lib.hid (HR.out.call hb)
      replace WP := Lib.hid (WP.out.call hb)
      rw [HON.out, hnv.out, hnb.out]
      clear hb hc hxm
      go_wp2_with fail
      go_meet
      exact ⟨rfl, rfl, S, Z, N, HR, WP⟩
    · have HO : Hid (oN = some 0) := Lib.hid (by rw [← hoN.out, if_neg h44])
      have e1 : nv = 0 := by rw [← hnv.out, HO.out]; rfl
      have e2 : nb = true := by rw [← hnb.out, HO.out]; rfl
      have HE1 := Lib.hid e1
      have HE2 := Lib.hid e2
      subst e1 e2
      have n3 : n = 3 := by have := H34.out; omega
      subst n3
      go_wp2_with fail
      go_meet
      exact ⟨rfl, rfl, S, Z, N, HR, WP⟩
  case rest =>
    clear S Z N HR WP
    obtain ⟨W, rfl⟩ : ∃ W, W = wc := ⟨_, rfl⟩
    obtain ⟨rfl, rfl, S, Z, N, HR, WP⟩ := hcut
    have q1 : IntKind.i64.wrap ((n : Int) - 1) = ((n - 1 : Nat) : Int) := by rw [IntKind.wrap_i64]; have := H34.out; omega
    have q2 : (0 : Int) ≤ ((n - 1 : Nat) : Int) := by omega
    have q3 : ((n - 1 : Nat) : Int) < (n : Int) := by omega
    have q4 : ((n - 1 : Nat) : Int).toNat = n - 1 := by omega
    have hl1 : n - 1 < wd.length := by have := HN.out; omega
    obtain ⟨xl, hxl⟩ : ∃ x, Hid (wd.getD (n - 1) [] = x) := ⟨_, Lib.hid rfl⟩
    have hx2 : wd[n - 1] = xl := by rw [← hxl.out, List.getD_eq_getElem?_getD, List.getElem?_eq_getElem hl1]; rfl
    have hxm : xl.length ≤ 1048576 := by rw [← hx2]; exact HWM.out _ (List.getElem_mem hl1)
    obtain ⟨g3, hO, hc⟩ := str_cell WP.out HQ.out hl1
    obtain ⟨rfl, _⟩ : g1 = g3 ∧ True := ⟨by cases hO; rfl, trivial⟩
    rw [hx2] at hc
    clear hx2 hl1 hO
    obtain ⟨oP, hoP⟩ : ∃ o, Hid (lrV xl = o) := ⟨_, Lib.hid rfl⟩
    obtain ⟨pv, hpv⟩ : ∃ y, Hid (nI oP = y) := ⟨_, Lib.hid rfl⟩
    obtain ⟨pb, hpb⟩ : ∃ y, Hid (bI oP = y) := ⟨_, Lib.hid rfl⟩
    go_wp2_with fail
    refine (lread_any xl W hxm).mono ?_
    rintro e v5 ⟨rfl, hb⟩
    replace S := Lib.hid (S.out.call hb)
    replace Z := Lib.hid (Z.out.call hb)
    replace N := Lib.hid (N.out.call hb)
    replace HR := Lib.hid (HR.out.call hb)
    replace WP := Lib.hid (WP.out.call hb)
    rw [hoP.out, hpv.out, hpb.out]
    clear hb hc hxm q1 q2 q3 q4
    have HPH : Hid (ph = if m = 2 then ((spl 32 (hv.getD 1 [])).drop 1).map bar else []) := Lib.hid (by rw [← hph.out, ← HM.out, ← hhv.out]; rfl)
    have hbl := below1 v5 (.cells #[] 9)
    replace S := Lib.hid (S.out.call hbl)
    replace Z := Lib.hid (Z.out.call hbl)
    replace N := Lib.hid (N.out.call hbl)
    replace HR := Lib.hid (HR.out.call hbl)
    replace WP := Lib.hid (WP.out.call hbl)
    clear hbl
    go_upto_region 12 with fail
    generalize (v5.alloc (.cells #[] 9)) = v6 at *
    generalize v5.heap.size = g9 at *
    go_upto_if 61 with fail
    go_cut [12] (fun u12 wx => ∃ (B : Option Addr) (bc : Nat), u12 = .slice B ph.length bc ∧ Hid (Lst w wx none 0) ∧ Hid (BT wx w.heap.size 24 [.int .i64 0, .int .i64 0, .int .i64 0, .slice none 0 0]) ∧ Hid (BT wx (w.heap.size + 1) 24 [.int .i64 0, .int .i64 0, .int .i64 0, .slice none 0 0]) ∧ Hid (OwP w.heap.size wx (some ⟨g, 0, none⟩) oc ps) ∧ Hid (OwP w.heap.size wx (some ⟨g1, 0, none⟩) qc qs) ∧ Hid (Cells wx B (StrK.row ph)))
    case first =>
      by_cases h2 : m = 2
      · have hmm := h2
        subst h2
        have hl1 : 1 < hv.length := by have := HM.out; omega
        obtain ⟨y1, hy1⟩ : ∃ x, Hid (hv.getD 1 [] = x) := ⟨_, Lib.hid rfl⟩
        have hx2 : hv[1] = y1 := by rw [← hy1.out, List.getD_eq_getElem?_getD, List.getElem?_eq_getElem hl1]; rfl
        have hxm : y1.length ≤ s.size := by rw [← hx2]; exact HZ.out _ (List.getElem_mem hl1)
        have HXM := Lib.hid hxm
        obtain ⟨g3, h3, hc⟩ := str_cell HR.out HP.out hl1
        obtain ⟨rfl, _⟩ : g = g3 ∧ True := ⟨by cases h3; rfl, trivial⟩
        rw [hx2] at hc
        have HE : Hid (ph = ((spl 32 y1).drop 1).map bar) := Lib.hid (by rw [HPH.out, if_pos rfl, hy1.out])
        clear hx2 hl1 h3 hxm hmm
        have hlo := S.out.sz
        go_wp2_with fail
        refine (l1SplitL_any 32 (bar y1) v6 (by rw [bar_size]; have := HXM.out; have := HS1.out; omega)).mono ?_
        rintro e v7 ⟨B, bc, bs, rfl, hps, own, hb⟩
        rw [bar_list] at hps
        replace S := Lib.hid (S.out.call hb)
        replace Z := Lib.hid (Z.out.call hb)
        replace N := Lib.hid (N.out.call hb)
        replace HR := Lib.hid (HR.out.call hb)
        replace WP := Lib.hid (WP.out.call hb)
        have hbl : 1 ≤ bs.length := by rw [hps, List.length_map]; exact spl_pos _ _
        have hcap : bs.length ≤ bc := own_cap own.1
        have HCE := Lib.hid (cells_drop1 (oc := bc) (Cells.of_own own.1) hcap)
        have HD : Hid (bs.drop 1 = ph) := Lib.hid (by rw [HE.out, hps, List.map_drop])
        rw [HD.out] at HCE
        have HDL : Hid (bs.length - 1 = ph.length) := Lib.hid (by rw [← HD.out, List.length_drop])
        have k1 : (1 : Int) ≤ (bs.length : Int) := by omega
        have k2 : (bs.length : Int) ≤ (bc : Int) := by omega
        clear own hb hlo hc hps
        have e9 := HDL.out
        by_cases hbc : bc = 1
        · subst hbc
          rw [if_pos rfl] at HCE
          go_wp2_with fail
          go_meet
          exact ⟨_, _, by first | rfl | rw [e9], S, Z, N, HR, WP, HCE⟩
        · rw [if_neg hbc] at HCE
          have hbc2 : ¬ 1 = bc := fun h => hbc h.symm
          go_wp2_with fail
          go_meet
          exact ⟨_, _, by first | rfl | rw [e9], S, Z, N, HR, WP, HCE⟩
      · have HE : Hid (ph = []) := Lib.hid (by rw [HPH.out, if_neg h2])
        have he := HE.out
        have k2 : ((m : Int) == 2) = false := by simp; omega
        subst he
        go_wp2_with fail
        go_meet
        exact ⟨_, 0, rfl, S, Z, N, HR, WP, Lib.hid Cells.nil_⟩
    case rest =>
      clear S Z N HR WP
      obtain ⟨W, rfl⟩ : ∃ W, W = wc := ⟨_, rfl⟩
      obtain ⟨B, bc, rfl, S, Z, N, HR, WP, CE⟩ := hcut
      clear HR WP
      have hphl : ph.length ≤ 200 ∧ ∀ x ∈ ph, x.size ≤ maxLen := by
        rw [HPH.out]
        split
        · have hl9 : (hv.getD 1 []).length ≤ s.size := by
            rw [List.getD_eq_getElem?_getD]
            cases hq : hv[1]? with
            | none => exact Nat.zero_le _
            | some x => exact HZ.out x (List.mem_of_getElem? hq)
          have h8 := spl_len 32 (hv.getD 1 []) []
          have h7 := HS1.out
          refine ⟨by rw [List.length_map, List.length_drop]; unfold spl; omega, fun x hx => ?_⟩
          obtain ⟨y, hy, rfl⟩ := List.mem_map.1 hx
          have h6 := spl_mem (List.mem_of_mem_drop hy)
          rw [bar_size]
          unfold maxLen
          omega
        · exact ⟨by simp, fun x hx => by simp at hx⟩
      have HPHL := Lib.hid hphl
      clear hphl
      obtain ⟨kd, hkd⟩ : ∃ y, Hid (kindI nv ph = y) := ⟨_, Lib.hid rfl⟩
      have hlo := S.out.sz
      go_wp2_with fail
      refine (l9Kind_any pv nv B bc ph W (by rw [← row_strs]; exact CE.out) (by have := HPHL.out.1; omega)).mono ?_
      intro e v8 hmade
      obtain ⟨C, cc, rfl, own, hb⟩ := made_own hmade (by show ph.length ≤ _; have := HPHL.out.1; omega) (by show ∀ s ∈ ph, _; exact HPHL.out.2)
      rw [show (Amd.mk (kindI nv ph) pv nv ph).k = kd from hkd.out, show (Amd.mk (kindI nv ph) pv nv ph).p = pv from rfl, show (Amd.mk (kindI nv ph) pv nv ph).n = nv from rfl, show (Amd.mk (kindI nv ph) pv nv ph).ws = ph from rfl]
      replace own := OwD.low (show OwD StrK 9 _ v8 C cc ph from own) hlo
      clear CE
      replace S := Lib.hid (S.out.call hb)
      replace Z := Lib.hid (Z.out.call hb)
      replace N := Lib.hid (N.out.call hb)
      have PW := Lib.hid own
      clear hb own hlo hmade
      have hqz := Z.out.lt
      have T := Lib.hid (BT.new v8 #[.int .i64 kd, .int .i64 pv, .int .i64 nv, .slice C ph.length cc] 24 v8.heap.size rfl)
      have hbl := below1 v8 (.cells #[.int .i64 kd, .int .i64 pv, .int .i64 nv, .slice C ph.length cc] 24)
      replace S := Lib.hid (S.out.call hbl)
      replace Z := Lib.hid (Z.out.call hbl)
      replace N := Lib.hid (N.out.call hbl)
      replace PW := Lib.hid (PW.out.call hbl)
      clear hbl
      go_upto_region 15 with fail
      generalize (v8.alloc (.cells #[.int .i64 kd, .int .i64 pv, .int .i64 nv, .slice C ph.length cc] 24)) = v9 at *
      generalize v8.heap.size = q at *
      rw [hxl.out, hoP.out, hoN.out] at HF
      have HMK : Hid (mkSA s.data.toList (nI oP) (nI oN) = ⟨kd, pv, nv, ph⟩) := Lib.hid (by unfold mkSA; rw [hph.out, hpv.out, hnv.out]; show Amd.mk (kindI nv ph) pv nv ph = _; rw [hkd.out])
      rcases Bool.eq_false_or_eq_true nb with hk1 | hk1
      · rcases Bool.eq_false_or_eq_true pb with hk2 | hk2
        · have HT : Hid (amS s.data.toList = if vldA ⟨kd, pv, nv, ph⟩ = true ∧ alL ⟨kd, pv, nv, ph⟩ = s.data.toList then some ⟨kd, pv, nv, ph⟩ else none) := Lib.hid (by rw [HF.out, finA_t (by rw [hpb.out, hnb.out, hk1, hk2]; rfl), HMK.out])
          subst hk1 hk2
          rcases Bool.eq_false_or_eq_true (vldA ⟨kd, pv, nv, ph⟩) with hv9 | hv9
          · have HV := Lib.hid hv9
            have e0 := T.out.box.1 0 _ rfl
            have e1 := T.out.box.1 1 _ rfl
            have e2 := T.out.box.1 2 _ rfl
            have e3 := T.out.box.1 3 _ rfl
            go_wp2_with fail
            refine (goodF C cc kd pv nv ph v9 (owd_ows PW.out)).mono ?_
            rintro e v10 ⟨rfl, hb⟩
            rw [hv9]
            replace S := Lib.hid (S.out.call hb)
            replace Z := Lib.hid (Z.out.call hb)
            replace N := Lib.hid (N.out.call hb)
            replace PW := Lib.hid (PW.out.call hb)
            replace T := Lib.hid (T.out.call hb)
            clear hb e0 e1 e2 e3
            have e0 := T.out.box.1 0 _ rfl
            have e1 := T.out.box.1 1 _ rfl
            have e2 := T.out.box.1 2 _ rfl
            have e3 := T.out.box.1 3 _ rfl
            go_wp2_with fail
            refine (slineF C cc kd pv nv ph v10 (owd_ows PW.out) HV.out).mono ?_
            rintro e v11 ⟨rfl, hb⟩
            replace S := Lib.hid (S.out.call hb)
            replace Z := Lib.hid (Z.out.call hb)
            replace N := Lib.hid (N.out.call hb)
            replace PW := Lib.hid (PW.out.call hb)
            replace T := Lib.hid (T.out.call hb)
            clear hb hv9 e0 e1 e2 e3
            obtain ⟨x, ex⟩ : ∃ x, Hid (aline ⟨kd, pv, nv, ph⟩ = x) := ⟨_, Lib.hid rfl⟩
            rw [ex.out]
            by_cases hx : x = s
            · have HE : Hid (amS s.data.toList = some ⟨kd, pv, nv, ph⟩) := Lib.hid (HT.out.trans (if_pos ⟨HV.out, by unfold alL; rw [ex.out, hx]⟩))
              subst hx
              go_wp2_with (first | (refine wpList_load_mid rfl 24 _ rfl q 0 rfl [.int .i64 kd, .int .i64 pv, .int .i64 nv, .slice C ph.length cc] _ T.out.rng Tryd.underlying24 rfl (by kernel_rfl) ?_) | ((refine wpList_store_mid rfl 24 _ _ rfl w.heap.size 0 #[.int .i64 kd, .int .i64 pv, .int .i64 nv, .slice C ph.length cc] rfl rfl Z.out.there (by kernel_rfl) (by simp [Value.oneCell']) ?_); have hsz := S.out.sz; replace S := Lib.hid (S.out.puts (q := w.heap.size) (by omega) 0 [.int .i64 kd, .int .i64 pv, .int .i64 nv, .slice C ph.length cc]); replace N := Lib.hid (N.out.putsfar w.heap.size (by omega) 0 [.int .i64 kd, .int .i64 pv, .int .i64 nv, .slice C ph.length cc]); replace PW := Lib.hid (PW.out.puts Z.out.ty (by decide) 0 [.int .i64 kd, .int .i64 pv, .int .i64 nv, .slice C ph.length cc]); replace T := Lib.hid (T.out.putsfar w.heap.size (by omega) 0 [.int .i64 kd, .int .i64 pv, .int .i64 nv, .slice C ph.length cc]); replace Z := Lib.hid (Z.out.puts [.int .i64 kd, .int .i64 pv, .int .i64 nv, .slice C ph.length cc] (by rfl)); have KS := Z.out.box; have k0 := KS.1 0 _ rfl; have k1 := KS.1 1 _ rfl; have k2 := KS.1 2 _ rfl; have k3 := KS.1 3 _ rfl; clear KS) | (refine bodyPost_ret (v := .tuple #[.agg #[.int .i64 kd, .int .i64 pv, .int .i64 nv, .slice C ph.length cc], .bool true]) (by (rw [results_cell_tmp Tryd.results9]; simp [go_sem, k0, k1, k2, k3])) rfl ?_; exact amTo_yes HE.out PW.out S.out.on))
            · have HE : Hid (amS s.data.toList = none) := Lib.hid (HT.out.trans (if_neg (fun h => hx (by have h9 := h.2; unfold alL at h9; rw [ex.out] at h9; exact ByteArray.ext (Array.ext' h9)))))
              have hne := same_no hx
              clear hx
              go_wp2_with (first | (refine wpList_load_mid rfl 24 _ rfl (w.heap.size + 1) 0 rfl [.int .i64 0, .int .i64 0, .int .i64 0, .slice none 0 0] _ N.out.rng Tryd.underlying24 rfl (by kernel_rfl) ?_) | ((refine wpList_store_mid rfl 24 _ _ rfl w.heap.size 0 #[.int .i64 0, .int .i64 0, .int .i64 0, .slice none 0 0] rfl rfl Z.out.there (by kernel_rfl) (by simp [Value.oneCell']) ?_); have hsz := S.out.sz; replace S := Lib.hid (S.out.puts (q := w.heap.size) (by omega) 0 [.int .i64 0, .int .i64 0, .int .i64 0, .slice none 0 0]); replace N := Lib.hid (N.out.putsfar w.heap.size (by omega) 0 [.int .i64 0, .int .i64 0, .int .i64 0, .slice none 0 0]); replace PW := Lib.hid (PW.out.puts Z.out.ty (by decide) 0 [.int .i64 0, .int .i64 0, .int .i64 0, .slice none 0 0]); replace T := Lib.hid (T.out.putsfar w.heap.size (by omega) 0 [.int .i64 0, .int .i64 0, .int .i64 0, .slice none 0 0]); replace Z := Lib.hid (Z.out.puts [.int .i64 0, .int .i64 0, .int .i64 0, .slice none 0 0] (by rfl)); have KS := Z.out.box; have k0 := KS.1 0 _ rfl; have k1 := KS.1 1 _ rfl; have k2 := KS.1 2 _ rfl; have k3 := KS.1 3 _ rfl; clear KS) | (refine bodyPost_ret (v := .tuple #[.agg #[.int .i64 0, .int .i64 0, .int .i64 0, .slice none 0 0], .bool false]) (by (rw [results_cell_tmp Tryd.results9]; simp [go_sem, k0, k1, k2, k3])) rfl ?_; exact amTo_no HE.out S.out.on))
          · have HE : Hid (amS s.data.toList = none) := Lib.hid (HT.out.trans (if_neg (fun h => by rw [hv9] at h; cases h.1)))
            have e0 := T.out.box.1 0 _ rfl
            have e1 := T.out.box.1 1 _ rfl
            have e2 := T.out.box.1 2 _ rfl
            have e3 := T.out.box.1 3 _ rfl
            go_wp2_with fail
            refine (goodF C cc kd pv nv ph v9 (owd_ows PW.out)).mono ?_
            rintro e v12 ⟨rfl, hb⟩
            rw [hv9]
            replace S := Lib.hid (S.out.call hb)
            replace Z := Lib.hid (Z.out.call hb)
            replace N := Lib.hid (N.out.call hb)
            replace PW := Lib.hid (PW.out.call hb)
            replace T := Lib.hid (T.out.call hb)
            clear hb e0 e1 e2 e3
            go_wp2_with (first | (refine wpList_load_mid rfl 24 _ rfl (w.heap.size + 1) 0 rfl [.int .i64 0, .int .i64 0, .int .i64 0, .slice none 0 0] _ N.out.rng Tryd.underlying24 rfl (by kernel_rfl) ?_) | ((refine wpList_store_mid rfl 24 _ _ rfl w.heap.size 0 #[.int .i64 0, .int .i64 0, .int .i64 0, .slice none 0 0] rfl rfl Z.out.there (by kernel_rfl) (by simp [Value.oneCell']) ?_); have hsz := S.out.sz; replace S := Lib.hid (S.out.puts (q := w.heap.size) (by omega) 0 [.int .i64 0, .int .i64 0, .int .i64 0, .slice none 0 0]); replace N := Lib.hid (N.out.putsfar w.heap.size (by omega) 0 [.int .i64 0, .int .i64 0, .int .i64 0, .slice none 0 0]); replace PW := Lib.hid (PW.out.puts Z.out.ty (by decide) 0 [.int .i64 0, .int .i64 0, .int .i64 0, .slice none 0 0]); replace T := Lib.hid (T.out.putsfar w.heap.size (by omega) 0 [.int .i64 0, .int .i64 0, .int .i64 0, .slice none 0 0]); replace Z := Lib.hid (Z.out.puts [.int .i64 0, .int .i64 0, .int .i64 0, .slice none 0 0] (by rfl)); have KS := Z.out.box; have k0 := KS.1 0 _ rfl; have k1 := KS.1 1 _ rfl; have k2 := KS.1 2 _ rfl; have k3 := KS.1 3 _ rfl; clear KS) | (refine bodyPost_ret (v := .tuple #[.agg #[.int .i64 0, .int .i64 0, .int .i64 0, .slice none 0 0], .bool false]) (by (rw [results_cell_tmp Tryd.results9]; simp [go_sem, k0, k1, k2, k3])) rfl ?_; exact amTo_no HE.out S.out.on))
        · have HE : Hid (amS s.data.toList = none) := Lib.hid (by rw [HF.out]; exact finA_b (by rw [hpb.out, hk2]; rfl))
          subst hk1 hk2
          go_wp2_with (first | (refine wpList_load_mid rfl 24 _ rfl (w.heap.size + 1) 0 rfl [.int .i64 0, .int .i64 0, .int .i64 0, .slice none 0 0] _ N.out.rng Tryd.underlying24 rfl (by kernel_rfl) ?_) | ((refine wpList_store_mid rfl 24 _ _ rfl w.heap.size 0 #[.int .i64 0, .int .i64 0, .int .i64 0, .slice none 0 0] rfl rfl Z.out.there (by kernel_rfl) (by simp [Value.oneCell']) ?_); have hsz := S.out.sz; replace S := Lib.hid (S.out.puts (q := w.heap.size) (by omega) 0 [.int .i64 0, .int .i64 0, .int .i64 0, .slice none 0 0]); replace N := Lib.hid (N.out.putsfar w.heap.size (by omega) 0 [.int .i64 0, .int .i64 0, .int .i64 0, .slice none 0 0]); replace PW := Lib.hid (PW.out.puts Z.out.ty (by decide) 0 [.int .i64 0, .int .i64 0, .int .i64 0, .slice none 0 0]); replace T := Lib.hid (T.out.putsfar w.heap.size (by omega) 0 [.int .i64 0, .int .i64 0, .int .i64 0, .slice none 0 0]); replace Z := Lib.hid (Z.out.puts [.int .i64 0, .int .i64 0, .int .i64 0, .slice none 0 0] (by rfl)); have KS := Z.out.box; have k0 := KS.1 0 _ rfl; have k1 := KS.1 1 _ rfl; have k2 := KS.1 2 _ rfl; have k3 := KS.1 3 _ rfl; clear KS) | (refine bodyPost_ret (v := .tuple #[.agg #[.int .i64 0, .int .i64 0, .int .i64 0, .slice none 0 0], .bool false]) (by (rw [results_cell_tmp Tryd.results9]; simp [go_sem, k0, k1, k2, k3])) rfl ?_; exact amTo_no HE.out S.out.on))
      · have HE : Hid (amS s.data.toList = none) := Lib.hid (by rw [HF.out]; exact finA_b (by rw [hnb.out, hk1]; simp))
        subst hk1
        go_wp2_with (first | (refine wpList_load_mid rfl 24 _ rfl (w.heap.size + 1) 0 rfl [.int .i64 0, .int .i64 0, .int .i64 0, .slice none 0 0] _ N.out.rng Tryd.underlying24 rfl (by kernel_rfl) ?_) | ((refine wpList_store_mid rfl 24 _ _ rfl w.heap.size 0 #[.int .i64 0, .int .i64 0, .int .i64 0, .slice none 0 0] rfl rfl Z.out.there (by kernel_rfl) (by simp [Value.oneCell']) ?_); have hsz := S.out.sz; replace S := Lib.hid (S.out.puts (q := w.heap.size) (by omega) 0 [.int .i64 0, .int .i64 0, .int .i64 0, .slice none 0 0]); replace N := Lib.hid (N.out.putsfar w.heap.size (by omega) 0 [.int .i64 0, .int .i64 0, .int .i64 0, .slice none 0 0]); replace PW := Lib.hid (PW.out.puts Z.out.ty (by decide) 0 [.int .i64 0, .int .i64 0, .int .i64 0, .slice none 0 0]); replace T := Lib.hid (T.out.putsfar w.heap.size (by omega) 0 [.int .i64 0, .int .i64 0, .int .i64 0, .slice none 0 0]); replace Z := Lib.hid (Z.out.puts [.int .i64 0, .int .i64 0, .int .i64 0, .slice none 0 0] (by rfl)); have KS := Z.out.box; have k0 := KS.1 0 _ rfl; have k1 := KS.1 1 _ rfl; have k2 := KS.1 2 _ rfl; have k3 := KS.1 3 _ rfl; clear KS) | (refine bodyPost_ret (v := .tuple #[.agg #[.int .i64 0, .int .i64 0, .int .i64 0, .slice none 0 0], .bool false]) (by (rw [results_cell_tmp Tryd.results9]; simp [go_sem, k0, k1, k2, k3])) rfl ?_; exact amTo_no HE.out S.out.on))
set_option maxHeartbeats 2000000 in
theorem sParseAmendment_any (s : ByteArray) (w : World) (hs : s.size ≤ 1048576) : Calls Tryd.prog 4 #[.string s] w (AmTo w (amR (amS s.data.toList)) (amB (amS s.data.toList))) := by
  obtain ⟨a, ha⟩ : ∃ a, Hid (amR (amS s.data.toList) = a) := ⟨_, Lib.hid rfl⟩
  obtain ⟨ok, hok⟩ : ∃ a, Hid (amB (amS s.data.toList) = a) := ⟨_, Lib.hid rfl⟩
  have HL : Hid (∀ v, Calls Tryd.prog 9 #[.string s] v (AmTo v a ok)) := Lib.hid (fun v => by (have h9 := l9Parse_any s v hs); rw [ha.out, hok.out] at h9; exact h9)
  rw [ha.out, hok.out]
  have hb1 := below1 w (.cells #[.int .i64 0, .int .i64 0, .int .i64 0, .slice none 0 0] 24)
  have S := Lib.hid ((lst0 w).call hb1)
  have Z := Lib.hid (BT.new w #[.int .i64 0, .int .i64 0, .int .i64 0, .slice none 0 0] 24 w.heap.size rfl)
  clear hb1
  go_enter Tryd.func4, Tryd.ntmps4
  go_upto_region 1 with fail
  generalize (w.alloc (.cells #[.int .i64 0, .int .i64 0, .int .i64 0, .slice none 0 0] 24)) = v1 at *
  have hlo := S.out.sz
  go_wp2_with fail
  refine (HL.out v1).mono ?_
  rintro e v2 ⟨A, c, rfl, own, hb⟩
  replace S := Lib.hid (S.out.call hb)
  replace Z := Lib.hid (Z.out.call hb)
  have PW := Lib.hid (show OwD StrK 9 w.heap.size v2 A c a.ws from Ow.mk (own_mono (by have h1 := own.1; rw [← row_strs] at h1; exact h1) hlo) own.2.2.1 own.2.2.2)
  clear own hb hlo
  obtain ⟨k, p, n, ws⟩ := a
  go_wp2_with (first | ((refine wpList_store_mid rfl 24 _ _ rfl w.heap.size 0 #[.int .i64 k, .int .i64 p, .int .i64 n, .slice A ws.length c] rfl rfl Z.out.there (by kernel_rfl) (by simp [Value.oneCell']) ?_); have hsz := S.out.sz; replace S := Lib.hid (S.out.puts (q := w.heap.size) (by omega) 0 [.int .i64 k, .int .i64 p, .int .i64 n, .slice A ws.length c]); replace PW := Lib.hid (PW.out.puts Z.out.ty (by decide) 0 [.int .i64 k, .int .i64 p, .int .i64 n, .slice A ws.length c]); replace Z := Lib.hid (Z.out.puts [.int .i64 k, .int .i64 p, .int .i64 n, .slice A ws.length c] (by rfl)); have KS := Z.out.box; have k0 := KS.1 0 _ rfl; have k1 := KS.1 1 _ rfl; have k2 := KS.1 2 _ rfl; have k3 := KS.1 3 _ rfl; clear KS) | (refine bodyPost_ret (v := .tuple #[.agg #[.int .i64 k, .int .i64 p, .int .i64 n, .slice A ws.length c], .bool ok]) (by (rw [results_cell_tmp Tryd.results4]; simp [go_sem, k0, k1, k2, k3])) rfl ?_; exact ⟨A, c, rfl, owd_ows PW.out, S.out.on⟩))
end Go.Proofs.YtnnphhhjkhoglaaDoor
