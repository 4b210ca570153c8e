/- HeaviestSet in the reference. Conditions: the ranges named. -/
import Derived.Test.YthohogimhijbdaaHv3
import Derived.Test.YthohogimhijbdaaTg4
namespace Go.Proofs.Ythohogimhijbdaa
open Go.RowKit
set_option linter.unusedVariables false
set_option linter.unusedSimpArgs false
set_option maxHeartbeats 4000000 in
set_option maxRecDepth 100000 in
theorem sHeaviestSet_any (T A : Option Addr) (t c : Nat) (ss : List ByteArray) (ps : List Prp) (w : World) (hT : Cells w T (strs ss)) (htc : ss.length ≤ t) (hfs : Fit ss) (hd : DL w A c ps) (hf : FitP ps) :
    Calls Try.prog 31 #[.slice T ss.length t, .slice A ps.length c] w fun e w' => ∃ (P : Option Addr) (pc : Nat), e = .returned (.tuple #[.slice P (heavR ss ps).1.length pc, .int .i64 (heavR ss ps).2, .bool (propB ss ps)]) ∧ Ow IntK 3 w.heap.size w'.heap.size w' P pc (heavR ss ps).1 ∧ Below w.heap.size w w' := by
  have HV := Lib.hid (l10Good_any T A t c ss ps w hT htc hfs hd hf)
  have HD := Lib.hid hd
  have HF := Lib.hid hf
  clear hT hd hf hfs
  go_enter Try.func31, Try.ntmps31
  go_wp2_with fail
  refine HV.out.mono ?_
  rintro e w1 ⟨rfl, hb⟩
  have HB := Lib.hid hb
  clear hb HV
  rcases Bool.eq_false_or_eq_true (propB ss ps) with hr | hr
  · have HR := Lib.hid (show heavR ss ps = heavK ps (2 ^ ps.length) by unfold heavR; rw [hr]; rfl)
    rw [hr]
    have HG := Lib.hid (Good8.of hr)
    have HWT := Lib.hid (weight_of hr)
    have h8 := HG.out.few
    have hpw := pow_wrap h8
    obtain ⟨N, hN⟩ : ∃ N, Hid (2 ^ ps.length = N) := ⟨_, Lib.hid rfl⟩
    have hN2 : N ≤ 256 := by rw [← hN.out]; exact Nat.pow_le_pow_right (n := 2) (by omega) h8
    rw [hN.out] at hpw
    have HZ := Lib.hid (own_nil_lit w1 w.heap.size w1.heap.size 3 1 rfl HB.out.size)
    have HZB := Lib.hid (HB.out.trans ((below1 w1 (.cells #[] 3)).mono HB.out.size))
    go_wp2_with fail
    generalize w1.alloc (.cells #[] 3) = W0 at *
    go_loopw [7, 8, 9] (fun u mo i wr => ∃ s : Nat, s ≤ N ∧ i = .int .i64 s ∧ ∃ (bs : List Int) (m : Int) (P : Option Addr) (pc : Nat), Hid (heavK ps s = (bs, m)) ∧ mo = .int .i64 m ∧ u = .slice P bs.length pc ∧ Hid (wr.ownsRow w.heap.size 3 1 (.slice P bs.length pc) bs.length (IntK.row bs)) ∧ Below w.heap.size w wr) (fun _ _ i _ => N - (intOf i).toNat)
    case atStart => exact ⟨0, Nat.zero_le _, rfl, [], 0, _, _, Lib.hid rfl, rfl, rfl, HZ, HZB.out⟩
    case round =>
      clear HZ HZB
      obtain ⟨w3, hw3⟩ : ∃ x : World, x = wr := ⟨_, rfl⟩
      subst hw3
      obtain ⟨s, hs, rfl, bs, mo, Pb, pbc, HBS, rfl, rfl, HPB, hB⟩ := hrel
      have HB3 := Lib.hid hB
      clear hB
      by_cases hlt : s < N
      · have i1 : (s : Int) < (N : Int) := by omega
        have HLB := Lib.hid (heavK_len ps s)
        have HSB := Lib.hid (heavK_sum HWT.out h8 s)
        rw [HBS.out] at HLB HSB
        have HO0 : Hid (PickR w ((w3.alloc (.cells #[] 55)).alloc (.cells #[] 3)) w3.heap.size (some ⟨w3.heap.size, 0, none⟩) 0 [] []) := Lib.hid ⟨rfl, own_keep (own_nil_lit w3 w3.heap.size w3.heap.size 55 6 rfl (Nat.le_refl _)) (below1 _ _), fun i h1 h2 => by simp at h1⟩
        have HI0 := Lib.hid (own_nil_lit (w3.alloc (.cells #[] 55)) w3.heap.size (w3.heap.size + 1) 3 1 (by simp) (by simp))
        have HBX0 := Lib.hid (below2 w3 (.cells #[] 55) (.cells #[] 3))
        go_wp2_with fail
        generalize (w3.alloc (.cells #[] 55)).alloc (.cells #[] 3) = W1 at *
        go_loopw [10, 11, 12, 13] (fun u v su i wr => ∃ k : Nat, k ≤ ps.length ∧ i = .int .i64 k ∧ ∃ (q : List Prp) (hs : List PrH) (O : Option Addr) (oc : Nat) (P : Option Addr) (pc : Nat), Hid (q = pickL ps s k) ∧ u = .slice O q.length oc ∧ v = .slice P q.length pc ∧ su = .int .i64 (sumT q) ∧ Hid (PickR w wr w3.heap.size O oc q hs) ∧ Hid (wr.ownsRow w3.heap.size 3 1 (.slice P q.length pc) q.length (IntK.row (idsL q))) ∧ Below w3.heap.size w3 wr) (fun _ _ _ i _ => ps.length - (intOf i).toNat)
        case atStart => exact ⟨0, Nat.zero_le _, rfl, [], [], _, _, _, _, Lib.hid rfl, rfl, rfl, rfl, HO0, HI0, HBX0.out⟩
        case round =>
          clear HO0 HI0 HBX0
          obtain ⟨w4, hw4⟩ : ∃ x : World, x = wr := ⟨_, rfl⟩
          subst hw4
          obtain ⟨k, hk, rfl, q, hs, O, oc, P, pc, HQ, rfl, rfl, rfl, HO, HI, hB⟩ := hrel
          have HB4 := Lib.hid hB
          clear hB
          by_cases hlk : k < ps.length
          · obtain ⟨a, B, d, rfl, ⟨hc0, hc1, hc2, hc3, hc4, hc5⟩, hle, hcw⟩ := HD.out.at_ hlk
            have HBW := Lib.hid (HB3.out.trans (HB4.out.mono HB3.out.size))
            have i2 : (k : Int) < (ps.length : Int) := by omega
            obtain ⟨p, hp⟩ : ∃ p, Hid (ps[k] = p) := ⟨_, Lib.hid rfl⟩
            have HPW := Lib.hid (HWT.out _ (List.getElem_mem hlk))
            rw [hp.out] at hc0 hc1 hc2 hc3 hc4 hc5 hle hcw HPW
            have HBR := Lib.hid (show Bears w ⟨p.i, p.a.k, p.a.p, p.a.n, B, p.a.ws.length, d, p.t⟩ p from ⟨⟨rfl, rfl, rfl, rfl, rfl, rfl⟩, hle, hcw⟩)
            have e0 := (HBW.out.cell (World.block_lt_of_cell? _ _ hc0)).trans hc0
            have e1 := (HBW.out.cell (World.block_lt_of_cell? _ _ hc1)).trans hc1
            have e2 := (HBW.out.cell (World.block_lt_of_cell? _ _ hc2)).trans hc2
            have e3 := (HBW.out.cell (World.block_lt_of_cell? _ _ hc3)).trans hc3
            have e4 := (HBW.out.cell (World.block_lt_of_cell? _ _ hc4)).trans hc4
            have e5 := (HBW.out.cell (World.block_lt_of_cell? _ _ hc5)).trans hc5
            have HPY := Lib.hid (fun h => pick_yes (s := s) hlk hp.out h)
            have HPN := Lib.hid (fun h => pick_no (ps := ps) (s := s) (k := k) h)
            have HKA := Lib.hid (fun (W : World) (hW : Below w4.heap.size w4 W) => (show W.cell? (a.add (k * 6)) = some (.int .i64 p.i) ∧ W.cell? ⟨(a.add (k * 6)).block, (a.add (k * 6)).off + 5, none⟩ = some (.int .i64 p.t) from ⟨(hW.cell (World.block_lt_of_cell? _ _ e0)).trans e0, (hW.cell (World.block_lt_of_cell? _ _ e5)).trans e5⟩))
            have HKB := Lib.hid (fun (W : World) (hW : Below w3.heap.size w3 W) => (show W.cell? (a.add (k * 6)) = some (.int .i64 p.i) ∧ W.cell? ⟨(a.add (k * 6)).block, (a.add (k * 6)).off + 5, none⟩ = some (.int .i64 p.t) from ⟨((HB3.out.trans (hW.mono HB3.out.size)).cell (World.block_lt_of_cell? _ _ hc0)).trans hc0, ((HB3.out.trans (hW.mono HB3.out.size)).cell (World.block_lt_of_cell? _ _ hc5)).trans hc5⟩))
            clear hc0 hc1 hc2 hc3 hc4 hc5 hle hcw
            have hbit := bit_eq s k (by omega)
            have hql : q.length ≤ 8 := by rw [HQ.out]; have := pick_len ps s k; omega
            have HSQ := sumT_range (ps := q) (fun x hx => HWT.out x (pick_mem hk (by rw [← HQ.out]; exact hx)))
            have hs0 := HSQ.1
            have hs1 : sumT q ≤ 800 := by have := HSQ.2; omega
            clear HSQ
            rcases Bool.eq_false_or_eq_true (bitB s k) with hb | hb
            · have HQY := Lib.hid (show q ++ [p] = pickL ps s (k + 1) by rw [HPY.out hb, ← HQ.out])
              rw [hb] at hbit
              obtain ⟨S, hS⟩ : ∃ S, Hid (sumT q = S) := ⟨_, Lib.hid rfl⟩
              rw [hS.out] at hs0 hs1 ⊢
              obtain ⟨hw1, hw2⟩ := HPW.out
              have HOW := HO
              clear hb HPY HPN HO
              go_upto_region 14 with fail
              go_upto_region 15 with (at_builtin; go_must (refine list_append_gr elPrp _ rfl _ _ rfl w3.heap.size O _ oc q.length 1 1 (PrHK.row hs) [.int .i64 p.i, .int .i64 p.a.k, .int .i64 p.a.p, .int .i64 p.a.n, .slice B p.a.ws.length d, .int .i64 p.t] rfl rfl rfl (own_keep HOW.out.2.1 (below1 w4 _)) (cells_arr _ #[.int .i64 p.i, .int .i64 p.a.k, .int .i64 p.a.p, .int .i64 p.a.n, .slice B p.a.ws.length d, .int .i64 p.t] _ _ rfl) (fun u hu => prh_one (xs := [⟨p.i, p.a.k, p.a.p, p.a.n, B, p.a.ws.length, d, p.t⟩]) u hu) (by have := HB4.out.size; simp; omega) (by omega) ?_); intro O2 oc2 w5 o2 b2' g2; have HO5 := Lib.hid o2; have HB6 := Lib.hid (HB4.out.trans (((below1 w4 _).mono HB4.out.size).trans b2')); have HI5 := Lib.hid ((own_keep HI.out (below1 w4 _)).kept g2 (own_two (own_keep HOW.out.2.1 (below1 w4 (.cells #[.int .i64 p.i, .int .i64 p.a.k, .int .i64 p.a.p, .int .i64 p.a.n, .slice B p.a.ws.length d, .int .i64 p.t] 55))) (own_keep HI.out (below1 w4 _)) (by decide))); clear o2 b2' g2 e0 e1 e2 e3 e4 e5)
              have n0 := (HKB.out w5 HB6.out).1
              go_upto_region 16 with (at_builtin; go_must (refine list_append_gr elInt _ rfl _ _ rfl w3.heap.size P _ pc q.length 1 1 (IntK.row (idsL q)) (IntK.row [p.i]) rfl rfl rfl (own_keep HI5.out (below1 w5 _)) (cells_arr _ #[.int .i64 p.i] _ _ rfl) int_one (by have := HB6.out.size; simp; omega) (by omega) ?_); intro P2 pc2 w6 o2 b2' g2; have HI6 := Lib.hid o2; have HB7 := Lib.hid (HB6.out.trans (((below1 w5 _).mono HB6.out.size).trans b2')); have HO6 := Lib.hid ((own_keep HO5.out (below1 w5 _)).kept g2 (own_two (own_keep HI5.out (below1 w5 (.cells #[.int .i64 p.i] 3))) (own_keep HO5.out (below1 w5 _)) (by decide))); clear o2 b2' g2 n0)
              have n5 := (HKB.out w6 HB7.out).2
              have HPR : Hid (PickR w w6 w3.heap.size O2 oc2 (q ++ [p]) (hs ++ [⟨p.i, p.a.k, p.a.p, p.a.n, B, p.a.ws.length, d, p.t⟩])) := by
                refine Lib.hid ⟨by rw [List.length_append, List.length_append, HOW.out.1]; rfl, ?_, fun i h1 h2 => ?_⟩
                · rw [List.length_append, PrHK.row_append]
                  exact HO6.out
                · rcases Nat.lt_or_ge i hs.length with h3 | h3
                  · rw [List.getElem_append_left h3, List.getElem_append_left (by rw [← HOW.out.1]; exact h3)]
                    exact HOW.out.2.2 i h3 (by rw [← HOW.out.1]; exact h3)
                  · have h4 : i = hs.length := by simp at h1; omega
                    subst h4
                    rw [List.getElem_append_right (Nat.le_refl _), List.getElem_append_right (by rw [HOW.out.1]; exact Nat.le_refl _)]
                    simpa using HBR.out
              have HII : Hid (w6.ownsRow w3.heap.size 3 1 (.slice P2 (q ++ [p]).length pc2) (q ++ [p]).length (IntK.row (idsL (q ++ [p])))) := Lib.hid (by rw [List.length_append, idsL_snoc, IntK.row_append]; exact HI6.out)
              go_wp2
              go_roundw
              case rel => exact ⟨k + 1, hlk, by go_num, q ++ [p], _, O2, oc2, P2, pc2, HQY, by rw [List.length_append]; rfl, by rw [List.length_append]; rfl, by rw [sumT_snoc, hS.out], HPR, HII, HB7.out⟩
              case measure => simp [intOf]; omega
            · have HQN := Lib.hid (show q = pickL ps s (k + 1) by rw [HPN.out hb, ← HQ.out])
              rw [hb] at hbit
              clear hb HPY HPN
              go_wp2
              go_roundw
              case rel => exact ⟨k + 1, hlk, by go_num, q, hs, O, oc, P, pc, HQN, rfl, rfl, rfl, HO, HI, HB4.out⟩
              case measure => simp [intOf]; omega
          · obtain rfl : k = ps.length := by omega
            have HGQ := Lib.hid (show Good8 q by rw [HQ.out]; exact HG.out.pick (Nat.le_refl _))
            have HFQ := Lib.hid (show FitP q by rw [HQ.out]; exact HF.out.pick HG.out (Nat.le_refl _))
            have hql := HGQ.out.few
            have HBW := Lib.hid (HB3.out.trans (HB4.out.mono HB3.out.size))
            have HDQ := Lib.hid (show DL w4 O oc q from ⟨own_cap HO.out.2.1, hs, HO.out.1, Cells.of_own HO.out.2.1, fun i h1 h2 => (HO.out.2.2 i h1 h2).below (HBW.out.mono (Nat.le_refl _))⟩)
            have HPB4 := Lib.hid (own_under HPB.out (Under.own HPB.out) HB4.out (Nat.le_refl _))
            clear HO
            have HSQ := sumT_range (ps := q) (fun x hx => HWT.out x (pick_mem (Nat.le_refl _) (by rw [← HQ.out]; exact hx)))
            have hs0 := HSQ.1
            have hs1 : sumT q ≤ 800 := by have := HSQ.2; omega
            clear HSQ
            have HST := Lib.hid (show heavK ps (s + 1) = stepH ps (bs, mo) s by rw [heavK, HBS.out])
            have HBE := Lib.hid (beats_eq (idsL q) bs (sumT q) mo)
            rw [idsL_len] at HBE
            have hblen : bs.length ≤ 8 := Nat.le_trans HLB.out h8
            go_upto_region 17 with fail
            go_wp2_with fail
            refine (l10Free_any O oc q w4 HDQ.out (by omega) (fun k hk => ⟨Small.of (HGQ.out.vld _ (List.getElem_mem hk)), (HFQ.out.2.1 _ (List.getElem_mem hk)).1⟩)).mono ?_
            rintro e w5 ⟨rfl, hb5⟩
            have HI5 := Lib.hid (own_keep HI.out hb5)
            have HPB5 := Lib.hid (own_keep HPB4.out hb5)
            have HI7 := Lib.hid (own_mono HI5.out HB3.out.size)
            have HB5 := Lib.hid (HBW.out.trans (hb5.mono HBW.out.size))
            have HLS := Lib.hid (l10Less_any P Pb q.length pc bs.length pbc (idsL q) bs w5 (idsL_len q).symm rfl (Cells.of_own HI5.out) (Cells.of_own HPB5.out) (by rw [idsL_len]; omega) (by omega))
            clear hb5 HI HPB4 HGQ HFQ HDQ HBW HB4
            rcases Bool.eq_false_or_eq_true (noneB q q.length) with hn | hn
            · rw [hn]
              have HSY := Lib.hid (fun hb => show heavK ps (s + 1) = (idsL q, sumT q) by rw [HST.out, stepH_yes (by rw [← HQ.out]; exact hn) (by rw [← HQ.out]; exact hb), ← HQ.out])
              have HSN := Lib.hid (fun hb => show heavK ps (s + 1) = (bs, mo) by rw [HST.out, stepH_less (by rw [← HQ.out]; exact hb)])
              obtain ⟨S, hS⟩ : ∃ S, Hid (sumT q = S) := ⟨_, Lib.hid rfl⟩
              obtain ⟨lx, hlx⟩ : ∃ b, Hid (lexB (idsL q) bs = b) := ⟨_, Lib.hid rfl⟩
              rw [hS.out] at hs0 hs1 HBE HSY ⊢
              rw [hlx.out] at HBE HLS
              rcases Int.lt_trichotomy S mo with h1 | h1 | h1
              · have HX := Lib.hid (HSN.out (by rw [hS.out]; exact HBE.out.trans (by simp [h1])))
                go_wp2
                go_roundw
                case rel => exact ⟨s + 1, hlt, by go_num, bs, mo, Pb, pbc, HX, rfl, rfl, HPB5, HB5.out⟩
                case measure => simp [intOf]; omega
              · have h2 : ¬ S < mo := by omega
                have h3 : ¬ mo < S := by omega
                have h4 : (S == mo) = true := by simp [h1]
                rcases Int.lt_trichotomy (q.length : Int) (bs.length : Int) with h5 | h5 | h5
                · have h6 : ¬ (bs.length : Int) < (q.length : Int) := by omega
                  have HX := Lib.hid (HSY.out (HBE.out.trans (by simp only [h2, h3, h4, h5, h6]; simp)))
                  clear h1
                  go_wp2
                  go_roundw
                  case rel => exact ⟨s + 1, hlt, by go_num, idsL q, S, P, pc, HX, rfl, by rw [idsL_len], by rw [idsL_len]; exact HI7, HB5.out⟩
                  case measure => simp [intOf]; omega
                · have h6 : ¬ (bs.length : Int) < (q.length : Int) := by omega
                  have h7 : ¬ (q.length : Int) < (bs.length : Int) := by omega
                  cases lx with
                  | true =>
                    have HX := Lib.hid (HSY.out (HBE.out.trans (by simp only [h2, h3, h4, h6, h7]; simp)))
                    clear h1 h5
                    go_wp2_with (go_at_call 49; refine HLS.out.mono ?_; rintro e w6 ⟨rfl, hb6⟩; have HI8 := Lib.hid (own_keep HI7.out hb6); have HB8 := Lib.hid (HB5.out.trans (hb6.mono HB5.out.size)); clear hb6)
                    go_roundw
                    case rel => exact ⟨s + 1, hlt, by go_num, idsL q, S, P, pc, HX, rfl, by rw [idsL_len], by rw [idsL_len]; exact HI8, HB8.out⟩
                    case measure => simp [intOf]; omega
                  | false =>
                    have HX := Lib.hid (HSN.out (by rw [hS.out]; exact HBE.out.trans (by simp only [h2, h3, h4, h6, h7]; simp)))
                    clear h1 h5
                    go_wp2_with (go_at_call 49; refine HLS.out.mono ?_; rintro e w6 ⟨rfl, hb6⟩; have HI8 := Lib.hid (own_keep HPB5.out hb6); have HB8 := Lib.hid (HB5.out.trans (hb6.mono HB5.out.size)); clear hb6)
                    go_roundw
                    case rel => exact ⟨s + 1, hlt, by go_num, bs, mo, Pb, pbc, HX, rfl, rfl, HI8, HB8.out⟩
                    case measure => simp [intOf]; omega
                · have h6 : ¬ (q.length : Int) < (bs.length : Int) := by omega
                  have HX := Lib.hid (HSN.out (by rw [hS.out]; exact HBE.out.trans (by simp only [h2, h3, h4, h5, h6]; simp)))
                  clear h1
                  go_wp2
                  go_roundw
                  case rel => exact ⟨s + 1, hlt, by go_num, bs, mo, Pb, pbc, HX, rfl, rfl, HPB5, HB5.out⟩
                  case measure => simp [intOf]; omega
              · have h2 : ¬ S < mo := by omega
                have h4 : (S == mo) = false := by simp; omega
                have HX := Lib.hid (HSY.out (HBE.out.trans (by simp [h1, h2, h4])))
                go_wp2
                go_roundw
                case rel => exact ⟨s + 1, hlt, by go_num, idsL q, S, P, pc, HX, rfl, by rw [idsL_len], by rw [idsL_len]; exact HI7, HB5.out⟩
                case measure => simp [intOf]; omega
            · have HSX := Lib.hid (show heavK ps (s + 1) = (bs, mo) by rw [HST.out]; exact stepH_no (by rw [← HQ.out]; exact hn))
              rw [hn]
              go_wp2
              go_roundw
              case rel => exact ⟨s + 1, hlt, by go_num, bs, mo, Pb, pbc, HSX, rfl, rfl, HPB5, HB5.out⟩
              case measure => simp [intOf]; omega
      · obtain rfl : s = N := by omega
        have HLB := Lib.hid (heavK_len ps s)
        rw [HBS.out] at HLB
        have HFIN := Lib.hid (show heavR ss ps = (bs, mo) by rw [HR.out, hN.out, HBS.out])
        go_wp2
        go_ret3
        exact ⟨Pb, pbc, by rw [HFIN.out]; rfl, by rw [HFIN.out]; exact Ow.mk HPB.out (show bs.length ≤ 1048576 by have := HLB.out; omega) (fun _ _ => trivial), HB3.out⟩
  · have HR := Lib.hid (show heavR ss ps = ([], 0) by unfold heavR; rw [hr]; rfl)
    have HZ := Lib.hid (own_nil_lit w1 w.heap.size w1.heap.size 3 1 rfl HB.out.size)
    have HBZ := Lib.hid (HB.out.trans ((below1 w1 (.cells #[] 3)).mono HB.out.size))
    rw [hr]
    go_wp2
    go_ret3
    exact ⟨_, 0, by rw [HR.out, hr]; rfl, by rw [HR.out]; exact Ow.mk (xs := []) HZ.out (by simp) (fun _ h => by simp at h), HBZ.out⟩
end Go.Proofs.Ythohogimhijbdaa
