/- The draws of a text with proposals, and of a primary and a secondary amendment. Conditions: the ranges named. -/
import Derived.Test.YtgchbimjgdoifaaMCo1
import Derived.Test.YtgchbimjgdoifaaHv1
import Derived.Test.YtgchbimjgdoifaaInts
import Derived.Deep.DrawnRows
import Derived.Test.YtgchbimjgdoifaaFp2
import Derived.Test.YtgchbimjgdoifaaAgr
import Derived.Test.YtgchbimjgdoifaaTg4
namespace Go.Proofs.Ytgchbimjgdoifaa
open Go.RowKit
set_option linter.unusedVariables false
set_option linter.unusedSimpArgs false
attribute [local go_sem ↓] Go.wp_at_zero Go.wp_at_succ
theorem isNaN_any (x : Int) (w : World) : Calls Try.prog 123 #[.int .i64 x] w fun e w' => e = .returned (.bool false) ∧ w = w' := by
  have h : (x != x) = false := by simp
  go_enter Try.func123, Try.ntmps123
  go_wp2
  go_ret
  exact ⟨by first | rfl | simp, rfl⟩
theorem compare_any (x y : Int) (w : World) : Calls Try.prog 101 #[.int .i64 x, .int .i64 y] w fun e w' => e = .returned (.int .i64 (cmpI x y)) ∧ w = w' := by
  by_cases h1 : x < y
  · have HR := Lib.hid (show cmpI x y = -1 by unfold cmpI; rw [if_pos h1])
    go_enter Try.func101, Try.ntmps101
    go_wp2_with (go_at_call 123; refine (isNaN_any _ _).mono ?_; rintro e w9 ⟨rfl, rfl⟩)
    go_ret
    exact ⟨ret_int HR.out.symm, rfl⟩
  · by_cases h2 : y < x
    · have HR := Lib.hid (show cmpI x y = 1 by unfold cmpI; rw [if_neg h1, if_pos h2])
      go_enter Try.func101, Try.ntmps101
      go_wp2_with (go_at_call 123; refine (isNaN_any _ _).mono ?_; rintro e w9 ⟨rfl, rfl⟩)
      go_ret
      exact ⟨ret_int HR.out.symm, rfl⟩
    · have HR := Lib.hid (show cmpI x y = 0 by unfold cmpI; rw [if_neg h1, if_neg h2])
      go_enter Try.func101, Try.ntmps101
      go_wp2_with (go_at_call 123; refine (isNaN_any _ _).mono ?_; rintro e w9 ⟨rfl, rfl⟩)
      go_ret
      exact ⟨ret_int HR.out.symm, rfl⟩
def orL : List Int → Int
  | [] => 0
  | x :: xs => if x ≠ 0 then x else orL xs
theorem orL_three (a b c : Int) : orL [a, b, c] = orI a b c := by
  unfold orI
  simp only [orL]
  split
  · rfl
  · split
    · rfl
    · split <;> omega
theorem orL_hit {xs : List Int} {k : Nat} (h : k < xs.length) (hn : xs[k] ≠ 0) : orL (xs.drop k) = xs[k] := by rw [List.drop_eq_getElem_cons h, orL, if_pos hn]
theorem orL_miss {xs : List Int} {k : Nat} (h : k < xs.length) (hn : xs[k] = 0) : orL (xs.drop k) = orL (xs.drop (k + 1)) := by rw [List.drop_eq_getElem_cons h, orL, if_neg (by simp [hn])]
set_option maxHeartbeats 1000000 in
theorem or_any (A : Option Addr) (n c : Nat) (xs : List Int) (w : World) (hn : n = xs.length) (ha : Cells w A (IntK.row xs)) (hm : xs.length ≤ 1048576) :
    Calls Try.prog 100 #[.slice A n c] w fun e w' => e = .returned (.int .i64 (orL xs)) ∧ w = w' := by
  subst hn
  go_enter Try.func100, Try.ntmps100
  go_wp2
  go_loopw [8] (fun i wr => ∃ k : Nat, k ≤ xs.length ∧ i = .int .i64 k ∧ Hid (orL xs = orL (xs.drop k)) ∧ w = wr) (fun i _ => xs.length - (intOf i).toNat)
  case atStart => exact ⟨0, Nat.zero_le _, rfl, rfl, rfl⟩
  case round =>
    obtain ⟨k, hk, rfl, hq, rfl⟩ := hrel
    by_cases hlt : k < xs.length
    · obtain ⟨a, rfl, hc0⟩ := int_at ha hlt
      have i1 : (k : Int) < (xs.length : Int) := by omega
      have HY := Lib.hid (fun h => orL_hit hlt h)
      have HN := Lib.hid (fun h => orL_miss hlt h)
      obtain ⟨x, hx⟩ : ∃ x, Hid (xs[k] = x) := ⟨_, Lib.hid rfl⟩
      rw [hx.out] at hc0 HY HN
      by_cases h0 : x = 0
      · have HA := Lib.hid (hq.out.trans (HN.out h0))
        subst h0
        clear HY HN hq
        go_wp2
        go_roundw
        case rel => exact ⟨k + 1, hlt, by go_num, HA.out, by first | rfl | trivial⟩
        case measure => simp [intOf]; omega
      · have HA := Lib.hid (hq.out.trans (HY.out h0))
        have h1 : (x != 0) = true := by simpa using h0
        clear HY HN hq h0
        go_wp2
        go_ret
        exact ⟨ret_int HA.out.symm, rfl⟩
    · obtain rfl : k = xs.length := by omega
      have HA := Lib.hid (show orL xs = 0 by rw [hq.out]; simp [orL])
      go_wp2
      go_ret
      exact ⟨ret_int HA.out.symm, rfl⟩
theorem cmpL_step {xs ys : List Int} {k : Nat} (h : k < xs.length) (h2 : k < ys.length) : cmpL (xs.drop k) (ys.drop k) = if cmpI xs[k] ys[k] = 0 then cmpL (xs.drop (k + 1)) (ys.drop (k + 1)) else cmpI xs[k] ys[k] := by
  rw [List.drop_eq_getElem_cons h, List.drop_eq_getElem_cons h2, cmpL]
theorem cmpL_long {xs ys : List Int} {k : Nat} (h : k < xs.length) (h2 : ys.length ≤ k) : cmpL (xs.drop k) (ys.drop k) = 1 := by
  rw [List.drop_eq_getElem_cons h, List.drop_of_length_le h2, cmpL]
theorem cmpL_short {xs ys : List Int} (h : xs.length < ys.length) : cmpL (xs.drop xs.length) (ys.drop xs.length) = -1 := by
  rw [List.drop_length, List.drop_eq_getElem_cons h, cmpL]
theorem cmpL_end {xs ys : List Int} (h : ys.length ≤ xs.length) : cmpL (xs.drop xs.length) (ys.drop xs.length) = 0 := by
  rw [List.drop_length, List.drop_of_length_le h, cmpL]
set_option maxHeartbeats 1000000 in
theorem compareL_any (A B : Option Addr) (n c m d : Nat) (xs ys : List Int) (w : World) (hn : n = xs.length) (hm : m = ys.length) (ha : Cells w A (IntK.row xs)) (hb : Cells w B (IntK.row ys)) (hx : xs.length ≤ 1048576) (hy : ys.length ≤ 1048576) :
    Calls Try.prog 102 #[.slice A n c, .slice B m d] w fun e w' => e = .returned (.int .i64 (cmpL xs ys)) ∧ w = w' := by
  subst hn hm
  go_enter Try.func102, Try.ntmps102
  go_wp2
  go_loopw [11] (fun i wr => ∃ k : Nat, k ≤ xs.length ∧ i = .int .i64 k ∧ Hid (cmpL xs ys = cmpL (xs.drop k) (ys.drop k)) ∧ w = wr) (fun i _ => xs.length - (intOf i).toNat)
  case atStart => exact ⟨0, Nat.zero_le _, rfl, rfl, rfl⟩
  case round =>
    obtain ⟨k, hk, rfl, hq, rfl⟩ := hrel
    by_cases hlt : k < xs.length
    · obtain ⟨a, rfl, hc0⟩ := int_at ha hlt
      have i1 : (k : Int) < (xs.length : Int) := by omega
      by_cases hlt2 : k < ys.length
      · obtain ⟨b, rfl, hd0⟩ := int_at hb hlt2
        have i2 : (k : Int) < (ys.length : Int) := by omega
        have HS := Lib.hid (cmpL_step hlt hlt2)
        obtain ⟨x, hx⟩ : ∃ x, Hid (xs[k] = x) := ⟨_, Lib.hid rfl⟩
        obtain ⟨y, hy⟩ : ∃ x, Hid (ys[k] = x) := ⟨_, Lib.hid rfl⟩
        rw [hx.out] at hc0 HS
        rw [hy.out] at hd0 HS
        have HC := Lib.hid (fun W => compare_any x y W)
        generalize cmpI x y = M at *
        by_cases h0 : M = 0
        · have HA := Lib.hid (hq.out.trans (HS.out.trans (if_pos h0)))
          subst h0
          clear HS hq
          go_wp2_with (go_at_call 101; refine (HC.out _).mono ?_; rintro e w9 ⟨rfl, rfl⟩)
          go_roundw
          case rel => exact ⟨k + 1, hlt, by go_num, HA.out, by first | rfl | trivial⟩
          case measure => simp [intOf]; omega
        · have HA := Lib.hid (hq.out.trans (HS.out.trans (if_neg h0)))
          have h1 : (M != 0) = true := by simpa using h0
          clear HS hq h0
          go_wp2_with (go_at_call 101; refine (HC.out _).mono ?_; rintro e w9 ⟨rfl, rfl⟩)
          go_ret
          exact ⟨ret_int HA.out.symm, rfl⟩
      · have i2 : (ys.length : Int) ≤ (k : Int) := by omega
        have HA := Lib.hid (hq.out.trans (cmpL_long hlt (by omega)))
        clear hq
        go_wp2
        go_ret
        exact ⟨ret_int HA.out.symm, rfl⟩
    · obtain rfl : k = xs.length := by omega
      by_cases hl : xs.length < ys.length
      · have i3 : (xs.length : Int) < (ys.length : Int) := by omega
        have HA := Lib.hid (hq.out.trans (cmpL_short hl))
        clear hq
        go_wp2
        go_ret
        exact ⟨ret_int HA.out.symm, rfl⟩
      · have i3 : ¬ (xs.length : Int) < (ys.length : Int) := by omega
        have HA := Lib.hid (hq.out.trans (cmpL_end (by omega)))
        clear hq
        go_wp2
        go_ret
        exact ⟨ret_int HA.out.symm, rfl⟩
theorem lexB_step {xs ys : List Int} {k : Nat} (h : k < xs.length) (h2 : k < ys.length) : lexB (xs.drop k) (ys.drop k) = if xs[k] = ys[k] then lexB (xs.drop (k + 1)) (ys.drop (k + 1)) else decide (xs[k] < ys[k]) := by
  rw [List.drop_eq_getElem_cons h, List.drop_eq_getElem_cons h2, lexB]
theorem lexB_end {xs ys : List Int} {k : Nat} (h1 : k ≤ xs.length) (h2 : k ≤ ys.length) (h : ¬ (k < xs.length ∧ k < ys.length)) : lexB (xs.drop k) (ys.drop k) = decide (xs.length < ys.length) := by
  rcases Nat.lt_or_ge k xs.length with h3 | h3
  · have h4 : ys.length ≤ k := by omega
    rw [List.drop_eq_getElem_cons h3, List.drop_of_length_le h4, lexB]
    symm; rw [decide_eq_false_iff_not]; omega
  · rw [List.drop_of_length_le h3]
    rcases Nat.lt_or_ge k ys.length with h4 | h4
    · rw [List.drop_eq_getElem_cons h4, lexB]
      symm; rw [decide_eq_true_eq]; omega
    · rw [List.drop_of_length_le h4, lexB]
      symm; rw [decide_eq_false_iff_not]; omega
set_option maxHeartbeats 1000000 in
theorem l10Less_any (A B : Option Addr) (n c m d : Nat) (xs ys : List Int) (w : World) (hn : n = xs.length) (hm : m = ys.length) (ha : Cells w A (IntK.row xs)) (hb : Cells w B (IntK.row ys)) (hx : xs.length ≤ 1048576) (hy : ys.length ≤ 1048576) :
    Calls Try.prog 103 #[.slice A n c, .slice B m d] w fun e w' => e = .returned (.bool (lexB xs ys)) ∧ Below w.heap.size w w' := by
  subst hn hm
  go_enter Try.func103, Try.ntmps103
  go_wp2
  go_loopw [5] (fun i wr => ∃ k : Nat, k ≤ xs.length ∧ k ≤ ys.length ∧ i = .int .i64 k ∧ Hid (lexB xs ys = lexB (xs.drop k) (ys.drop k)) ∧ ∃ r, wr = w.drewN r) (fun i _ => xs.length - (intOf i).toNat)
  case atStart => exact ⟨0, Nat.zero_le _, Nat.zero_le _, rfl, rfl, 0, rfl⟩
  case round =>
    obtain ⟨k, hk, hk2, rfl, hq, r, rfl⟩ := hrel
    by_cases hlt : k < xs.length
    · have i1 : (k : Int) < (xs.length : Int) := by omega
      by_cases hlt2 : k < ys.length
      · obtain ⟨a, rfl, hc0⟩ := int_at ha hlt
        obtain ⟨b, rfl, hd0⟩ := int_at hb hlt2
        have i2 : (k : Int) < (ys.length : Int) := by omega
        have HS := Lib.hid (lexB_step hlt hlt2)
        obtain ⟨x, hx⟩ : ∃ x, Hid (xs[k] = x) := ⟨_, Lib.hid rfl⟩
        obtain ⟨y, hy⟩ : ∃ x, Hid (ys[k] = x) := ⟨_, Lib.hid rfl⟩
        rw [hx.out] at hc0 HS
        rw [hy.out] at hd0 HS
        by_cases h0 : x = y
        · have HA := Lib.hid (hq.out.trans (HS.out.trans (if_pos h0)))
          subst h0
          have hne : (x != x) = false := by simp
          clear HS hq
          go_wp2
          go_quiet (fail)
          go_wp2
          go_roundw
          case rel => exact ⟨k + 1, hlt, hlt2, by go_num, HA.out, by first | exact ⟨_, rfl⟩ | exact ⟨_, World.drewN_drewN _ _ _⟩ | exact drew_ex⟩
          case measure => simp [intOf]; omega
        · have HA := Lib.hid (hq.out.trans (HS.out.trans (if_neg h0)))
          have h1 : (x != y) = true := by simpa using h0
          clear HS hq h0
          go_wp2
          go_quiet (fail)
          go_wp2
          go_quiet (fail)
          go_wp2
          go_ret
          exact ⟨ret_bool HA.out.symm, by (repeat (first | exact Below.refl _ _ | refine below_drewN ?_ _))⟩
      · have i2 : ¬ (k : Int) < (ys.length : Int) := by omega
        have HA := Lib.hid (hq.out.trans (lexB_end hk hk2 (by omega)))
        clear hq
        go_wp2
        go_ret
        exact ⟨ret_bool HA.out.symm, by (repeat (first | exact Below.refl _ _ | refine below_drewN ?_ _))⟩
    · have i1 : ¬ (k : Int) < (xs.length : Int) := by omega
      have HA := Lib.hid (hq.out.trans (lexB_end hk hk2 (by omega)))
      clear hq
      go_wp2
      go_ret
      exact ⟨ret_bool HA.out.symm, by (repeat (first | exact Below.refl _ _ | refine below_drewN ?_ _))⟩
end Go.Proofs.Ytgchbimjgdoifaa
namespace Go.Proofs.Ytgchbimjgdoifaa
open Go.RowKit
set_option linter.unusedVariables false
set_option linter.unusedSimpArgs false
theorem infoPrp : (Try.prog.info? 65).map (fun i => (i.zero, i.size, i.bytes)) = some (some (.agg #[.int .i64 0, .int .i64 0, .int .i64 0, .int .i64 0, .slice none 0 0, .int .i64 0]), 6, 64) := by kernel_rfl
theorem elPrp : ElT Try.prog 59 65 6 64 := ElT.mk' Try.underlying59 infoPrp rfl (by omega) (by omega)
theorem prh_one {xs : List PrH} : ∀ u ∈ PrHK.row xs, u.oneCell' = true := fun u hu => by
  obtain ⟨x, _, hx⟩ := List.mem_flatMap.1 hu
  have hx' : u ∈ [Value.int .i64 x.i, .int .i64 x.k, .int .i64 x.p, .int .i64 x.n, .slice x.B x.l x.d, .int .i64 x.t] := hx
  simp at hx'
  rcases hx' with rfl | rfl | rfl | rfl | rfl | rfl <;> rfl
/-- The headers of those that were picked. -/
def PickR (w wr : World) (b : Nat) (O : Option Addr) (oc : Nat) (q : List Prp) (hs : List PrH) : Prop := hs.length = q.length ∧ wr.ownsRow b 65 6 (.slice O q.length oc) q.length (PrHK.row hs) ∧ ∀ i (h1 : i < hs.length) (h2 : i < q.length), Bears w hs[i] q[i]
theorem pow_wrap {n : Nat} (h : n ≤ 8) : wrap64 ((2 : Int) ^ n) = ((2 ^ n : Nat) : Int) := by
  have h1 : (2 : Nat) ^ n ≤ 256 := Nat.pow_le_pow_right (n := 2) (by omega) h
  have h2 : (2 : Int) ^ n = ((2 ^ n : Nat) : Int) := by push_cast; rfl
  rw [h2]
  generalize (2 : Nat) ^ n = M at *
  unfold wrap64
  omega
theorem and1_i64 (n : Nat) (h : n ≤ 1000) : bits BinOp.and IntKind.i64 (n : Int) 1 = ((n % 2 : Nat) : Int) := by
  have h1 : (BitVec.ofInt 64 (n : Int)).toNat = n := by
    rw [BitVec.ofInt_natCast, BitVec.toNat_ofNat]; exact Nat.mod_eq_of_lt (by omega)
  have h2 : (BitVec.ofInt 64 (1 : Int)).toNat = 1 := by decide
  show IntKind.i64.wrap ((BitVec.ofInt 64 (n : Int) &&& BitVec.ofInt 64 (1 : Int)).toNat : Int) = _
  rw [BitVec.toNat_and, h1, h2, Nat.and_one_is_mod, IntKind.wrap_i64]
  omega
theorem bit_eq (s k : Nat) (h : s ≤ 1000) : (bits BinOp.and IntKind.i64 ((s : Int) / 2 ^ k) 1 == 1) = bitB s k := by
  have h1 : ((s : Int) / 2 ^ k) = ((s / 2 ^ k : Nat) : Int) := by push_cast; rfl
  have h2 : s / 2 ^ k ≤ 1000 := Nat.le_trans (Nat.div_le_self _ _) h
  rw [h1, and1_i64 _ h2]
  unfold bitB
  generalize s / 2 ^ k % 2 = m
  rw [Bool.eq_iff_iff]
  simp only [beq_iff_eq]
  omega
set_option maxHeartbeats 4000000 in
set_option maxRecDepth 100000 in
theorem HeaviestSet_any (T A : Option Addr) (t c : Nat) (ss : List ByteArray) (ps : List Prp) (w : World) (hT : Cells w T (strs ss)) (htc : ss.length ≤ t) (hfs : Fit ss) (hd : DL w A c ps) (hf : FitP ps) :
    Calls Try.prog 55 #[.slice T ss.length t, .slice A ps.length c] w fun e w' => ∃ (P : Option Addr) (pc : Nat), e = .returned (.tuple #[.slice P (heavR ss ps).1.length pc, .int .i64 (heavR ss ps).2, .bool (propB ss ps)]) ∧ Ow IntK 3 w.heap.size w'.heap.size w' P pc (heavR ss ps).1 ∧ Below w.heap.size w w' := by
  have HV := Lib.hid (AreProposals_any T A t c ss ps w hT htc hfs hd hf)
  have HD := Lib.hid hd
  have HF := Lib.hid hf
  clear hT hd hf hfs
  go_enter Try.func55, Try.ntmps55
  go_wp2_with fail
  refine HV.out.mono ?_
  rintro e w1 ⟨rfl, hb⟩
  have HB := Lib.hid hb
  clear hb HV
  rcases Bool.eq_false_or_eq_true (propB ss ps) with hr | hr
  · have HR := Lib.hid (show heavR ss ps = heavK ps (2 ^ ps.length) by unfold heavR; rw [hr]; rfl)
    rw [hr]
    have HG := Lib.hid (Good8.of hr)
    have HWT := Lib.hid (weight_of hr)
    have h8 := HG.out.few
    have hpw := pow_wrap h8
    obtain ⟨N, hN⟩ : ∃ N, Hid (2 ^ ps.length = N) := ⟨_, Lib.hid rfl⟩
    have hN2 : N ≤ 256 := by rw [← hN.out]; exact Nat.pow_le_pow_right (n := 2) (by omega) h8
    rw [hN.out] at hpw
    have HZ := Lib.hid (own_nil_lit w1 w.heap.size w1.heap.size 3 1 rfl HB.out.size)
    have HZB := Lib.hid (HB.out.trans ((below1 w1 (.cells #[] 3)).mono HB.out.size))
    go_wp2_with fail
    generalize w1.alloc (.cells #[] 3) = W0 at *
    rw [hpw]
    go_loopw [7, 8, 23] (fun u mo i wr => ∃ s : Nat, s ≤ N ∧ i = .int .i64 s ∧ ∃ (bs : List Int) (m : Int) (P : Option Addr) (pc : Nat), Hid (heavK ps s = (bs, m)) ∧ mo = .int .i64 m ∧ u = .slice P bs.length pc ∧ Hid (wr.ownsRow w.heap.size 3 1 (.slice P bs.length pc) bs.length (IntK.row bs)) ∧ Below w.heap.size w wr) (fun _ _ i _ => N - (intOf i).toNat)
    case atStart => exact ⟨0, Nat.zero_le _, rfl, [], 0, _, _, Lib.hid rfl, rfl, rfl, HZ, HZB.out⟩
    case round =>
      clear HZ HZB
      obtain ⟨w3, hw3⟩ : ∃ x : World, x = wr := ⟨_, rfl⟩
      subst hw3
      obtain ⟨s, hs, rfl, bs, mo, Pb, pbc, HBS, rfl, rfl, HPB, hB⟩ := hrel
      have HB3 := Lib.hid hB
      clear hB
      by_cases hlt : s < N
      · have i1 : (s : Int) < (N : Int) := by omega
        have HLB := Lib.hid (heavK_len ps s)
        have HSB := Lib.hid (heavK_sum HWT.out h8 s)
        rw [HBS.out] at HLB HSB
        have HO0 : Hid (PickR w ((w3.alloc (.cells #[] 65)).alloc (.cells #[] 3)) w3.heap.size (some ⟨w3.heap.size, 0, none⟩) 0 [] []) := Lib.hid ⟨rfl, own_keep (own_nil_lit w3 w3.heap.size w3.heap.size 65 6 rfl (Nat.le_refl _)) (below1 _ _), fun i h1 h2 => by simp at h1⟩
        have HI0 := Lib.hid (own_nil_lit (w3.alloc (.cells #[] 65)) w3.heap.size (w3.heap.size + 1) 3 1 (by simp) (by simp))
        have HBX0 := Lib.hid (below2 w3 (.cells #[] 65) (.cells #[] 3))
        go_wp2_with fail
        generalize (w3.alloc (.cells #[] 65)).alloc (.cells #[] 3) = W1 at *
        go_loopw [10, 11, 12, 30] (fun u v su i wr => ∃ k : Nat, k ≤ ps.length ∧ i = .int .i64 k ∧ ∃ (q : List Prp) (hs : List PrH) (O : Option Addr) (oc : Nat) (P : Option Addr) (pc : Nat), Hid (q = pickL ps s k) ∧ u = .slice O q.length oc ∧ v = .slice P q.length pc ∧ su = .int .i64 (sumT q) ∧ Hid (PickR w wr w3.heap.size O oc q hs) ∧ Hid (wr.ownsRow w3.heap.size 3 1 (.slice P q.length pc) q.length (IntK.row (idsL q))) ∧ Below w3.heap.size w3 wr) (fun _ _ _ i _ => ps.length - (intOf i).toNat)
        case atStart => exact ⟨0, Nat.zero_le _, rfl, [], [], _, _, _, _, Lib.hid rfl, rfl, rfl, rfl, HO0, HI0, HBX0.out⟩
        case round =>
          clear HO0 HI0 HBX0
          obtain ⟨w4, hw4⟩ : ∃ x : World, x = wr := ⟨_, rfl⟩
          subst hw4
          obtain ⟨k, hk, rfl, q, hs, O, oc, P, pc, HQ, rfl, rfl, rfl, HO, HI, hB⟩ := hrel
          have HB4 := Lib.hid hB
          clear hB
          by_cases hlk : k < ps.length
          · obtain ⟨a, B, d, rfl, ⟨hc0, hc1, hc2, hc3, hc4, hc5⟩, hle, hcw⟩ := HD.out.at_ hlk
            have HBW := Lib.hid (HB3.out.trans (HB4.out.mono HB3.out.size))
            have i2 : (k : Int) < (ps.length : Int) := by omega
            obtain ⟨p, hp⟩ : ∃ p, Hid (ps[k] = p) := ⟨_, Lib.hid rfl⟩
            have HPW := Lib.hid (HWT.out _ (List.getElem_mem hlk))
            rw [hp.out] at hc0 hc1 hc2 hc3 hc4 hc5 hle hcw HPW
            have HBR := Lib.hid (show Bears w ⟨p.i, p.a.k, p.a.p, p.a.n, B, p.a.ws.length, d, p.t⟩ p from ⟨⟨rfl, rfl, rfl, rfl, rfl, rfl⟩, hle, hcw⟩)
            have e0 := (HBW.out.cell (World.block_lt_of_cell? _ _ hc0)).trans hc0
            have e1 := (HBW.out.cell (World.block_lt_of_cell? _ _ hc1)).trans hc1
            have e2 := (HBW.out.cell (World.block_lt_of_cell? _ _ hc2)).trans hc2
            have e3 := (HBW.out.cell (World.block_lt_of_cell? _ _ hc3)).trans hc3
            have e4 := (HBW.out.cell (World.block_lt_of_cell? _ _ hc4)).trans hc4
            have e5 := (HBW.out.cell (World.block_lt_of_cell? _ _ hc5)).trans hc5
            have HPY := Lib.hid (fun h => pick_yes (s := s) hlk hp.out h)
            have HPN := Lib.hid (fun h => pick_no (ps := ps) (s := s) (k := k) h)
            have HBX := Lib.hid (below1 w4 (.cells #[.int .i64 p.i, .int .i64 p.a.k, .int .i64 p.a.p, .int .i64 p.a.n, .slice B p.a.ws.length d, .int .i64 p.t] 65))
            have HNB := Lib.hid (show BoxF (w4.alloc (.cells #[.int .i64 p.i, .int .i64 p.a.k, .int .i64 p.a.p, .int .i64 p.a.n, .slice B p.a.ws.length d, .int .i64 p.t] 65)) w4.heap.size [.int .i64 p.i, .int .i64 p.a.k, .int .i64 p.a.p, .int .i64 p.a.n, .slice B p.a.ws.length d, .int .i64 p.t] from BoxF.new' w4 _ _ _ rfl)
            have hws : w4.heap.size < (w4.alloc (.cells #[.int .i64 p.i, .int .i64 p.a.k, .int .i64 p.a.p, .int .i64 p.a.n, .slice B p.a.ws.length d, .int .i64 p.t] 65)).heap.size := by simp
            clear hc0 hc1 hc2 hc3 hc4 hc5 hle hcw
            go_upto_region 11 with fail
            generalize w4.alloc (.cells #[.int .i64 p.i, .int .i64 p.a.k, .int .i64 p.a.p, .int .i64 p.a.n, .slice B p.a.ws.length d, .int .i64 p.t] 65) = W at *
            clear e0 e1 e2 e3 e4 e5
            have b0 := HNB.out.1 0 _ rfl
            have b1 := HNB.out.1 1 _ rfl
            have b2 := HNB.out.1 2 _ rfl
            have b3 := HNB.out.1 3 _ rfl
            have b4 := HNB.out.1 4 _ rfl
            have b5 := HNB.out.1 5 _ rfl
            have hbit := bit_eq s k (by omega)
            have hql : q.length ≤ 8 := by rw [HQ.out]; have := pick_len ps s k; omega
            have HSQ := sumT_range (ps := q) (fun x hx => HWT.out x (pick_mem hk (by rw [← HQ.out]; exact hx)))
            have hs0 := HSQ.1
            have hs1 : sumT q ≤ 800 := by have := HSQ.2; omega
            clear HSQ
            rcases Bool.eq_false_or_eq_true (bitB s k) with hb | hb
            · have HQY := Lib.hid (show q ++ [p] = pickL ps s (k + 1) by rw [HPY.out hb, ← HQ.out])
              rw [hb] at hbit
              obtain ⟨S, hS⟩ : ∃ S, Hid (sumT q = S) := ⟨_, Lib.hid rfl⟩
              rw [hS.out] at hs0 hs1 ⊢
              obtain ⟨hw1, hw2⟩ := HPW.out
              have HOW := Lib.hid (show PickR w W w3.heap.size O oc q hs from ⟨HO.out.1, own_keep HO.out.2.1 HBX.out, HO.out.2.2⟩)
              have HIW := Lib.hid (own_keep HI.out HBX.out)
              have HB5 := Lib.hid (HB4.out.trans (HBX.out.mono HB4.out.size))
              have hgO : (Value.slice O q.length oc).ownBlock ≠ some w4.heap.size := fun e => by have := (HO.out.2.1.lt _ e).2; omega
              have hgI : (Value.slice P q.length pc).ownBlock ≠ some w4.heap.size := fun e => by have := (HI.out.lt _ e).2; omega
              have HGO := Lib.hid hgO
              have HGI := Lib.hid hgI
              clear hb HPY HPN hgO hgI HO HI HB4
              go_upto_region 12 with fail
              go_upto_region 13 with (at_builtin; go_must (refine list_append_gr elPrp _ rfl _ _ rfl w3.heap.size O _ oc q.length 1 1 (PrHK.row hs) [.int .i64 p.i, .int .i64 p.a.k, .int .i64 p.a.p, .int .i64 p.a.n, .slice B p.a.ws.length d, .int .i64 p.t] rfl rfl rfl (own_keep HOW.out.2.1 (below1 W _)) (cells_arr _ #[.int .i64 p.i, .int .i64 p.a.k, .int .i64 p.a.p, .int .i64 p.a.n, .slice B p.a.ws.length d, .int .i64 p.t] _ _ rfl) (fun u hu => prh_one (xs := [⟨p.i, p.a.k, p.a.p, p.a.n, B, p.a.ws.length, d, p.t⟩]) u hu) (by have := HB5.out.size; simp; omega) (by omega) ?_); intro O2 oc2 w5 o2 b2' g2; have HO5 := Lib.hid o2; have HB6 := Lib.hid (HB5.out.trans (((below1 W _).mono HB5.out.size).trans b2')); have HI5 := Lib.hid ((own_keep HIW.out (below1 W _)).kept g2 (own_two (own_keep HOW.out.2.1 (below1 W (.cells #[.int .i64 p.i, .int .i64 p.a.k, .int .i64 p.a.p, .int .i64 p.a.n, .slice B p.a.ws.length d, .int .i64 p.t] 65))) (own_keep HIW.out (below1 W _)) (by decide))); have HN5 := Lib.hid ((HNB.out.below (below1 W _) hws).block (g2.block w4.heap.size (by simp; omega) (fun e => HGO.out e.symm))); have hz5 := Lib.hid g2.size; clear o2 b2' g2 b0 b1 b2 b3 b4 b5)
              have hz6 := hz5.out
              have n0 := HN5.out.1 0 _ rfl
              have hwl : w4.heap.size < w5.heap.size := by simp at hz6; omega
              go_upto_region 14 with (at_builtin; go_must (refine list_append_gr elInt _ rfl _ _ rfl w3.heap.size P _ pc q.length 1 1 (IntK.row (idsL q)) (IntK.row [p.i]) rfl rfl rfl (own_keep HI5.out (below1 w5 _)) (cells_arr _ #[.int .i64 p.i] _ _ rfl) int_one (by have := HB6.out.size; simp; omega) (by omega) ?_); intro P2 pc2 w6 o2 b2' g2; have HI6 := Lib.hid o2; have HB7 := Lib.hid (HB6.out.trans (((below1 w5 _).mono HB6.out.size).trans b2')); have HO6 := Lib.hid ((own_keep HO5.out (below1 w5 _)).kept g2 (own_two (own_keep HI5.out (below1 w5 (.cells #[.int .i64 p.i] 3))) (own_keep HO5.out (below1 w5 _)) (by decide))); have HN6 := Lib.hid ((HN5.out.below (below1 w5 _) hwl).block (g2.block w4.heap.size (by simp; omega) (fun e => HGI.out e.symm))); clear o2 b2' g2 n0)
              have n5 := HN6.out.1 5 _ rfl
              have HPR : Hid (PickR w w6 w3.heap.size O2 oc2 (q ++ [p]) (hs ++ [⟨p.i, p.a.k, p.a.p, p.a.n, B, p.a.ws.length, d, p.t⟩])) := by
                refine Lib.hid ⟨by rw [List.length_append, List.length_append, HOW.out.1]; rfl, ?_, fun i h1 h2 => ?_⟩
                · rw [List.length_append, PrHK.row_append]
                  exact HO6.out
                · rcases Nat.lt_or_ge i hs.length with h3 | h3
                  · rw [List.getElem_append_left h3, List.getElem_append_left (by rw [← HOW.out.1]; exact h3)]
                    exact HOW.out.2.2 i h3 (by rw [← HOW.out.1]; exact h3)
                  · have h4 : i = hs.length := by simp at h1; omega
                    subst h4
                    rw [List.getElem_append_right (Nat.le_refl _), List.getElem_append_right (by rw [HOW.out.1]; exact Nat.le_refl _)]
                    simpa using HBR.out
              have HII : Hid (w6.ownsRow w3.heap.size 3 1 (.slice P2 (q ++ [p]).length pc2) (q ++ [p]).length (IntK.row (idsL (q ++ [p])))) := Lib.hid (by rw [List.length_append, idsL_snoc, IntK.row_append]; exact HI6.out)
              go_wp2
              go_roundw
              case rel => exact ⟨k + 1, hlk, by go_num, q ++ [p], _, O2, oc2, P2, pc2, HQY, by rw [List.length_append]; rfl, by rw [List.length_append]; rfl, by rw [sumT_snoc, hS.out], HPR, HII, HB7.out⟩
              case measure => simp [intOf]; omega
            · have HQN := Lib.hid (show q = pickL ps s (k + 1) by rw [HPN.out hb, ← HQ.out])
              rw [hb] at hbit
              have HOW := Lib.hid (show PickR w W w3.heap.size O oc q hs from ⟨HO.out.1, own_keep HO.out.2.1 HBX.out, HO.out.2.2⟩)
              have HIW := Lib.hid (own_keep HI.out HBX.out)
              have HB5 := Lib.hid (HB4.out.trans (HBX.out.mono HB4.out.size))
              clear hb HPY HPN
              go_wp2
              go_roundw
              case rel => exact ⟨k + 1, hlk, by go_num, q, hs, O, oc, P, pc, HQN, rfl, rfl, rfl, HOW, HIW, HB5.out⟩
              case measure => simp [intOf]; omega
          · obtain rfl : k = ps.length := by omega
            have HGQ := Lib.hid (show Good8 q by rw [HQ.out]; exact HG.out.pick (Nat.le_refl _))
            have HFQ := Lib.hid (show FitP q by rw [HQ.out]; exact HF.out.pick HG.out (Nat.le_refl _))
            have hql := HGQ.out.few
            have HBW := Lib.hid (HB3.out.trans (HB4.out.mono HB3.out.size))
            have HDQ := Lib.hid (show DL w4 O oc q from ⟨own_cap HO.out.2.1, hs, HO.out.1, Cells.of_own HO.out.2.1, fun i h1 h2 => (HO.out.2.2 i h1 h2).below (HBW.out.mono (Nat.le_refl _))⟩)
            have HPB4 := Lib.hid (own_under HPB.out (Under.own HPB.out) HB4.out (Nat.le_refl _))
            clear HO
            go_upto_region 16 with fail
            go_wp2_with fail
            refine (conflictPairs_any O oc q w4 HDQ.out HFQ.out HGQ.out).mono ?_
            rintro e w5 ⟨Oc, occ, rfl, ownc, hb5⟩
            have hln := ownc.2.2.1
            have HI5 := Lib.hid (own_keep HI.out hb5)
            have HPB5 := Lib.hid (own_keep HPB4.out hb5)
            have HB5 := Lib.hid (HBW.out.trans (hb5.mono HBW.out.size))
            clear ownc hb5 HI HPB4
            have HNE := Lib.hid (noneB_eq (ps := q))
            obtain ⟨L, hL⟩ : ∃ L, Hid ((prs q q.length).length = L) := ⟨_, Lib.hid rfl⟩
            rw [hL.out] at HNE hln ⊢
            rcases Bool.eq_false_or_eq_true (noneB q q.length) with hn | hn
            · have hL0 : L = 0 := by
                have := HNE.out
                rw [hn] at this
                simp only [Bool.not_true, decide_eq_false_iff_not] at this
                omega
              subst hL0
              obtain ⟨c1, hc1⟩ : ∃ c, Hid (cmpI mo (sumT q) = c) := ⟨_, Lib.hid rfl⟩
              obtain ⟨c2, hc2⟩ : ∃ c, Hid (cmpI (q.length : Int) (bs.length : Int) = c) := ⟨_, Lib.hid rfl⟩
              obtain ⟨c3, hc3⟩ : ∃ c, Hid (cmpL (idsL q) bs = c) := ⟨_, Lib.hid rfl⟩
              have HBE := Lib.hid (show beats (idsL q) bs (sumT q) mo = decide (orL [c1, c2, c3] < 0) by unfold beats; rw [hc1.out, idsL_len, hc2.out, hc3.out, orL_three])
              have hblen : bs.length ≤ 8 := Nat.le_trans HLB.out h8
              have HK1 := Lib.hid (fun W : World => show Calls Try.prog 101 #[.int .i64 mo, .int .i64 (sumT q)] W fun e w' => e = .returned (.int .i64 c1) ∧ W = w' from by have := compare_any mo (sumT q) W; rw [hc1.out] at this; exact this)
              have HK2 := Lib.hid (fun W : World => show Calls Try.prog 101 #[.int .i64 (q.length : Int), .int .i64 (bs.length : Int)] W fun e w' => e = .returned (.int .i64 c2) ∧ W = w' from by have := compare_any (q.length : Int) (bs.length : Int) W; rw [hc2.out] at this; exact this)
              have HK3 := Lib.hid (show Calls Try.prog 102 #[.slice P q.length pc, .slice Pb bs.length pbc] w5 fun e w' => e = .returned (.int .i64 c3) ∧ w5 = w' from by have := compareL_any P Pb q.length pc bs.length pbc (idsL q) bs w5 (idsL_len q).symm rfl (Cells.of_own HI5.out) (Cells.of_own HPB5.out) (by rw [idsL_len]; omega) (by omega); rw [hc3.out] at this; exact this)
              have HCZ := Lib.hid (cells_arr w5 #[.int .i64 c1, .int .i64 c2, .int .i64 c3] 3 w5.heap.size rfl)
              have HBZ := Lib.hid (below1 w5 (.cells #[.int .i64 c1, .int .i64 c2, .int .i64 c3] 3))
              obtain ⟨rr, hrr⟩ : ∃ r, Hid (orL [c1, c2, c3] = r) := ⟨_, Lib.hid rfl⟩
              have HK4 := Lib.hid (fun (W : World) (hW : Cells W (some ⟨w5.heap.size, 0, none⟩) (IntK.row [c1, c2, c3])) (cc : Nat) => show Calls Try.prog 100 #[.slice (some ⟨w5.heap.size, 0, none⟩) 3 cc] W fun e w' => e = .returned (.int .i64 rr) ∧ W = w' from by have := or_any (some ⟨w5.heap.size, 0, none⟩) 3 cc [c1, c2, c3] W rfl hW (by simp); rw [hrr.out] at this; exact this)
              rw [hrr.out] at HBE
              have HST := Lib.hid (show heavK ps (s + 1) = stepH ps (bs, mo) s by rw [heavK, HBS.out])
              clear hln HGQ HFQ HDQ
              go_wp2_with fail
              refine (HK1.out _).mono ?_
              rintro e w9 ⟨rfl, rfl⟩
              go_wp2_with fail
              refine (HK2.out _).mono ?_
              rintro e w9 ⟨rfl, rfl⟩
              go_wp2_with fail
              refine HK3.out.mono ?_
              rintro e w9 ⟨rfl, rfl⟩
              go_wp2_with fail
              refine (HK4.out _ HCZ.out _).mono ?_
              rintro e w9 ⟨rfl, rfl⟩
              have HI7 := Lib.hid (own_mono (own_keep HI5.out HBZ.out) HB3.out.size)
              have HPB7 := Lib.hid (own_keep HPB5.out HBZ.out)
              have HB7 := Lib.hid (HB5.out.trans (HBZ.out.mono HB5.out.size))
              by_cases hrl : rr < 0
              · have HST2 := Lib.hid (show heavK ps (s + 1) = (idsL q, sumT q) by rw [HST.out, stepH_yes (by rw [← HQ.out]; exact hn) (by rw [← HQ.out]; exact HBE.out.trans (decide_eq_true hrl)), ← HQ.out])
                go_wp2
                go_roundw
                case rel => exact ⟨s + 1, hlt, by go_num, idsL q, sumT q, P, pc, HST2, rfl, by rw [idsL_len], by rw [idsL_len]; exact HI7, HB7.out⟩
                case measure => simp [intOf]; omega
              · have HST2 := Lib.hid (show heavK ps (s + 1) = (bs, mo) by rw [HST.out, stepH_less (by rw [← HQ.out]; exact HBE.out.trans (decide_eq_false hrl))])
                go_wp2
                go_roundw
                case rel => exact ⟨s + 1, hlt, by go_num, bs, mo, Pb, pbc, HST2, rfl, rfl, HPB7, HB7.out⟩
                case measure => simp [intOf]; omega
            · have hL1 : 0 < (L : Int) := by
                have := HNE.out
                rw [hn] at this
                simpa using this
              have HST := Lib.hid (show heavK ps (s + 1) = (bs, mo) by rw [heavK, HBS.out]; exact stepH_no (by rw [← HQ.out]; exact hn))
              go_wp2
              go_roundw
              case rel => exact ⟨s + 1, hlt, by go_num, bs, mo, Pb, pbc, HST, rfl, rfl, HPB5, HB5.out⟩
              case measure => simp [intOf]; omega
      · obtain rfl : s = N := by omega
        have HLB := Lib.hid (heavK_len ps s)
        rw [HBS.out] at HLB
        have HFIN := Lib.hid (show heavR ss ps = (bs, mo) by rw [HR.out, hN.out, HBS.out])
        go_wp2
        go_ret3
        exact ⟨Pb, pbc, by rw [HFIN.out]; rfl, by rw [HFIN.out]; exact Ow.mk HPB.out (show bs.length ≤ 1048576 by have := HLB.out; omega) (fun _ _ => trivial), HB3.out⟩
  · have HR := Lib.hid (show heavR ss ps = ([], 0) by unfold heavR; rw [hr]; rfl)
    rw [hr]
    go_wp2
    go_ret3
    exact ⟨none, 0, by rw [HR.out, hr]; rfl, by rw [HR.out]; exact ow_nil, HB.out⟩
end Go.Proofs.Ytgchbimjgdoifaa
namespace Go.Proofs.Ytgchbimjgdoifaa
open Go.RowKit
set_option linter.unusedVariables false
set_option linter.unusedSimpArgs false
set_option maxHeartbeats 4000000 in
set_option maxRecDepth 100000 in
theorem sHeaviestSet_any (T A : Option Addr) (t c : Nat) (ss : List ByteArray) (ps : List Prp) (w : World) (hT : Cells w T (strs ss)) (htc : ss.length ≤ t) (hfs : Fit ss) (hd : DL w A c ps) (hf : FitP ps) :
    Calls Try.prog 56 #[.slice T ss.length t, .slice A ps.length c] w fun e w' => ∃ (P : Option Addr) (pc : Nat), e = .returned (.tuple #[.slice P (heavR ss ps).1.length pc, .int .i64 (heavR ss ps).2, .bool (propB ss ps)]) ∧ Ow IntK 3 w.heap.size w'.heap.size w' P pc (heavR ss ps).1 ∧ Below w.heap.size w w' := by
  have HV := Lib.hid (l10Good_any T A t c ss ps w hT htc hfs hd hf)
  have HD := Lib.hid hd
  have HF := Lib.hid hf
  clear hT hd hf hfs
  go_enter Try.func56, Try.ntmps56
  go_wp2_with fail
  refine HV.out.mono ?_
  rintro e w1 ⟨rfl, hb⟩
  have HB := Lib.hid hb
  clear hb HV
  rcases Bool.eq_false_or_eq_true (propB ss ps) with hr | hr
  · have HR := Lib.hid (show heavR ss ps = heavK ps (2 ^ ps.length) by unfold heavR; rw [hr]; rfl)
    rw [hr]
    have HG := Lib.hid (Good8.of hr)
    have HWT := Lib.hid (weight_of hr)
    have h8 := HG.out.few
    have hpw := pow_wrap h8
    obtain ⟨N, hN⟩ : ∃ N, Hid (2 ^ ps.length = N) := ⟨_, Lib.hid rfl⟩
    have hN2 : N ≤ 256 := by rw [← hN.out]; exact Nat.pow_le_pow_right (n := 2) (by omega) h8
    rw [hN.out] at hpw
    have HZ := Lib.hid (own_nil_lit w1 w.heap.size w1.heap.size 3 1 rfl HB.out.size)
    have HZB := Lib.hid (HB.out.trans ((below1 w1 (.cells #[] 3)).mono HB.out.size))
    go_wp2_with fail
    generalize w1.alloc (.cells #[] 3) = W0 at *
    go_loopw [7, 8, 9] (fun u mo i wr => ∃ s : Nat, s ≤ N ∧ i = .int .i64 s ∧ ∃ (bs : List Int) (m : Int) (P : Option Addr) (pc : Nat), Hid (heavK ps s = (bs, m)) ∧ mo = .int .i64 m ∧ u = .slice P bs.length pc ∧ Hid (wr.ownsRow w.heap.size 3 1 (.slice P bs.length pc) bs.length (IntK.row bs)) ∧ Below w.heap.size w wr) (fun _ _ i _ => N - (intOf i).toNat)
    case atStart => exact ⟨0, Nat.zero_le _, rfl, [], 0, _, _, Lib.hid rfl, rfl, rfl, HZ, HZB.out⟩
    case round =>
      clear HZ HZB
      obtain ⟨w3, hw3⟩ : ∃ x : World, x = wr := ⟨_, rfl⟩
      subst hw3
      obtain ⟨s, hs, rfl, bs, mo, Pb, pbc, HBS, rfl, rfl, HPB, hB⟩ := hrel
      have HB3 := Lib.hid hB
      clear hB
      by_cases hlt : s < N
      · have i1 : (s : Int) < (N : Int) := by omega
        have HLB := Lib.hid (heavK_len ps s)
        have HSB := Lib.hid (heavK_sum HWT.out h8 s)
        rw [HBS.out] at HLB HSB
        have HO0 : Hid (PickR w ((w3.alloc (.cells #[] 65)).alloc (.cells #[] 3)) w3.heap.size (some ⟨w3.heap.size, 0, none⟩) 0 [] []) := Lib.hid ⟨rfl, own_keep (own_nil_lit w3 w3.heap.size w3.heap.size 65 6 rfl (Nat.le_refl _)) (below1 _ _), fun i h1 h2 => by simp at h1⟩
        have HI0 := Lib.hid (own_nil_lit (w3.alloc (.cells #[] 65)) w3.heap.size (w3.heap.size + 1) 3 1 (by simp) (by simp))
        have HBX0 := Lib.hid (below2 w3 (.cells #[] 65) (.cells #[] 3))
        go_wp2_with fail
        generalize (w3.alloc (.cells #[] 65)).alloc (.cells #[] 3) = W1 at *
        go_loopw [10, 11, 12, 13] (fun u v su i wr => ∃ k : Nat, k ≤ ps.length ∧ i = .int .i64 k ∧ ∃ (q : List Prp) (hs : List PrH) (O : Option Addr) (oc : Nat) (P : Option Addr) (pc : Nat), Hid (q = pickL ps s k) ∧ u = .slice O q.length oc ∧ v = .slice P q.length pc ∧ su = .int .i64 (sumT q) ∧ Hid (PickR w wr w3.heap.size O oc q hs) ∧ Hid (wr.ownsRow w3.heap.size 3 1 (.slice P q.length pc) q.length (IntK.row (idsL q))) ∧ Below w3.heap.size w3 wr) (fun _ _ _ i _ => ps.length - (intOf i).toNat)
        case atStart => exact ⟨0, Nat.zero_le _, rfl, [], [], _, _, _, _, Lib.hid rfl, rfl, rfl, rfl, HO0, HI0, HBX0.out⟩
        case round =>
          clear HO0 HI0 HBX0
          obtain ⟨w4, hw4⟩ : ∃ x : World, x = wr := ⟨_, rfl⟩
          subst hw4
          obtain ⟨k, hk, rfl, q, hs, O, oc, P, pc, HQ, rfl, rfl, rfl, HO, HI, hB⟩ := hrel
          have HB4 := Lib.hid hB
          clear hB
          by_cases hlk : k < ps.length
          · obtain ⟨a, B, d, rfl, ⟨hc0, hc1, hc2, hc3, hc4, hc5⟩, hle, hcw⟩ := HD.out.at_ hlk
            have HBW := Lib.hid (HB3.out.trans (HB4.out.mono HB3.out.size))
            have i2 : (k : Int) < (ps.length : Int) := by omega
            obtain ⟨p, hp⟩ : ∃ p, Hid (ps[k] = p) := ⟨_, Lib.hid rfl⟩
            have HPW := Lib.hid (HWT.out _ (List.getElem_mem hlk))
            rw [hp.out] at hc0 hc1 hc2 hc3 hc4 hc5 hle hcw HPW
            have HBR := Lib.hid (show Bears w ⟨p.i, p.a.k, p.a.p, p.a.n, B, p.a.ws.length, d, p.t⟩ p from ⟨⟨rfl, rfl, rfl, rfl, rfl, rfl⟩, hle, hcw⟩)
            have e0 := (HBW.out.cell (World.block_lt_of_cell? _ _ hc0)).trans hc0
            have e1 := (HBW.out.cell (World.block_lt_of_cell? _ _ hc1)).trans hc1
            have e2 := (HBW.out.cell (World.block_lt_of_cell? _ _ hc2)).trans hc2
            have e3 := (HBW.out.cell (World.block_lt_of_cell? _ _ hc3)).trans hc3
            have e4 := (HBW.out.cell (World.block_lt_of_cell? _ _ hc4)).trans hc4
            have e5 := (HBW.out.cell (World.block_lt_of_cell? _ _ hc5)).trans hc5
            have HPY := Lib.hid (fun h => pick_yes (s := s) hlk hp.out h)
            have HPN := Lib.hid (fun h => pick_no (ps := ps) (s := s) (k := k) h)
            have HKA := Lib.hid (fun (W : World) (hW : Below w4.heap.size w4 W) => (show W.cell? (a.add (k * 6)) = some (.int .i64 p.i) ∧ W.cell? ⟨(a.add (k * 6)).block, (a.add (k * 6)).off + 5, none⟩ = some (.int .i64 p.t) from ⟨(hW.cell (World.block_lt_of_cell? _ _ e0)).trans e0, (hW.cell (World.block_lt_of_cell? _ _ e5)).trans e5⟩))
            have HKB := Lib.hid (fun (W : World) (hW : Below w3.heap.size w3 W) => (show W.cell? (a.add (k * 6)) = some (.int .i64 p.i) ∧ W.cell? ⟨(a.add (k * 6)).block, (a.add (k * 6)).off + 5, none⟩ = some (.int .i64 p.t) from ⟨((HB3.out.trans (hW.mono HB3.out.size)).cell (World.block_lt_of_cell? _ _ hc0)).trans hc0, ((HB3.out.trans (hW.mono HB3.out.size)).cell (World.block_lt_of_cell? _ _ hc5)).trans hc5⟩))
            clear hc0 hc1 hc2 hc3 hc4 hc5 hle hcw
            have hbit := bit_eq s k (by omega)
            have hql : q.length ≤ 8 := by rw [HQ.out]; have := pick_len ps s k; omega
            have HSQ := sumT_range (ps := q) (fun x hx => HWT.out x (pick_mem hk (by rw [← HQ.out]; exact hx)))
            have hs0 := HSQ.1
            have hs1 : sumT q ≤ 800 := by have := HSQ.2; omega
            clear HSQ
            rcases Bool.eq_false_or_eq_true (bitB s k) with hb | hb
            · have HQY := Lib.hid (show q ++ [p] = pickL ps s (k + 1) by rw [HPY.out hb, ← HQ.out])
              rw [hb] at hbit
              obtain ⟨S, hS⟩ : ∃ S, Hid (sumT q = S) := ⟨_, Lib.hid rfl⟩
              rw [hS.out] at hs0 hs1 ⊢
              obtain ⟨hw1, hw2⟩ := HPW.out
              have HOW := HO
              clear hb HPY HPN HO
              go_upto_region 14 with fail
              go_upto_region 15 with (at_builtin; go_must (refine list_append_gr elPrp _ rfl _ _ rfl w3.heap.size O _ oc q.length 1 1 (PrHK.row hs) [.int .i64 p.i, .int .i64 p.a.k, .int .i64 p.a.p, .int .i64 p.a.n, .slice B p.a.ws.length d, .int .i64 p.t] rfl rfl rfl (own_keep HOW.out.2.1 (below1 w4 _)) (cells_arr _ #[.int .i64 p.i, .int .i64 p.a.k, .int .i64 p.a.p, .int .i64 p.a.n, .slice B p.a.ws.length d, .int .i64 p.t] _ _ rfl) (fun u hu => prh_one (xs := [⟨p.i, p.a.k, p.a.p, p.a.n, B, p.a.ws.length, d, p.t⟩]) u hu) (by have := HB4.out.size; simp; omega) (by omega) ?_); intro O2 oc2 w5 o2 b2' g2; have HO5 := Lib.hid o2; have HB6 := Lib.hid (HB4.out.trans (((below1 w4 _).mono HB4.out.size).trans b2')); have HI5 := Lib.hid ((own_keep HI.out (below1 w4 _)).kept g2 (own_two (own_keep HOW.out.2.1 (below1 w4 (.cells #[.int .i64 p.i, .int .i64 p.a.k, .int .i64 p.a.p, .int .i64 p.a.n, .slice B p.a.ws.length d, .int .i64 p.t] 65))) (own_keep HI.out (below1 w4 _)) (by decide))); clear o2 b2' g2 e0 e1 e2 e3 e4 e5)
              have n0 := (HKB.out w5 HB6.out).1
              go_upto_region 16 with (at_builtin; go_must (refine list_append_gr elInt _ rfl _ _ rfl w3.heap.size P _ pc q.length 1 1 (IntK.row (idsL q)) (IntK.row [p.i]) rfl rfl rfl (own_keep HI5.out (below1 w5 _)) (cells_arr _ #[.int .i64 p.i] _ _ rfl) int_one (by have := HB6.out.size; simp; omega) (by omega) ?_); intro P2 pc2 w6 o2 b2' g2; have HI6 := Lib.hid o2; have HB7 := Lib.hid (HB6.out.trans (((below1 w5 _).mono HB6.out.size).trans b2')); have HO6 := Lib.hid ((own_keep HO5.out (below1 w5 _)).kept g2 (own_two (own_keep HI5.out (below1 w5 (.cells #[.int .i64 p.i] 3))) (own_keep HO5.out (below1 w5 _)) (by decide))); clear o2 b2' g2 n0)
              have n5 := (HKB.out w6 HB7.out).2
              have HPR : Hid (PickR w w6 w3.heap.size O2 oc2 (q ++ [p]) (hs ++ [⟨p.i, p.a.k, p.a.p, p.a.n, B, p.a.ws.length, d, p.t⟩])) := by
                refine Lib.hid ⟨by rw [List.length_append, List.length_append, HOW.out.1]; rfl, ?_, fun i h1 h2 => ?_⟩
                · rw [List.length_append, PrHK.row_append]
                  exact HO6.out
                · rcases Nat.lt_or_ge i hs.length with h3 | h3
                  · rw [List.getElem_append_left h3, List.getElem_append_left (by rw [← HOW.out.1]; exact h3)]
                    exact HOW.out.2.2 i h3 (by rw [← HOW.out.1]; exact h3)
                  · have h4 : i = hs.length := by simp at h1; omega
                    subst h4
                    rw [List.getElem_append_right (Nat.le_refl _), List.getElem_append_right (by rw [HOW.out.1]; exact Nat.le_refl _)]
                    simpa using HBR.out
              have HII : Hid (w6.ownsRow w3.heap.size 3 1 (.slice P2 (q ++ [p]).length pc2) (q ++ [p]).length (IntK.row (idsL (q ++ [p])))) := Lib.hid (by rw [List.length_append, idsL_snoc, IntK.row_append]; exact HI6.out)
              go_wp2
              go_roundw
              case rel => exact ⟨k + 1, hlk, by go_num, q ++ [p], _, O2, oc2, P2, pc2, HQY, by rw [List.length_append]; rfl, by rw [List.length_append]; rfl, by rw [sumT_snoc, hS.out], HPR, HII, HB7.out⟩
              case measure => simp [intOf]; omega
            · have HQN := Lib.hid (show q = pickL ps s (k + 1) by rw [HPN.out hb, ← HQ.out])
              rw [hb] at hbit
              clear hb HPY HPN
              go_wp2
              go_roundw
              case rel => exact ⟨k + 1, hlk, by go_num, q, hs, O, oc, P, pc, HQN, rfl, rfl, rfl, HO, HI, HB4.out⟩
              case measure => simp [intOf]; omega
          · obtain rfl : k = ps.length := by omega
            have HGQ := Lib.hid (show Good8 q by rw [HQ.out]; exact HG.out.pick (Nat.le_refl _))
            have HFQ := Lib.hid (show FitP q by rw [HQ.out]; exact HF.out.pick HG.out (Nat.le_refl _))
            have hql := HGQ.out.few
            have HBW := Lib.hid (HB3.out.trans (HB4.out.mono HB3.out.size))
            have HDQ := Lib.hid (show DL w4 O oc q from ⟨own_cap HO.out.2.1, hs, HO.out.1, Cells.of_own HO.out.2.1, fun i h1 h2 => (HO.out.2.2 i h1 h2).below (HBW.out.mono (Nat.le_refl _))⟩)
            have HPB4 := Lib.hid (own_under HPB.out (Under.own HPB.out) HB4.out (Nat.le_refl _))
            clear HO
            have HSQ := sumT_range (ps := q) (fun x hx => HWT.out x (pick_mem (Nat.le_refl _) (by rw [← HQ.out]; exact hx)))
            have hs0 := HSQ.1
            have hs1 : sumT q ≤ 800 := by have := HSQ.2; omega
            clear HSQ
            have HST := Lib.hid (show heavK ps (s + 1) = stepH ps (bs, mo) s by rw [heavK, HBS.out])
            have HBE := Lib.hid (beats_eq (idsL q) bs (sumT q) mo)
            rw [idsL_len] at HBE
            have hblen : bs.length ≤ 8 := Nat.le_trans HLB.out h8
            go_upto_region 17 with fail
            go_wp2_with fail
            refine (l10Free_any O oc q w4 HDQ.out (by omega) (fun k hk => ⟨Small.of (HGQ.out.vld _ (List.getElem_mem hk)), (HFQ.out.2.1 _ (List.getElem_mem hk)).1⟩)).mono ?_
            rintro e w5 ⟨rfl, hb5⟩
            have HI5 := Lib.hid (own_keep HI.out hb5)
            have HPB5 := Lib.hid (own_keep HPB4.out hb5)
            have HI7 := Lib.hid (own_mono HI5.out HB3.out.size)
            have HB5 := Lib.hid (HBW.out.trans (hb5.mono HBW.out.size))
            have HLS := Lib.hid (l10Less_any P Pb q.length pc bs.length pbc (idsL q) bs w5 (idsL_len q).symm rfl (Cells.of_own HI5.out) (Cells.of_own HPB5.out) (by rw [idsL_len]; omega) (by omega))
            clear hb5 HI HPB4 HGQ HFQ HDQ HBW HB4
            rcases Bool.eq_false_or_eq_true (noneB q q.length) with hn | hn
            · rw [hn]
              have HSY := Lib.hid (fun hb => show heavK ps (s + 1) = (idsL q, sumT q) by rw [HST.out, stepH_yes (by rw [← HQ.out]; exact hn) (by rw [← HQ.out]; exact hb), ← HQ.out])
              have HSN := Lib.hid (fun hb => show heavK ps (s + 1) = (bs, mo) by rw [HST.out, stepH_less (by rw [← HQ.out]; exact hb)])
              obtain ⟨S, hS⟩ : ∃ S, Hid (sumT q = S) := ⟨_, Lib.hid rfl⟩
              obtain ⟨lx, hlx⟩ : ∃ b, Hid (lexB (idsL q) bs = b) := ⟨_, Lib.hid rfl⟩
              rw [hS.out] at hs0 hs1 HBE HSY ⊢
              rw [hlx.out] at HBE HLS
              rcases Int.lt_trichotomy S mo with h1 | h1 | h1
              · have HX := Lib.hid (HSN.out (by rw [hS.out]; exact HBE.out.trans (by simp [h1])))
                go_wp2
                go_roundw
                case rel => exact ⟨s + 1, hlt, by go_num, bs, mo, Pb, pbc, HX, rfl, rfl, HPB5, HB5.out⟩
                case measure => simp [intOf]; omega
              · have h2 : ¬ S < mo := by omega
                have h3 : ¬ mo < S := by omega
                have h4 : (S == mo) = true := by simp [h1]
                rcases Int.lt_trichotomy (q.length : Int) (bs.length : Int) with h5 | h5 | h5
                · have h6 : ¬ (bs.length : Int) < (q.length : Int) := by omega
                  have HX := Lib.hid (HSY.out (HBE.out.trans (by simp only [h2, h3, h4, h5, h6]; simp)))
                  clear h1
                  go_wp2
                  go_roundw
                  case rel => exact ⟨s + 1, hlt, by go_num, idsL q, S, P, pc, HX, rfl, by rw [idsL_len], by rw [idsL_len]; exact HI7, HB5.out⟩
                  case measure => simp [intOf]; omega
                · have h6 : ¬ (bs.length : Int) < (q.length : Int) := by omega
                  have h7 : ¬ (q.length : Int) < (bs.length : Int) := by omega
                  cases lx with
                  | true =>
                    have HX := Lib.hid (HSY.out (HBE.out.trans (by simp only [h2, h3, h4, h6, h7]; simp)))
                    clear h1 h5
                    go_wp2_with (go_at_call 103; refine HLS.out.mono ?_; rintro e w6 ⟨rfl, hb6⟩; have HI8 := Lib.hid (own_keep HI7.out hb6); have HB8 := Lib.hid (HB5.out.trans (hb6.mono HB5.out.size)); clear hb6)
                    go_roundw
                    case rel => exact ⟨s + 1, hlt, by go_num, idsL q, S, P, pc, HX, rfl, by rw [idsL_len], by rw [idsL_len]; exact HI8, HB8.out⟩
                    case measure => simp [intOf]; omega
                  | false =>
                    have HX := Lib.hid (HSN.out (by rw [hS.out]; exact HBE.out.trans (by simp only [h2, h3, h4, h6, h7]; simp)))
                    clear h1 h5
                    go_wp2_with (go_at_call 103; refine HLS.out.mono ?_; rintro e w6 ⟨rfl, hb6⟩; have HI8 := Lib.hid (own_keep HPB5.out hb6); have HB8 := Lib.hid (HB5.out.trans (hb6.mono HB5.out.size)); clear hb6)
                    go_roundw
                    case rel => exact ⟨s + 1, hlt, by go_num, bs, mo, Pb, pbc, HX, rfl, rfl, HI8, HB8.out⟩
                    case measure => simp [intOf]; omega
                · have h6 : ¬ (q.length : Int) < (bs.length : Int) := by omega
                  have HX := Lib.hid (HSN.out (by rw [hS.out]; exact HBE.out.trans (by simp only [h2, h3, h4, h5, h6]; simp)))
                  clear h1
                  go_wp2
                  go_roundw
                  case rel => exact ⟨s + 1, hlt, by go_num, bs, mo, Pb, pbc, HX, rfl, rfl, HPB5, HB5.out⟩
                  case measure => simp [intOf]; omega
              · have h2 : ¬ S < mo := by omega
                have h4 : (S == mo) = false := by simp; omega
                have HX := Lib.hid (HSY.out (HBE.out.trans (by simp [h1, h2, h4])))
                go_wp2
                go_roundw
                case rel => exact ⟨s + 1, hlt, by go_num, idsL q, S, P, pc, HX, rfl, by rw [idsL_len], by rw [idsL_len]; exact HI7, HB5.out⟩
                case measure => simp [intOf]; omega
            · have HSX := Lib.hid (show heavK ps (s + 1) = (bs, mo) by rw [HST.out]; exact stepH_no (by rw [← HQ.out]; exact hn))
              rw [hn]
              go_wp2
              go_roundw
              case rel => exact ⟨s + 1, hlt, by go_num, bs, mo, Pb, pbc, HSX, rfl, rfl, HPB5, HB5.out⟩
              case measure => simp [intOf]; omega
      · obtain rfl : s = N := by omega
        have HLB := Lib.hid (heavK_len ps s)
        rw [HBS.out] at HLB
        have HFIN := Lib.hid (show heavR ss ps = (bs, mo) by rw [HR.out, hN.out, HBS.out])
        go_wp2
        go_ret3
        exact ⟨Pb, pbc, by rw [HFIN.out]; rfl, by rw [HFIN.out]; exact Ow.mk HPB.out (show bs.length ≤ 1048576 by have := HLB.out; omega) (fun _ _ => trivial), HB3.out⟩
  · have HR := Lib.hid (show heavR ss ps = ([], 0) by unfold heavR; rw [hr]; rfl)
    have HZ := Lib.hid (own_nil_lit w1 w.heap.size w1.heap.size 3 1 rfl HB.out.size)
    have HBZ := Lib.hid (HB.out.trans ((below1 w1 (.cells #[] 3)).mono HB.out.size))
    rw [hr]
    go_wp2
    go_ret3
    exact ⟨_, 0, by rw [HR.out, hr]; rfl, by rw [HR.out]; exact Ow.mk (xs := []) HZ.out (by simp) (fun _ h => by simp at h), HBZ.out⟩
end Go.Proofs.Ytgchbimjgdoifaa
namespace Go.Proofs.Ytgchbimjgdoifaa
open Go.RowKit
set_option linter.unusedVariables false
set_option linter.unusedSimpArgs false
attribute [local go_sem ↓] Go.wp_at_zero Go.wp_at_succ
/-- A list of proposals of the call's own that grows. -/
def PrV (lo : Nat) (w : World) (O : Option Addr) (c : Nat) (ps : List Prp) (hs : List PrH) : Prop := hs.length = ps.length ∧ w.ownsRow lo 65 6 (.slice O ps.length c) ps.length (PrHK.row hs) ∧ ∀ i (h1 : i < hs.length) (h2 : i < ps.length), Heads hs[i] ps[i] ∧ w.ownsRow lo 9 1 (.slice hs[i].B ps[i].a.ws.length hs[i].d) ps[i].a.ws.length (strs ps[i].a.ws)
section
variable {lo lo' hi' : Nat} {w w' : World} {O O' : Option Addr} {c c' : Nat} {ps : List Prp} {hs : List PrH}
theorem PrV.keep (h : PrV lo w O c ps hs) (hb : Below w.heap.size w w') : PrV lo w' O c ps hs := ⟨h.1, own_keep h.2.1 hb, fun i h1 h2 => ⟨(h.2.2 i h1 h2).1, own_keep (h.2.2 i h1 h2).2 hb⟩⟩
theorem PrV.off (h : PrV lo w O c ps hs) (ho : Only lo' hi' w w') (hd : hi' ≤ lo) : PrV lo w' O c ps hs := ⟨h.1, own_off h.2.1 ho hd, fun i h1 h2 => ⟨(h.2.2 i h1 h2).1, own_off (h.2.2 i h1 h2).2 ho hd⟩⟩
theorem PrV.nil (h : w.ownsRow lo 65 6 (.slice O 0 c) 0 []) : PrV lo w O c [] [] := ⟨rfl, h, fun i h1 => by simp at h1⟩
theorem PrV.dl (h : PrV lo w O c ps hs) : DL w O c ps := ⟨own_cap h.2.1, hs, h.1, Cells.of_own h.2.1, fun i h1 h2 => ⟨(h.2.2 i h1 h2).1, by rw [(h.2.2 i h1 h2).1.2.2.2.2.1]; exact own_cap (h.2.2 i h1 h2).2, Cells.of_own (h.2.2 i h1 h2).2⟩⟩
theorem PrV.snoc {q : Prp} {B : Option Addr} {d : Nat} (h : PrV lo w O c ps hs) (hb : w.ownsRow lo 9 1 (.slice B q.a.ws.length d) q.a.ws.length (strs q.a.ws)) (hg : w.grownBy w' (Value.slice O ps.length c).ownBlock)
    (ho : w'.ownsRow lo 65 6 (.slice O' (ps.length + 1) c') (ps.length + 1) (PrHK.row hs ++ [.int .i64 q.i, .int .i64 q.a.k, .int .i64 q.a.p, .int .i64 q.a.n, .slice B q.a.ws.length d, .int .i64 q.t])) : PrV lo w' O' c' (ps ++ [q]) (hs ++ [⟨q.i, q.a.k, q.a.p, q.a.n, B, q.a.ws.length, d, q.t⟩]) := by
  obtain ⟨h1, h2, h3⟩ := h
  refine ⟨by simp [h1], by rw [List.length_append, PrHK.row_append]; exact ho, fun i hi hi' => ?_⟩
  rcases Nat.lt_or_ge i ps.length with h5 | h5
  · have h5' : i < hs.length := by rw [h1]; exact h5
    rw [List.getElem_append_left h5', List.getElem_append_left h5]
    obtain ⟨h6, h7⟩ := h3 i h5' h5
    exact ⟨h6, h7.kept hg (own_two h2 h7 (by decide))⟩
  · have h6 : i = ps.length := by simp at hi'; omega
    subst h6
    rw [List.getElem_append_right (by rw [h1]; exact Nat.le_refl _), List.getElem_append_right (Nat.le_refl _)]
    simp only [h1, Nat.sub_self, List.getElem_cons_zero]
    exact ⟨⟨rfl, rfl, rfl, rfl, rfl, rfl⟩, hb.kept hg (own_two h2 hb (by decide))⟩
end
/-- Proposals of few short words. -/
def ShortP (ps : List Prp) : Prop := ∀ p ∈ ps, Short p.a.ws ∧ p.a.ws.length ≤ 5
theorem ShortP.snoc {ps : List Prp} {q : Prp} (h : ShortP ps) (hq : Short q.a.ws) (hl : q.a.ws.length ≤ 5) : ShortP (ps ++ [q]) := fun x hx => by
  rcases List.mem_append.1 hx with h1 | h1
  · exact h x h1
  · simp at h1; subst h1; exact ⟨hq, hl⟩
theorem ShortP.fit {ps : List Prp} (h : ShortP ps) (hn : ps.length ≤ 100) : FitP ps := ⟨by omega, fun p hp => (h p hp).1.fit (by have := (h p hp).2; omega), by have := cntW_le5 (fun p hp => (h p hp).2); omega⟩
theorem own_blk {lo : Nat} {w : World} {E size n c : Nat} {O : Option Addr} {xs : List Value} (h : w.ownsRow lo E size (.slice O n c) n xs) : ∀ q, w.heap.size ≤ q → some q ≠ (Value.slice O n c).ownBlock := fun q hq e => by
  have := (h.lt q e.symm).2; omega
set_option maxRecDepth 100000 in
set_option maxHeartbeats 8000000 in
theorem proposals_any (T : Option Addr) (t : Nat) (ss : List ByteArray) (b : Nat) (A : Option Addr) (n c m : Nat) (w : World) (h : Cur w b A n c m) (hm : m ≤ 700000) (hT : w.ownsRow (b + 1) 9 1 (.slice T ss.length t) ss.length (strs ss)) (hfs : Fit ss) (hl : ss.length ≤ 100) :
    Calls Try.prog 93 #[.pointer (some ⟨b, 0, none⟩), .slice T ss.length t] w fun e w' => ∃ (O : Option Addr) (d : Nat) (ps : List Prp) (hs : List PrH), e = .returned (.slice O ps.length d) ∧ ps.length ≤ 20 ∧ ShortP ps ∧ PrV w.heap.size w' O d ps hs ∧ Cur w' b A n c (m + 300) ∧ Only b (b + 1) w w' := by
  have HB0 := Lib.hid h.bytes
  have hlt := h.lt
  have hbl := below1 w (.cells #[] 65)
  have HC := Lib.hid (h.below hbl)
  have HV := Lib.hid (PrV.nil (own_nil_lit w w.heap.size w.heap.size 65 6 rfl (Nat.le_refl _)))
  have HN := Lib.hid (show Only b (b + 1) w (w.alloc (.cells #[] 65)) from Only.of_below hbl)
  have HT := Lib.hid (own_keep hT hbl)
  have htc := own_cap hT
  clear h hbl hT
  go_enter Try.func93, Try.ntmps93
  go_upto_region 2 with fail
  generalize w.alloc (.cells #[] 65) = W0 at *
  go_wp2_with fail
  refine (pick_any 6 (by omega) (by omega) b A n c m W0 HC.out (by omega)).mono ?_
  rintro e w1 ⟨⟨x, rfl, hx⟩, hc, ho⟩
  replace HC := Lib.hid hc
  replace HV := Lib.hid (HV.out.off ho (by omega))
  replace HT := Lib.hid (own_off HT.out ho (Nat.le_refl _))
  replace HN := Lib.hid (HN.out.trans ho)
  clear hc ho
  go_wp2_with fail
  go_loopw [5, 6, 7] (fun u v i wr => ∃ (j : Nat) (X : Int) (ps : List Prp) (O : Option Addr) (oc : Nat) (hs : List PrH), i = .int .i64 j ∧ v = .int .i64 X ∧ u = .slice O ps.length oc ∧ ps.length + j ≤ 6 ∧ Hid (ShortP ps) ∧ Hid (PrV w.heap.size wr O oc ps hs) ∧ Hid (Cur wr b A n c (m + 1 + 30 * (6 - j))) ∧ Hid (Only b (b + 1) w wr) ∧ Hid (wr.ownsRow (b + 1) 9 1 (.slice T ss.length t) ss.length (strs ss))) (fun _ _ i _ => (intOf i).toNat)
  case atStart => exact ⟨x, 0, [], _, _, [], rfl, rfl, rfl, by simp; omega, Lib.hid (fun p hp => by simp at hp), HV, Lib.hid (HC.out.mono (by omega)), HN, HT⟩
  case round =>
    clear HV HC HN HT
    obtain ⟨wq, hwq⟩ : ∃ x : World, x = wr := ⟨_, rfl⟩
    subst hwq
    obtain ⟨j, X0, ps, O, oc, hs, rfl, rfl, rfl, hjk, HS, HV, HC, HN, HT⟩ := hrel
    have hwz := HN.out.size
    rcases Nat.eq_zero_or_pos j with h0 | h0
    · subst h0
      replace HC := Lib.hid (HC.out.mono (show _ ≤ m + 181 by omega))
      have hps : ps.length ≤ 6 := by omega
      clear hjk
      go_wp2_with fail
      refine (pick_any 24 (by omega) (by omega) b A n c _ wq HC.out (by omega)).mono ?_
      rintro e w2 ⟨⟨z, rfl, hz⟩, hc, ho⟩
      replace HC := Lib.hid hc
      replace HV := Lib.hid (HV.out.off ho (by omega))
      replace HN := Lib.hid (HN.out.trans ho)
      replace hwz := HN.out.size
      clear hc ho hz HT
      by_cases z0 : z = 0
      · subst z0
        have e0 : (((0 : Nat) : Int) == 0) = true := by decide
        have hb4 := below1 w2 (.cells ((([99, 100, 1] : List Int).map (Value.int .i64)).toArray) 3)
        have HL4 := Lib.hid (lit_cellsI w2 [99, 100, 1] 3 w2.heap.size rfl)
        replace HC := Lib.hid (HC.out.below hb4)
        replace HV := Lib.hid (HV.out.keep hb4)
        replace HN := Lib.hid (HN.out.trans (Only.of_below hb4))
        have hne : w2.heap.size ≠ b := by have := hwz; omega
        clear hb4
        go_wp2_with fail
        refine (among_any [99, 100, 1] (some ⟨w2.heap.size, 0, none⟩) 3 (by simp) (by simp) b A n c _ (w2.alloc (.cells ((([99, 100, 1] : List Int).map (Value.int .i64)).toArray) 3)) HC.out (by omega) HL4.out (fun a ha => by obtain rfl := Option.some.inj ha; exact hne)).mono ?_
        rintro e w3 ⟨⟨y1, rfl, hy⟩, hc, ho⟩
        replace HC := Lib.hid hc
        replace HV := Lib.hid (HV.out.off ho (by omega))
        replace HN := Lib.hid (HN.out.trans ho)
        replace hwz := HN.out.size
        clear hc ho hy HL4 hne
        go_wp2_with fail
        refine (amendment_any T t ss.length b A n c _ w3 HC.out (by omega) (by omega)).mono ?_
        rintro e w4 ⟨N, nd, a, rfl, hal, has, own, hc, ho⟩
        have HSA := Lib.hid has
        have HNO := Lib.hid (own_mono own hwz)
        replace HC := Lib.hid hc
        replace HV := Lib.hid (HV.out.off ho (by omega))
        replace HN := Lib.hid (HN.out.trans ho)
        replace hwz := HN.out.size
        clear has own hc ho
        have hb4 := below1 w4 (.cells ((([1, 100, 101, 0] : List Int).map (Value.int .i64)).toArray) 3)
        have HL4 := Lib.hid (lit_cellsI w4 [1, 100, 101, 0] 3 w4.heap.size rfl)
        replace HC := Lib.hid (HC.out.below hb4)
        replace HV := Lib.hid (HV.out.keep hb4)
        replace HNO := Lib.hid (own_keep HNO.out hb4)
        replace HN := Lib.hid (HN.out.trans (Only.of_below hb4))
        have hne : w4.heap.size ≠ b := by have := hwz; omega
        clear hb4
        go_wp2_with fail
        refine (among_any [1, 100, 101, 0] (some ⟨w4.heap.size, 0, none⟩) 4 (by simp) (by simp) b A n c _ (w4.alloc (.cells ((([1, 100, 101, 0] : List Int).map (Value.int .i64)).toArray) 3)) HC.out (by omega) HL4.out (fun a ha => by obtain rfl := Option.some.inj ha; exact hne)).mono ?_
        rintro e w5 ⟨⟨y2, rfl, hy⟩, hc, ho⟩
        replace HC := Lib.hid hc
        replace HV := Lib.hid (HV.out.off ho (by omega))
        replace HNO := Lib.hid (own_off HNO.out ho (by omega))
        replace HN := Lib.hid (HN.out.trans ho)
        replace hwz := HN.out.size
        clear hc ho hy HL4 hne
        have hb7 := below1 w5 (.cells #[.int .i64 y1, .int .i64 a.k, .int .i64 a.p, .int .i64 a.n, .slice N a.ws.length nd, .int .i64 y2] 65)
        have HP7 := Lib.hid (cells_arr w5 #[.int .i64 y1, .int .i64 a.k, .int .i64 a.p, .int .i64 a.n, .slice N a.ws.length nd, .int .i64 y2] 65 (w5.heap.size) (rfl))
        replace HC := Lib.hid (HC.out.below hb7)
        replace HV := Lib.hid (HV.out.keep hb7)
        replace HNO := Lib.hid (own_keep HNO.out hb7)
        replace HN := Lib.hid (HN.out.trans (Only.of_below hb7))
        have hsz := HN.out.size
        clear hb7
        go_wp2_with (at_builtin; go_must (refine list_append_gr elPrp _ rfl _ _ rfl w.heap.size O (some ⟨w5.heap.size, 0, none⟩) oc ps.length 1 1 (PrHK.row hs) [.int .i64 y1, .int .i64 a.k, .int .i64 a.p, .int .i64 a.n, .slice N a.ws.length nd, .int .i64 y2] rfl rfl rfl HV.out.2.1 HP7.out (fun u hu => prh_one (xs := [⟨y1, a.k, a.p, a.n, N, a.ws.length, nd, y2⟩]) u hu) hsz (by omega) ?_); intro O2 d2 w8 own8 hb8 hg8; have HV8 := Lib.hid (HV.out.snoc (q := ⟨y1, a, y2⟩) (d := nd) HNO.out hg8 own8); have HB8 := Lib.hid hb8; clear own8 hg8 hb8)
        go_ret
        have h20 : (ps ++ [(⟨y1, a, y2⟩ : Prp)]).length ≤ 20 := by simp; omega
        have hsp : ShortP (ps ++ [(⟨y1, a, y2⟩ : Prp)]) := HS.out.snoc HSA.out hal
        have hcc : Cur w8 b A n c (m + 300) := (HC.out.belowB HB0.out HB8.out (Nat.le_refl _) hlt).mono (by omega)
        have hnn := HN.out.of_belowB HB8.out (Nat.le_refl _)
        first | exact ⟨O2, d2, ps ++ [⟨y1, a, y2⟩], by first | rfl | (simp; done), h20, hsp, ⟨_, HV8.out⟩, hcc, hnn⟩ | exact ⟨O2, d2, ps ++ [⟨y1, a, y2⟩], _, by first | rfl | (simp; done), h20, hsp, HV8.out, hcc, hnn⟩
      · have e0 : ((z : Int) == 0) = false := by simp; omega
        by_cases z1 : z = 1
        · subst z1
          have e1 : (((1 : Nat) : Int) == 1) = true := by decide
          clear z0
          go_wp2_with fail
          go_loopw [5, 9] (fun u i wr => ∃ (j : Nat) (ps : List Prp) (O : Option Addr) (oc : Nat) (hs : List PrH), i = .int .i64 j ∧ u = .slice O ps.length oc ∧ ps.length ≤ 6 + j ∧ j ≤ 10 ∧ Hid (ShortP ps) ∧ Hid (PrV w.heap.size wr O oc ps hs) ∧ Hid (Cur wr b A n c (m + 182 + j)) ∧ Hid (Only b (b + 1) w wr)) (fun _ i _ => 10 - (intOf i).toNat)
          case atStart => exact ⟨0, ps, _, _, hs, rfl, rfl, by omega, by omega, HS, HV, HC, HN⟩
          case round =>
            clear HS HV HC HN hps
            obtain ⟨wp, hwp⟩ : ∃ x : World, x = wr := ⟨_, rfl⟩
            subst hwp
            obtain ⟨j, ps, O, oc, hs, rfl, rfl, hjk, hj10, HS, HV, HC, HN⟩ := hrel
            have hwz := HN.out.size
            go_wp2_with fail
            refine (pick_any 2 (by omega) (by omega) b A n c _ wp HC.out (by omega)).mono ?_
            rintro e w3 ⟨⟨y, rfl, hy⟩, hc, ho⟩
            replace HC := Lib.hid hc
            replace HV := Lib.hid (HV.out.off ho (by omega))
            replace HN := Lib.hid (HN.out.trans ho)
            replace hwz := HN.out.size
            clear hc ho
            by_cases hl8 : (ps.length : Int) < 8 + (y : Int)
            · by_cases hj : j < 10
              · have i1 : (j : Int) < 10 := by omega
                have hb5 := below1 w3 (.cells #[.string ({ data := #[120] } : ByteArray)] 9)
                have HNO : Hid ((w3.alloc (.cells #[.string ({ data := #[120] } : ByteArray)] 9)).ownsRow w.heap.size 9 1 (.slice (some ⟨w3.heap.size, 0, none⟩) 1 1) 1 (strs [({ data := #[120] } : ByteArray)])) := Lib.hid (World.ownsRow_lit w3 #[.string ({ data := #[120] } : ByteArray)] 1 hwz (by unfold maxLen; omega) (by rfl))
                replace HC := Lib.hid (HC.out.below hb5)
                replace HV := Lib.hid (HV.out.keep hb5)
                replace HN := Lib.hid (HN.out.trans (Only.of_below hb5))
                clear hb5
                have hb7 := below1 (w3.alloc (.cells #[.string ({ data := #[120] } : ByteArray)] 9)) (.cells #[.int .i64 (60 + (j : Int)), .int .i64 1, .int .i64 0, .int .i64 0, .slice (some ⟨w3.heap.size, 0, none⟩) 1 1, .int .i64 1] 65)
                have HP7 := Lib.hid (cells_arr (w3.alloc (.cells #[.string ({ data := #[120] } : ByteArray)] 9)) #[.int .i64 (60 + (j : Int)), .int .i64 1, .int .i64 0, .int .i64 0, .slice (some ⟨w3.heap.size, 0, none⟩) 1 1, .int .i64 1] 65 (w3.heap.size + 1) (by simp))
                replace HC := Lib.hid (HC.out.below hb7)
                replace HV := Lib.hid (HV.out.keep hb7)
                replace HNO := Lib.hid (own_keep HNO.out hb7)
                replace HN := Lib.hid (HN.out.trans (Only.of_below hb7))
                have hsz := HN.out.size
                clear hb7
                go_wp2_with (at_builtin; go_must (refine list_append_gr elPrp _ rfl _ _ rfl w.heap.size O (some ⟨w3.heap.size + 1, 0, none⟩) oc ps.length 1 1 (PrHK.row hs) [.int .i64 (60 + (j : Int)), .int .i64 1, .int .i64 0, .int .i64 0, .slice (some ⟨w3.heap.size, 0, none⟩) 1 1, .int .i64 1] rfl rfl rfl HV.out.2.1 HP7.out (fun u hu => prh_one (xs := [⟨(60 + (j : Int)), 1, 0, 0, (some ⟨w3.heap.size, 0, none⟩), 1, 1, 1⟩]) u hu) hsz (by omega) ?_); intro O2 d2 w8 own8 hb8 hg8; have HV8 := Lib.hid (HV.out.snoc (q := ⟨(60 + (j : Int)), ⟨1, 0, 0, [({ data := #[120] } : ByteArray)]⟩, 1⟩) (d := 1) HNO.out hg8 own8); have HB8 := Lib.hid hb8; clear own8 hg8 hb8)
                go_roundw
                case rel => exact ⟨j + 1, ps ++ [⟨60 + (j : Int), ⟨1, 0, 0, [({ data := #[120] } : ByteArray)]⟩, 1⟩], O2, d2, _, by go_num, by simp, by simp; omega, by omega, Lib.hid (HS.out.snoc (fun s hs => by (have h9 : s = ({ data := #[120] } : ByteArray) := by simpa using hs); subst h9; decide) (by simp)), HV8, Lib.hid ((HC.out.belowB HB0.out HB8.out (Nat.le_refl _) hlt).mono (by omega)), Lib.hid (HN.out.of_belowB HB8.out (Nat.le_refl _))⟩
                case measure => (first | (simp [intOf]; done) | (simp [intOf]; omega))
              · have i1 : ¬ (j : Int) < 10 := by omega
                go_wp2
                go_ret
                first | exact ⟨O, oc, ps, rfl, (by omega), HS.out, ⟨hs, HV.out⟩, HC.out.mono (by omega), HN.out⟩ | exact ⟨O, oc, ps, hs, rfl, (by omega), HS.out, HV.out, HC.out.mono (by omega), HN.out⟩
            · go_wp2
              go_ret
              first | exact ⟨O, oc, ps, rfl, (by omega), HS.out, ⟨hs, HV.out⟩, HC.out.mono (by omega), HN.out⟩ | exact ⟨O, oc, ps, hs, rfl, (by omega), HS.out, HV.out, HC.out.mono (by omega), HN.out⟩
        · have e1 : ((z : Int) == 1) = false := by simp; omega
          clear z0 z1
          go_wp2
          go_ret
          first | exact ⟨O, oc, ps, rfl, (by omega), HS.out, ⟨hs, HV.out⟩, HC.out.mono (by omega), HN.out⟩ | exact ⟨O, oc, ps, hs, rfl, (by omega), HS.out, HV.out, HC.out.mono (by omega), HN.out⟩
    · have i0 : (0 : Int) < (j : Int) := by omega
      have q2 : IntKind.i64.wrap ((j : Int) - 1) = ((j - 1 : Nat) : Int) := by rw [IntKind.wrap_i64]; omega
      go_wp2_with fail
      refine (pick_any 4 (by omega) (by omega) b A n c (m + 1 + 30 * (6 - j)) wq HC.out (by omega)).mono ?_
      rintro e w2 ⟨⟨y0, rfl, hy0⟩, hc, ho⟩
      replace HC := Lib.hid hc
      replace HV := Lib.hid (HV.out.off ho (by omega))
      replace HT := Lib.hid (own_off HT.out ho (Nat.le_refl _))
      replace HN := Lib.hid (HN.out.trans ho)
      clear hc ho
      go_upto_region 7 with fail
      obtain ⟨X, hX⟩ : ∃ X, Hid (wrap64 (wrap64 (X0 + 1) + (y0 : Int)) = X) := ⟨_, Lib.hid rfl⟩
      rw [hX.out]
      go_wp2_with fail
      refine (amendment_any T t ss.length b A n c _ w2 HC.out (by omega) (by omega)).mono ?_
      rintro e w3 ⟨N, nd, a, rfl, hal, has, own, hc, ho⟩
      have HSA := Lib.hid has
      have hb := below1 w3 (.cells #[.int .i64 a.k, .int .i64 a.p, .int .i64 a.n, .slice N a.ws.length nd] 40)
      have HQ := Lib.hid (BoxF.new' w3 #[.int .i64 a.k, .int .i64 a.p, .int .i64 a.n, .slice N a.ws.length nd] 40 w3.heap.size rfl)
      have hwz2 := HN.out.size
      have HNO := Lib.hid (own_mono (own_alloc own (.cells #[.int .i64 a.k, .int .i64 a.p, .int .i64 a.n, .slice N a.ws.length nd] 40)) hwz2)
      replace HC := Lib.hid (hc.below hb)
      have HV0 := Lib.hid (HV.out.off ho (by omega))
      have HOQ := Lib.hid (show ∀ q, q = w3.heap.size → some q ≠ (Value.slice O ps.length oc).ownBlock from fun q hq => own_blk HV0.out.2.1 q (by omega))
      replace HV := Lib.hid (HV0.out.keep hb)
      clear HV0
      replace HT := Lib.hid (own_keep (own_off HT.out ho (Nat.le_refl _)) hb)
      replace HN := Lib.hid ((HN.out.trans ho).trans (Only.of_below hb))
      have hqz : w3.heap.size < (w3.alloc (.cells #[.int .i64 a.k, .int .i64 a.p, .int .i64 a.n, .slice N a.ws.length nd] 40)).heap.size := by simp
      have hqb : w.heap.size ≤ w3.heap.size := Nat.le_trans hwz2 ho.size
      clear has own hc ho hb
      go_upto_region 8 with fail
      generalize w3.alloc (.cells #[.int .i64 a.k, .int .i64 a.p, .int .i64 a.n, .slice N a.ws.length nd] 40) = W at *
      generalize w3.heap.size = q at *
      have y0 := HQ.out.1 0 _ rfl
      have y1 := HQ.out.1 1 _ rfl
      have y2 := HQ.out.1 2 _ rfl
      have y3 := HQ.out.1 3 _ rfl
      have HFA := Lib.hid (HSA.out.fit (by omega))
      go_wp2_with fail
      refine (l9Good_any N nd a W (Cells.of_own HNO.out) HFA.out).mono ?_
      rintro e w4 ⟨rfl, hb⟩
      clear y0 y1 y2 y3
      replace HQ := Lib.hid (HQ.out.below hb hqz)
      replace HV := Lib.hid (HV.out.keep hb)
      replace HNO := Lib.hid (own_keep HNO.out hb)
      replace HT := Lib.hid (own_keep HT.out hb)
      replace HC := Lib.hid (HC.out.below hb)
      replace HN := Lib.hid (HN.out.trans (Only.of_below hb))
      replace hqz := Nat.lt_of_lt_of_le hqz hb.size
      clear hb
      rcases Bool.eq_false_or_eq_true (vldA a) with hv | hv
      · rw [hv]
        go_wp2_with fail
        refine (l9Text_any T t ss w4 (Cells.of_own HT.out) hfs.1 hfs.2).mono ?_
        rintro e w' ⟨rfl, hw⟩
        rw [← hw]
        clear hw
        rcases Bool.eq_false_or_eq_true (wordsB ss 0 20) with hr | hr
        · rw [hr]
          have y0 := HQ.out.1 0 _ rfl
          have y1 := HQ.out.1 1 _ rfl
          have y2 := HQ.out.1 2 _ rfl
          have y3 := HQ.out.1 3 _ rfl
          go_wp2_with fail
          refine (l9Fits_any T N t nd ss a w4 (Cells.of_own HT.out) htc hfs (Cells.of_own HNO.out) HFA.out hv).mono ?_
          rintro e w5 ⟨rfl, hb⟩
          clear y0 y1 y2 y3
          replace HQ := Lib.hid (HQ.out.below hb hqz)
          replace HV := Lib.hid (HV.out.keep hb)
          replace HNO := Lib.hid (own_keep HNO.out hb)
          replace HT := Lib.hid (own_keep HT.out hb)
          replace HC := Lib.hid (HC.out.below hb)
          replace HN := Lib.hid (HN.out.trans (Only.of_below hb))
          replace hqz := Nat.lt_of_lt_of_le hqz hb.size
          clear hb
          rcases Bool.eq_false_or_eq_true (fitsB ss a) with hz | hz
          · rw [hz]
            go_upto_region 9 with fail
            have y0 := HQ.out.1 0 _ rfl
            have y1 := HQ.out.1 1 _ rfl
            have y2 := HQ.out.1 2 _ rfl
            have y3 := HQ.out.1 3 _ rfl
            clear hv hr hz
            go_wp2_with fail
            refine wp_region_noPanic ?_
            refine wp_region_held_drew (S := (fun w' => w'.cell? ⟨q, 0, none⟩ = some (.int .i64 a.k) ∧ w'.cell? ⟨q, 1, none⟩ = some (.int .i64 a.p) ∧ w'.cell? ⟨q, 2, none⟩ = some (.int .i64 a.n) ∧ w'.cell? ⟨q, 3, none⟩ = some (.slice N a.ws.length nd))) (by kernel_rfl) ?_ (fun hHeld => ?_)
            · ((try dsimp only); exact ⟨(HQ.out.drew).1 0 _ rfl, (HQ.out.drew).1 1 _ rfl, (HQ.out.drew).1 2 _ rfl, (HQ.out.drew).1 3 _ rfl⟩)
            replace HQ := Lib.hid (HQ.out.drew)
            replace HC := Lib.hid (HC.out.below ((Below.refl _ _).drew))
            replace HV := Lib.hid (HV.out.keep ((Below.refl _ _).drew))
            replace HNO := Lib.hid (World.ownsRow.drew HNO.out)
            replace HN := Lib.hid (HN.out.drew_)
            replace hqz : q < w5.drew.heap.size := hqz
            replace HT := Lib.hid (World.ownsRow.drew HT.out)
            generalize w5.drew = ud at *
            refine take_yes (i := 0) (d := 36) (v := ?_) rfl rfl (by kernel_rfl) (by kernel_rfl) (by kernel_rfl) (fun _ _ _ h => h) (by kernel_rfl) ?_ hHeld ?_
            rotate_left
            · (intro w hSw; (try dsimp only at hSw); go_simp; try (with_reducible rfl))
            try simp only [Act.put, List.setIfInBounds_toArray, List.set_cons_zero, List.set_cons_succ]
            refine take_yes (i := 1) (d := 37) (v := ?_) rfl rfl (by kernel_rfl) (by kernel_rfl) (by kernel_rfl) (fun _ _ _ h => h) (by kernel_rfl) ?_ hHeld ?_
            rotate_left
            · (intro w hSw; (try dsimp only at hSw); go_simp; try (with_reducible rfl))
            try simp only [Act.put, List.setIfInBounds_toArray, List.set_cons_zero, List.set_cons_succ]
            refine take_yes (i := 2) (d := 38) (v := ?_) rfl rfl (by kernel_rfl) (by kernel_rfl) (by kernel_rfl) (fun _ _ _ h => h) (by kernel_rfl) ?_ hHeld ?_
            rotate_left
            · (intro w hSw; (try dsimp only at hSw); go_simp; try (with_reducible rfl))
            try simp only [Act.put, List.setIfInBounds_toArray, List.set_cons_zero, List.set_cons_succ]
            refine take_yes (i := 3) (d := 39) (v := ?_) rfl rfl (by kernel_rfl) (by kernel_rfl) (by kernel_rfl) (fun _ _ _ h => h) (by kernel_rfl) ?_ hHeld ?_
            rotate_left
            · (intro w hSw; (try dsimp only at hSw); go_simp; try (with_reducible rfl))
            try simp only [Act.put, List.setIfInBounds_toArray, List.set_cons_zero, List.set_cons_succ]
            refine wpAnyH_ready (rs := [4]) (by kernel_rfl) (by simp) ?_
            refine AllReadyH.cons rfl (fun K hK => ?_) (AllReadyH.nil)
            have hb4 := below1 ud (.cells ((([1, 1, 2, 5, 100] : List Int).map (Value.int .i64)).toArray) 3)
            have HL4 := Lib.hid (lit_cellsI ud [1, 1, 2, 5, 100] 3 ud.heap.size rfl)
            have HC4 := Lib.hid (HC.out.below hb4)
            have HQ4 := Lib.hid (HQ.out.below hb4 hqz)
            have HV4 := Lib.hid (HV.out.keep hb4)
            have HNO4 := Lib.hid (own_keep HNO.out hb4)
            have HT4 := Lib.hid (own_keep HT.out hb4)
            have HN4 := Lib.hid (HN.out.trans (Only.of_below hb4))
            have hne : ud.heap.size ≠ b := by omega
            have hq4 : q < (ud.alloc (.cells ((([1, 1, 2, 5, 100] : List Int).map (Value.int .i64)).toArray) 3)).heap.size := Nat.lt_of_lt_of_le hqz hb4.size
            try go_simp
            (first | refine hK.out _ _ ?_ (fun hHeld1 => ?_) | (go_wp2_with fail; refine hK.out _ _ ?_ (fun hHeld1 => ?_)))
            · ((try dsimp only); exact ⟨HQ4.out.1 0 _ rfl, HQ4.out.1 1 _ rfl, HQ4.out.1 2 _ rfl, HQ4.out.1 3 _ rfl⟩)
            clear hK K hHeld
            have hHeld := hHeld1
            clear hHeld1
            try simp only [Act.put, List.setIfInBounds_toArray, List.set_cons_zero, List.set_cons_succ]
            clear hb4 HC HQ HV HNO HN HT hqz
            refine wpAnyH_ready (rs := [5]) (by kernel_rfl) (by simp) ?_
            refine AllReadyH.cons rfl (fun K hK => ?_) (AllReadyH.nil)
            go_simp
            (go_at_call 117; refine (among_any [1, 1, 2, 5, 100] (some ⟨ud.heap.size, 0, none⟩) 5 (by simp) (by simp) b A n c _ (ud.alloc (.cells ((([1, 1, 2, 5, 100] : List Int).map (Value.int .i64)).toArray) 3)) HC4.out (by omega) HL4.out (fun a ha => by obtain rfl := Option.some.inj ha; exact hne)).mono ?_; rintro e w6 ⟨⟨y, rfl, hy⟩, hc, ho⟩; have HC := Lib.hid hc; have HQ := Lib.hid (HQ4.out.only_ ho hq4 (by omega)); have HV := Lib.hid (HV4.out.off ho (by omega)); have HNO := Lib.hid (own_off HNO4.out ho (by omega)); have HT := Lib.hid (own_off HT4.out ho (by omega)); have HN := Lib.hid (HN4.out.trans ho); have hqz := Nat.lt_of_lt_of_le hq4 ho.size; clear hc ho hy HC4 HQ4 HV4 HNO4 HN4 HL4 HT4 hq4)
            (first | refine hK.out _ _ ?_ (fun hHeld1 => ?_) | (go_wp2_with fail; refine hK.out _ _ ?_ (fun hHeld1 => ?_)))
            · ((try dsimp only); exact ⟨HQ.out.1 0 _ rfl, HQ.out.1 1 _ rfl, HQ.out.1 2 _ rfl, HQ.out.1 3 _ rfl⟩)
            clear hK K hHeld
            have hHeld := hHeld1
            clear hHeld1
            try simp only [Act.put, List.setIfInBounds_toArray, List.set_cons_zero, List.set_cons_succ]
            refine take_yes (i := 6) (d := 42) (v := ?_) rfl rfl (by kernel_rfl) (by kernel_rfl) (by kernel_rfl) (fun _ _ _ h => h) (by kernel_rfl) ?_ hHeld ?_
            rotate_left
            · (intro w hSw; (try dsimp only at hSw); go_simp; try (with_reducible rfl))
            try simp only [Act.put, List.setIfInBounds_toArray, List.set_cons_zero, List.set_cons_succ]
            refine wpAnyH_ready (rs := [7]) (by kernel_rfl) (by simp) ?_
            refine AllReadyH.cons rfl (fun K hK => ?_) (AllReadyH.nil)
            have hb7 := below1 w6 (.cells #[.int .i64 X, .int .i64 a.k, .int .i64 a.p, .int .i64 a.n, .slice N a.ws.length nd, .int .i64 y] 65)
            have HP7 := Lib.hid (cells_arr w6 #[.int .i64 X, .int .i64 a.k, .int .i64 a.p, .int .i64 a.n, .slice N a.ws.length nd, .int .i64 y] 65 w6.heap.size rfl)
            have HC7 := Lib.hid (HC.out.below hb7)
            have HQ7 := Lib.hid (HQ.out.below hb7 hqz)
            have HV7 := Lib.hid (HV.out.keep hb7)
            have HNO7 := Lib.hid (own_keep HNO.out hb7)
            have HT7 := Lib.hid (own_keep HT.out hb7)
            have HN7 := Lib.hid (HN.out.trans (Only.of_below hb7))
            have hq7 : q < (w6.alloc (.cells #[.int .i64 X, .int .i64 a.k, .int .i64 a.p, .int .i64 a.n, .slice N a.ws.length nd, .int .i64 y] 65)).heap.size := Nat.lt_of_lt_of_le hqz hb7.size
            have hsz := HN7.out.size
            try go_simp
            (first | refine hK.out _ _ ?_ (fun hHeld1 => ?_) | (go_wp2_with fail; refine hK.out _ _ ?_ (fun hHeld1 => ?_)))
            · ((try dsimp only); exact ⟨HQ7.out.1 0 _ rfl, HQ7.out.1 1 _ rfl, HQ7.out.1 2 _ rfl, HQ7.out.1 3 _ rfl⟩)
            clear hK K hHeld
            have hHeld := hHeld1
            clear hHeld1
            try simp only [Act.put, List.setIfInBounds_toArray, List.set_cons_zero, List.set_cons_succ]
            clear hb7 HC HQ HV HNO HN HT hqz
            refine wpAnyH_ready (rs := [8]) (by kernel_rfl) (by simp) ?_
            refine AllReadyH.cons rfl (fun K hK => ?_) (AllReadyH.nil)
            refine step_append_gr elPrp _ (by rfl) _ _ (by rfl) w.heap.size O (some ⟨w6.heap.size, 0, none⟩) oc ps.length 1 1 (PrHK.row hs) [.int .i64 X, .int .i64 a.k, .int .i64 a.p, .int .i64 a.n, .slice N a.ws.length nd, .int .i64 y] (by rfl) (by rfl) rfl HV7.out.2.1 HP7.out (fun u hu => prh_one (xs := [⟨X, a.k, a.p, a.n, N, a.ws.length, nd, y⟩]) u hu) hsz (by omega) ?_
            intro O2 d2 w8 own8 hb8 hg8
            have HV8 := Lib.hid (HV7.out.snoc (q := ⟨X, a, y⟩) (d := nd) HNO7.out hg8 own8)
            have HQ8 := Lib.hid (HQ7.out.blk (hg8.block q hq7 (fun e => HOQ.out q rfl e)))
            have HB8 := Lib.hid hb8
            have HT8 := Lib.hid (HT7.out.kept hg8 (own_two HV7.out.2.1 HT7.out (by decide)))
            clear own8 hg8 hb8
            (first | refine hK.out _ _ ?_ (fun hHeld1 => ?_) | (go_wp2_with fail; refine hK.out _ _ ?_ (fun hHeld1 => ?_)))
            · ((try dsimp only); exact ⟨HQ8.out.1 0 _ rfl, HQ8.out.1 1 _ rfl, HQ8.out.1 2 _ rfl, HQ8.out.1 3 _ rfl⟩)
            clear hK K hHeld
            have hHeld := hHeld1
            clear hHeld1
            try simp only [Act.put, List.setIfInBounds_toArray, List.set_cons_zero, List.set_cons_succ]
            refine take_yes (i := 9) (d := 5) (v := ?_) rfl rfl (by kernel_rfl) (by kernel_rfl) (by kernel_rfl) (fun _ _ _ h => h) (by kernel_rfl) ?_ hHeld ?_
            rotate_left
            · (intro w hSw; (try dsimp only at hSw); go_simp; try (with_reducible rfl))
            try simp only [Act.put, List.setIfInBounds_toArray, List.set_cons_zero, List.set_cons_succ]
            refine wpAnyH_done (by kernel_rfl) ?_ _
            refine NoPanic.normal ?_
            clear hHeld
            go_wp2
            go_roundw
            case rel => exact ⟨j - 1, X, ps ++ [⟨X, a, y⟩], O2, d2, _, by go_num, rfl, by rw [List.length_append]; rfl, by simp; omega, Lib.hid (HS.out.snoc HSA.out hal), HV8, Lib.hid ((HC7.out.belowB HB0.out HB8.out (Nat.le_refl _) hlt).mono (by omega)), Lib.hid (HN7.out.of_belowB HB8.out (Nat.le_refl _)), HT8⟩
            case measure => (first | (simp [intOf]; done) | (simp [intOf]; omega))
          · rw [hz]
            clear hv hr hz
            go_wp2
            go_roundw
            case rel => exact ⟨j - 1, X, ps, O, oc, hs, by go_num, rfl, rfl, by omega, HS, HV, Lib.hid (HC.out.mono (by omega)), HN, HT⟩
            case measure => (first | (simp [intOf]; done) | (simp [intOf]; omega))
        · rw [hr]
          clear hv hr
          go_wp2
          go_roundw
          case rel => exact ⟨j - 1, X, ps, O, oc, hs, by go_num, rfl, rfl, by omega, HS, HV, Lib.hid (HC.out.mono (by omega)), HN, HT⟩
          case measure => (first | (simp [intOf]; done) | (simp [intOf]; omega))
      · rw [hv]
        clear hv
        go_wp2
        go_roundw
        case rel => exact ⟨j - 1, X, ps, O, oc, hs, by go_num, rfl, rfl, by omega, HS, HV, Lib.hid (HC.out.mono (by omega)), HN, HT⟩
        case measure => (first | (simp [intOf]; done) | (simp [intOf]; omega))
end Go.Proofs.Ytgchbimjgdoifaa
namespace Go.Proofs.Ytgchbimjgdoifaa
open Go.RowKit
set_option linter.unusedVariables false
set_option linter.unusedSimpArgs false
attribute [local go_sem ↓] Go.wp_at_zero Go.wp_at_succ
set_option maxHeartbeats 2000000 in
theorem DrawAreProposals_any (A : Option Addr) (n c : Nat) (w : World) (h : BytesC w A n) (hn : n ≤ 65536) :
    Calls Try.prog 99 #[.slice A n c] w fun e w' => ∃ (O P : Option Addr) (d pd : Nat) (ss : List ByteArray) (ps : List Prp), e = .returned (.tuple #[.slice O ss.length d, .slice P ps.length pd]) ∧ RdS w'.heap.size w' O d ss ∧ DL w' P pd ps ∧ FitP ps ∧ Below w.heap.size w w' := by
  have HC := Lib.hid (Cur.new_ (c := c) h hn 94)
  have HB := Lib.hid (below1 w (.cells #[.slice A n c, .int .i64 0, .int .u64 0] 94))
  have hz : w.heap.size < (w.alloc (.cells #[.slice A n c, .int .i64 0, .int .u64 0] 94)).heap.size := by simp
  clear h
  go_enter Try.func99, Try.ntmps99
  go_upto_region 2 with fail
  generalize w.alloc (.cells #[.slice A n c, .int .i64 0, .int .u64 0] 94) = W0 at *
  go_wp2_with fail
  refine (text_any w.heap.size A n c 0 W0 HC.out (by omega)).mono ?_
  rintro e w1 ⟨O, d, ss, rfl, hsl, hss, own, hc, ho⟩
  have HFS := Lib.hid (hss.fit (by omega))
  have HO := Lib.hid (own_mono own (show w.heap.size + 1 ≤ W0.heap.size from hz))
  replace HC := Lib.hid hc
  replace HB := Lib.hid (HB.out.trans (ho.below (Nat.le_of_lt hz)))
  replace hz := Nat.lt_of_lt_of_le hz ho.size
  clear hss own hc ho
  go_wp2_with fail
  refine (proposals_any O d ss w.heap.size A n c _ w1 HC.out (by omega) HO.out HFS.out (by omega)).mono ?_
  rintro e w2 ⟨P, pd, ps, hs, rfl, hpl, hps, hv, hc, ho⟩
  replace HO := Lib.hid (own_off HO.out ho (Nat.le_refl _))
  have HV := Lib.hid hv.dl
  have HF := Lib.hid (hps.fit (by omega))
  replace HB := Lib.hid (HB.out.trans (ho.below (Nat.le_of_lt hz)))
  clear hps hv hc ho
  go_wp2
  go_ret2
  exact ⟨O, P, d, pd, ss, ps, rfl, ⟨own_cap HO.out, CellsB.own HO.out (Under.own HO.out), HFS.out⟩, HV.out, HF.out, HB.out⟩
theorem DrawHeaviestSet_any (A : Option Addr) (n c : Nat) (w : World) (h : BytesC w A n) (hn : n ≤ 65536) :
    Calls Try.prog 54 #[.slice A n c] w fun e w' => ∃ (O P : Option Addr) (d pd : Nat) (ss : List ByteArray) (ps : List Prp), e = .returned (.tuple #[.slice O ss.length d, .slice P ps.length pd]) ∧ RdS w'.heap.size w' O d ss ∧ DL w' P pd ps ∧ FitP ps ∧ Below w.heap.size w w' := by
  have HD := Lib.hid (DrawAreProposals_any A n c w h hn)
  clear h
  go_enter Try.func54, Try.ntmps54
  go_wp2_with fail
  refine HD.out.mono ?_
  rintro e w1 ⟨O, P, d, pd, ss, ps, rfl, h1, h2, h3, hb⟩
  have H1 := Lib.hid h1
  have H2 := Lib.hid h2
  have H3 := Lib.hid h3
  have HB := Lib.hid hb
  clear h1 h2 h3 hb HD
  go_wp2
  go_ret2
  exact ⟨O, P, d, pd, ss, ps, rfl, H1.out, H2.out, H3.out, HB.out⟩
set_option maxRecDepth 100000 in
set_option maxHeartbeats 4000000 in
theorem DrawSecondaryChange_any (A : Option Addr) (n c : Nat) (w : World) (h : BytesC w A n) (hn : n ≤ 65536) :
    Calls Try.prog 61 #[.slice A n c] w fun e w' => ∃ (N M : Option Addr) (nd md : Nat) (a f : Amd), e = .returned (.tuple #[.agg #[.int .i64 a.k, .int .i64 a.p, .int .i64 a.n, .slice N a.ws.length nd], .agg #[.int .i64 f.k, .int .i64 f.p, .int .i64 f.n, .slice M f.ws.length md]]) ∧ RdS w'.heap.size w' N nd a.ws ∧ RdS w'.heap.size w' M md f.ws ∧ Below w.heap.size w w' := by
  have hb1 := below2 w (.cells #[.int .i64 0, .int .i64 0, .int .i64 0, .slice none 0 0] 40) (.cells #[.int .i64 0, .int .i64 0, .int .i64 0, .slice none 0 0] 40)
  have hbe : ((w.alloc (.cells #[.int .i64 0, .int .i64 0, .int .i64 0, .slice none 0 0] 40)).alloc (.cells #[.int .i64 0, .int .i64 0, .int .i64 0, .slice none 0 0] 40)).heap.size = w.heap.size + 2 := by simp
  have hb3 := below1 ((w.alloc (.cells #[.int .i64 0, .int .i64 0, .int .i64 0, .slice none 0 0] 40)).alloc (.cells #[.int .i64 0, .int .i64 0, .int .i64 0, .slice none 0 0] 40)) (.cells #[.slice A n c, .int .i64 0, .int .u64 0] 94)
  have H2 := Lib.hid (((BoxF.new' w #[.int .i64 0, .int .i64 0, .int .i64 0, .slice none 0 0] 40 w.heap.size rfl).below (below1 (w.alloc (.cells #[.int .i64 0, .int .i64 0, .int .i64 0, .slice none 0 0] 40)) (.cells #[.int .i64 0, .int .i64 0, .int .i64 0, .slice none 0 0] 40)) (by simp)).below hb3 (by rw [hbe]; omega))
  have H3 := Lib.hid ((BoxF.new' (w.alloc (.cells #[.int .i64 0, .int .i64 0, .int .i64 0, .slice none 0 0] 40)) #[.int .i64 0, .int .i64 0, .int .i64 0, .slice none 0 0] 40 (w.heap.size + 1) (by simp)).below hb3 (by rw [hbe]; omega))
  have HC := Lib.hid (Cur.new_ (c := c) (h.below_ hb1) hn 94)
  have HB := Lib.hid (hb1.trans (hb3.mono (by rw [hbe]; omega)))
  have hz : w.heap.size + 2 < (((w.alloc (.cells #[.int .i64 0, .int .i64 0, .int .i64 0, .slice none 0 0] 40)).alloc (.cells #[.int .i64 0, .int .i64 0, .int .i64 0, .slice none 0 0] 40)).alloc (.cells #[.slice A n c, .int .i64 0, .int .u64 0] 94)).heap.size := by simp
  rw [hbe] at HC
  clear h hb1 hb3 hbe
  go_enter Try.func61, Try.ntmps61
  go_upto_region 2 with fail
  generalize ((w.alloc (.cells #[.int .i64 0, .int .i64 0, .int .i64 0, .slice none 0 0] 40)).alloc (.cells #[.int .i64 0, .int .i64 0, .int .i64 0, .slice none 0 0] 40)).alloc (.cells #[.slice A n c, .int .i64 0, .int .u64 0] 94) = W0 at *
  go_wp2_with fail
  refine (words_any 8 (by omega) (by omega) (w.heap.size + 2) A n c 0 W0 HC.out (by omega)).mono ?_
  rintro e w1 ⟨O, d, ss, rfl, hsl, hss, own, hc, ho⟩
  replace HC := Lib.hid hc
  replace H2 := Lib.hid (H2.out.blk (ho.block _ (by omega) (.inl (by omega))))
  replace H3 := Lib.hid (H3.out.blk (ho.block _ (by omega) (.inl (by omega))))
  replace HB := Lib.hid (HB.out.trans (ho.below (by omega) |>.mono (by omega)))
  replace hz := Nat.lt_of_lt_of_le hz ho.size
  clear hss own hc ho
  go_wp2_with fail
  refine (amendment_any O d ss.length (w.heap.size + 2) A n c _ w1 HC.out (by omega) (by omega)).mono ?_
  rintro e w2 ⟨N, nd, a, rfl, hal, has, own, hc, ho⟩
  have HSA := Lib.hid has
  have hb := below1 w2 (.cells #[.int .i64 a.k, .int .i64 a.p, .int .i64 a.n, .slice N a.ws.length nd] 40)
  have hwz := ho.size
  have HQ := Lib.hid (BoxF.new' w2 #[.int .i64 a.k, .int .i64 a.p, .int .i64 a.n, .slice N a.ws.length nd] 40 w2.heap.size rfl)
  have HNO := Lib.hid (own_mono (own_alloc own (.cells #[.int .i64 a.k, .int .i64 a.p, .int .i64 a.n, .slice N a.ws.length nd] 40)) (show w.heap.size + 3 ≤ w1.heap.size from hz))
  replace H2 := Lib.hid ((H2.out.blk (ho.block _ (by omega) (.inl (by omega)))).below hb (by omega))
  replace H3 := Lib.hid ((H3.out.blk (ho.block _ (by omega) (.inl (by omega)))).below hb (by omega))
  replace HC := Lib.hid (hc.below hb)
  replace HB := Lib.hid ((HB.out.trans (ho.below (by omega) |>.mono (by omega))).trans (hb.mono (by omega)))
  have hqz : w2.heap.size < (w2.alloc (.cells #[.int .i64 a.k, .int .i64 a.p, .int .i64 a.n, .slice N a.ws.length nd] 40)).heap.size := by simp
  have hq1 : w.heap.size + 3 ≤ w2.heap.size := by omega
  clear has own hc ho hb hz hwz
  go_upto_region 3 with fail
  generalize w2.alloc (.cells #[.int .i64 a.k, .int .i64 a.p, .int .i64 a.n, .slice N a.ws.length nd] 40) = W at *
  generalize w2.heap.size = q at *
  have y0 := HQ.out.1 0 _ rfl
  have y1 := HQ.out.1 1 _ rfl
  have y2 := HQ.out.1 2 _ rfl
  have y3 := HQ.out.1 3 _ rfl
  go_wp2_with fail
  refine wp_region_noPanic ?_
  refine wp_region_held_drew (S := (fun w' => w'.cell? ⟨q, 0, none⟩ = some (.int .i64 a.k) ∧ w'.cell? ⟨q, 1, none⟩ = some (.int .i64 a.p) ∧ w'.cell? ⟨q, 2, none⟩ = some (.int .i64 a.n) ∧ w'.cell? ⟨q, 3, none⟩ = some (.slice N a.ws.length nd))) (by kernel_rfl) ?_ (fun hHeld => ?_)
  · ((try dsimp only); exact ⟨(HQ.out.drew).1 0 _ rfl, (HQ.out.drew).1 1 _ rfl, (HQ.out.drew).1 2 _ rfl, (HQ.out.drew).1 3 _ rfl⟩)
  replace HQ := Lib.hid (HQ.out.drew)
  replace HC := Lib.hid (HC.out.below ((Below.refl _ _).drew))
  replace HNO := Lib.hid (World.ownsRow.drew HNO.out)
  replace H2 := Lib.hid (H2.out.drew)
  replace H3 := Lib.hid (H3.out.drew)
  replace HB := Lib.hid (HB.out.trans ((Below.refl _ _).drew.mono HB.out.size))
  replace hqz : q < W.drew.heap.size := hqz
  have hdz : W.heap.size = W.drew.heap.size := rfl
  generalize W.drew = ud at *
  refine take_yes (i := 0) (d := 13) (v := ?_) rfl rfl (by kernel_rfl) (by kernel_rfl) (by kernel_rfl) (fun _ _ _ h => h) (by kernel_rfl) ?_ hHeld ?_
  rotate_left
  · (intro w hSw; (try dsimp only at hSw); go_simp; try (with_reducible rfl))
  try simp only [Act.put, List.setIfInBounds_toArray, List.set_cons_zero, List.set_cons_succ]
  refine take_yes (i := 1) (d := 14) (v := ?_) rfl rfl (by kernel_rfl) (by kernel_rfl) (by kernel_rfl) (fun _ _ _ h => h) (by kernel_rfl) ?_ hHeld ?_
  rotate_left
  · (intro w hSw; (try dsimp only at hSw); go_simp; try (with_reducible rfl))
  try simp only [Act.put, List.setIfInBounds_toArray, List.set_cons_zero, List.set_cons_succ]
  refine take_yes (i := 2) (d := 15) (v := ?_) rfl rfl (by kernel_rfl) (by kernel_rfl) (by kernel_rfl) (fun _ _ _ h => h) (by kernel_rfl) ?_ hHeld ?_
  rotate_left
  · (intro w hSw; (try dsimp only at hSw); go_simp; try (with_reducible rfl))
  try simp only [Act.put, List.setIfInBounds_toArray, List.set_cons_zero, List.set_cons_succ]
  refine take_yes (i := 3) (d := 16) (v := ?_) rfl rfl (by kernel_rfl) (by kernel_rfl) (by kernel_rfl) (fun _ _ _ h => h) (by kernel_rfl) ?_ hHeld ?_
  rotate_left
  · (intro w hSw; (try dsimp only at hSw); go_simp; try (with_reducible rfl))
  try simp only [Act.put, List.setIfInBounds_toArray, List.set_cons_zero, List.set_cons_succ]
  refine wpAnyH_ready (rs := [4]) (by kernel_rfl) (by simp) ?_
  refine AllReadyH.cons rfl (fun K hK => ?_) (AllReadyH.nil)
  go_simp
  (go_at_call 85; refine (amendment_any N nd a.ws.length (w.heap.size + 2) A n c _ ud HC.out (by omega) (by omega)).mono ?_; rintro e w5 ⟨M, md, f, rfl, hfl, hfs, own, hc, ho⟩; have HSF := Lib.hid hfs; replace HQ := Lib.hid (HQ.out.only_ ho hqz (by omega)); replace HNO := Lib.hid (own_off HNO.out ho (by omega)); replace H2 := Lib.hid (H2.out.blk (ho.block _ (by omega) (.inl (by omega)))); replace H3 := Lib.hid (H3.out.blk (ho.block _ (by omega) (.inl (by omega)))); have HFO := Lib.hid own; replace HB := Lib.hid (HB.out.trans (ho.below (by omega) |>.mono (by omega))); have hfz := Nat.lt_of_lt_of_le hqz ho.size; clear hfs own hc ho)
  (first | refine hK.out _ _ ?_ (fun hHeld1 => ?_) | (go_wp2_with fail; refine hK.out _ _ ?_ (fun hHeld1 => ?_)))
  · ((try dsimp only); exact ⟨HQ.out.1 0 _ rfl, HQ.out.1 1 _ rfl, HQ.out.1 2 _ rfl, HQ.out.1 3 _ rfl⟩)
  clear hK K hHeld
  have hHeld := hHeld1
  clear hHeld1
  try simp only [Act.put, List.setIfInBounds_toArray, List.set_cons_zero, List.set_cons_succ]
  have r0 := H2.out.1 0 _ rfl
  have r1 := H2.out.1 1 _ rfl
  have r2 := H2.out.1 2 _ rfl
  have r3 := H2.out.1 3 _ rfl
  have rf := H2.out.2
  refine wpAnyH_ready (rs := [5]) (by kernel_rfl) (by simp) ?_
  refine AllReadyH.cons rfl (fun K hK => ?_) (AllReadyH.nil)
  try go_simp
  have hqr : ∀ j, (⟨q, j, none⟩ : Addr).block ≠ w.heap.size := fun j => by show q ≠ w.heap.size; omega
  have KS := H2.out.set4 (.int .i64 a.k) (.int .i64 a.p) (.int .i64 a.n) (.slice N a.ws.length nd)
  (first | refine hK.out _ _ ?_ (fun hHeld1 => ?_) | (go_wp2_with fail; refine hK.out _ _ ?_ (fun hHeld1 => ?_)))
  · ((try dsimp only); exact ⟨(cell_far (hqr 0)).trans ((cell_far (hqr 0)).trans ((cell_far (hqr 0)).trans ((cell_far (hqr 0)).trans (HQ.out.1 0 _ rfl)))), (cell_far (hqr 1)).trans ((cell_far (hqr 1)).trans ((cell_far (hqr 1)).trans ((cell_far (hqr 1)).trans (HQ.out.1 1 _ rfl)))), (cell_far (hqr 2)).trans ((cell_far (hqr 2)).trans ((cell_far (hqr 2)).trans ((cell_far (hqr 2)).trans (HQ.out.1 2 _ rfl)))), (cell_far (hqr 3)).trans ((cell_far (hqr 3)).trans ((cell_far (hqr 3)).trans ((cell_far (hqr 3)).trans (HQ.out.1 3 _ rfl))))⟩)
  clear hK K hHeld
  have hHeld := hHeld1
  clear hHeld1
  try simp only [Act.put, List.setIfInBounds_toArray, List.set_cons_zero, List.set_cons_succ]
  have H2b := Lib.hid KS
  have H3b := Lib.hid ((((H3.out.setO (q := w.heap.size) (i := 0) (by omega) (.int .i64 a.k)).setO (q := w.heap.size) (i := 1) (by omega) (.int .i64 a.p)).setO (q := w.heap.size) (i := 2) (by omega) (.int .i64 a.n)).setO (q := w.heap.size) (i := 3) (by omega) (.slice N a.ws.length nd))
  have HNOb := Lib.hid (own_off HNO.out (only4 w5 w.heap.size (.int .i64 a.k) (.int .i64 a.p) (.int .i64 a.n) (.slice N a.ws.length nd)) (by omega))
  have HFOb := Lib.hid (own_off HFO.out (only4 w5 w.heap.size (.int .i64 a.k) (.int .i64 a.p) (.int .i64 a.n) (.slice N a.ws.length nd)) (by omega))
  have HBb := Lib.hid (HB.out.trans (show Below w.heap.size w5 ((((w5.setCell ⟨w.heap.size, 0, none⟩ (.int .i64 a.k)).setCell ⟨w.heap.size, 1, none⟩ (.int .i64 a.p)).setCell ⟨w.heap.size, 2, none⟩ (.int .i64 a.n)).setCell ⟨w.heap.size, 3, none⟩ (.slice N a.ws.length nd)) from (by (refine Below.setCell (Below.setCell (Below.setCell (Below.setCell (Below.refl _ _) ?_ _) ?_ _) ?_ _) ?_ _) <;> exact Nat.le_refl _)))
  have HQb := Lib.hid ((((HQ.out.setO (q := w.heap.size) (i := 0) (by omega) (.int .i64 a.k)).setO (q := w.heap.size) (i := 1) (by omega) (.int .i64 a.p)).setO (q := w.heap.size) (i := 2) (by omega) (.int .i64 a.n)).setO (q := w.heap.size) (i := 3) (by omega) (.slice N a.ws.length nd))
  clear KS r0 r1 r2 r3 rf H2 H3 HNO HFO HB HQ
  generalize ((((w5.setCell ⟨w.heap.size, 0, none⟩ (.int .i64 a.k)).setCell ⟨w.heap.size, 1, none⟩ (.int .i64 a.p)).setCell ⟨w.heap.size, 2, none⟩ (.int .i64 a.n)).setCell ⟨w.heap.size, 3, none⟩ (.slice N a.ws.length nd)) = w6 at *
  have r0 := H3b.out.1 0 _ rfl
  have r1 := H3b.out.1 1 _ rfl
  have r2 := H3b.out.1 2 _ rfl
  have r3 := H3b.out.1 3 _ rfl
  have rf := H3b.out.2
  refine wpAnyH_ready (rs := [6]) (by kernel_rfl) (by simp) ?_
  refine AllReadyH.cons rfl (fun K hK => ?_) (AllReadyH.nil)
  try go_simp
  have hqr2 : ∀ j, (⟨q, j, none⟩ : Addr).block ≠ w.heap.size + 1 := fun j => by show q ≠ w.heap.size + 1; omega
  (first | refine hK.out _ _ ?_ (fun hHeld1 => ?_) | (go_wp2_with fail; refine hK.out _ _ ?_ (fun hHeld1 => ?_)))
  · ((try dsimp only); exact ⟨(cell_far (hqr2 0)).trans ((cell_far (hqr2 0)).trans ((cell_far (hqr2 0)).trans ((cell_far (hqr2 0)).trans (HQb.out.1 0 _ rfl)))), (cell_far (hqr2 1)).trans ((cell_far (hqr2 1)).trans ((cell_far (hqr2 1)).trans ((cell_far (hqr2 1)).trans (HQb.out.1 1 _ rfl)))), (cell_far (hqr2 2)).trans ((cell_far (hqr2 2)).trans ((cell_far (hqr2 2)).trans ((cell_far (hqr2 2)).trans (HQb.out.1 2 _ rfl)))), (cell_far (hqr2 3)).trans ((cell_far (hqr2 3)).trans ((cell_far (hqr2 3)).trans ((cell_far (hqr2 3)).trans (HQb.out.1 3 _ rfl))))⟩)
  clear hK K hHeld
  have hHeld := hHeld1
  clear hHeld1
  try simp only [Act.put, List.setIfInBounds_toArray, List.set_cons_zero, List.set_cons_succ]
  refine wpAnyH_done (by kernel_rfl) ?_ _
  refine NoPanic.normal ?_
  clear hHeld
  go_wp2
  have KS := H3b.out.set4 (.int .i64 f.k) (.int .i64 f.p) (.int .i64 f.n) (.slice M f.ws.length md)
  have K2 := (((H2b.out.setO (q := w.heap.size + 1) (i := 0) (by omega) (.int .i64 f.k)).setO (q := w.heap.size + 1) (i := 1) (by omega) (.int .i64 f.p)).setO (q := w.heap.size + 1) (i := 2) (by omega) (.int .i64 f.n)).setO (q := w.heap.size + 1) (i := 3) (by omega) (.slice M f.ws.length md)
  have k0 := KS.1 0 _ rfl
  have k1 := KS.1 1 _ rfl
  have k2 := KS.1 2 _ rfl
  have k3 := KS.1 3 _ rfl
  have l0 := K2.1 0 _ rfl
  have l1 := K2.1 1 _ rfl
  have l2 := K2.1 2 _ rfl
  have l3 := K2.1 3 _ rfl
  refine bodyPost_ret (v := .tuple #[.agg #[.int .i64 a.k, .int .i64 a.p, .int .i64 a.n, .slice N a.ws.length nd], .agg #[.int .i64 f.k, .int .i64 f.p, .int .i64 f.n, .slice M f.ws.length md]]) (by simp [results, Try.results61, go_sem, k0, k1, k2, k3, l0, l1, l2, l3]) rfl ?_
  have o1 := own_off HNOb.out (only4 w6 (w.heap.size + 1) (.int .i64 f.k) (.int .i64 f.p) (.int .i64 f.n) (.slice M f.ws.length md)) (by omega)
  have o2 := own_off HFOb.out (only4 w6 (w.heap.size + 1) (.int .i64 f.k) (.int .i64 f.p) (.int .i64 f.n) (.slice M f.ws.length md)) (by omega)
  have hst : Below w.heap.size w6 ((((w6.setCell ⟨w.heap.size + 1, 0, none⟩ (.int .i64 f.k)).setCell ⟨w.heap.size + 1, 1, none⟩ (.int .i64 f.p)).setCell ⟨w.heap.size + 1, 2, none⟩ (.int .i64 f.n)).setCell ⟨w.heap.size + 1, 3, none⟩ (.slice M f.ws.length md)) := by (refine Below.setCell (Below.setCell (Below.setCell (Below.setCell (Below.refl _ _) ?_ _) ?_ _) ?_ _) ?_ _) <;> exact Nat.le_succ _
  exact ⟨N, M, nd, md, a, f, rfl, ⟨own_cap o1, CellsB.own o1 (Under.own o1), HSA.out.fit (by omega)⟩, ⟨own_cap o2, CellsB.own o2 (Under.own o2), HSF.out.fit (by omega)⟩, HBb.out.trans hst⟩
end Go.Proofs.Ytgchbimjgdoifaa
