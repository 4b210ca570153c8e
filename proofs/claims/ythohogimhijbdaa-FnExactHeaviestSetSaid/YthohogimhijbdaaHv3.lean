/- HeaviestSet in the program. Conditions: the ranges named. -/
import Derived.Test.YthohogimhijbdaaHv2
import Derived.Test.YthohogimhijbdaaFp2
namespace Go.Proofs.Ythohogimhijbdaa
open Go.RowKit
set_option linter.unusedVariables false
set_option linter.unusedSimpArgs false
theorem infoPrp : (Try.prog.info? 55).map (fun i => (i.zero, i.size, i.bytes)) = some (some (.agg #[.int .i64 0, .int .i64 0, .int .i64 0, .int .i64 0, .slice none 0 0, .int .i64 0]), 6, 64) := by kernel_rfl
theorem elPrp : ElT Try.prog 28 55 6 64 := ElT.mk' Try.underlying28 infoPrp rfl (by omega) (by omega)
theorem prh_one {xs : List PrH} : ∀ u ∈ PrHK.row xs, u.oneCell' = true := fun u hu => by
  obtain ⟨x, _, hx⟩ := List.mem_flatMap.1 hu
  have hx' : u ∈ [Value.int .i64 x.i, .int .i64 x.k, .int .i64 x.p, .int .i64 x.n, .slice x.B x.l x.d, .int .i64 x.t] := hx
  simp at hx'
  rcases hx' with rfl | rfl | rfl | rfl | rfl | rfl <;> rfl
theorem cells_arr (w : World) (vs : Array Value) (t : TypeId) (g : Nat) (hg : g = w.heap.size) : Cells (w.alloc (.cells vs t)) (some ⟨g, 0, none⟩) vs.toList := by
  subst hg
  intro i u hi
  refine ⟨_, rfl, ?_⟩
  rw [add_head, cell_of_row _ _ i vs t (0, 0) (heap_alloc_new w _)]
  simpa using hi
theorem list_append_gr {P : Program} {T E : TypeId} {size bytes : Nat} (el : ElT P T E size bytes) (w : World) {ops : Array Oper} {rest : List Oper} {o : Oper} {a : Act} {Q : Exit → Act → World → Prop} (hgd : o.guard = none) (s x : Operand)
    (ho : o.op = .call { callee := .builtin .append, args := #[s, x], argTypes := #[T, T] }) (base : Nat) (O A : Option Addr) (oc n m c : Nat) (xs news : List Value) (hs : a.eval s = .slice O n oc) (hx : a.eval x = .slice A m c) (hl : news.length = m * size) (hown : w.ownsRow base E size (.slice O n oc) n xs) (hc : Cells w A news) (h1 : ∀ u ∈ news, u.oneCell' = true) (hb : base ≤ w.heap.size) (h63 : n + m ≤ 1100000)
    (h : ∀ (O' : Option Addr) (d : Nat) (w' : World), w'.ownsRow base E size (.slice O' (n + m) d) (n + m) (xs ++ news) → Below base w w' → w.grownBy w' (Value.slice O n oc).ownBlock → wpList P ops Q rest (a.put o.dst (.slice O' (n + m) d)) w') :
    wpList P ops Q (o :: rest) a w := by
  obtain ⟨O', d, w', hrun, g1, g2, g3⟩ := append_own el w o.type base O A oc n m c xs news hown hl hc h1 hb h63
  exact Lib.wpList_append_run w hgd s x _ _ ho _ _ hs hx _ _ hrun (h O' d w' g1 g2 g3)
/-- The headers of those that were picked. -/
def PickR (w wr : World) (b : Nat) (O : Option Addr) (oc : Nat) (q : List Prp) (hs : List PrH) : Prop := hs.length = q.length ∧ wr.ownsRow b 55 6 (.slice O q.length oc) q.length (PrHK.row hs) ∧ ∀ i (h1 : i < hs.length) (h2 : i < q.length), Bears w hs[i] q[i]
theorem pow_wrap {n : Nat} (h : n ≤ 8) : wrap64 ((2 : Int) ^ n) = ((2 ^ n : Nat) : Int) := by
  have h1 : (2 : Nat) ^ n ≤ 256 := Nat.pow_le_pow_right (n := 2) (by omega) h
  have h2 : (2 : Int) ^ n = ((2 ^ n : Nat) : Int) := by push_cast; rfl
  rw [h2]
  generalize (2 : Nat) ^ n = M at *
  unfold wrap64
  omega
theorem and1_i64 (n : Nat) (h : n ≤ 1000) : bits BinOp.and IntKind.i64 (n : Int) 1 = ((n % 2 : Nat) : Int) := by
  have h1 : (BitVec.ofInt 64 (n : Int)).toNat = n := by
    rw [BitVec.ofInt_natCast, BitVec.toNat_ofNat]; exact Nat.mod_eq_of_lt (by omega)
  have h2 : (BitVec.ofInt 64 (1 : Int)).toNat = 1 := by decide
  show IntKind.i64.wrap ((BitVec.ofInt 64 (n : Int) &&& BitVec.ofInt 64 (1 : Int)).toNat : Int) = _
  rw [BitVec.toNat_and, h1, h2, Nat.and_one_is_mod, IntKind.wrap_i64]
  omega
theorem bit_eq (s k : Nat) (h : s ≤ 1000) : (bits BinOp.and IntKind.i64 ((s : Int) / 2 ^ k) 1 == 1) = bitB s k := by
  have h1 : ((s : Int) / 2 ^ k) = ((s / 2 ^ k : Nat) : Int) := by push_cast; rfl
  have h2 : s / 2 ^ k ≤ 1000 := Nat.le_trans (Nat.div_le_self _ _) h
  rw [h1, and1_i64 _ h2]
  unfold bitB
  generalize s / 2 ^ k % 2 = m
  rw [Bool.eq_iff_iff]
  simp only [beq_iff_eq]
  omega
set_option maxHeartbeats 4000000 in
set_option maxRecDepth 100000 in
theorem HeaviestSet_any (T A : Option Addr) (t c : Nat) (ss : List ByteArray) (ps : List Prp) (w : World) (hT : Cells w T (strs ss)) (htc : ss.length ≤ t) (hfs : Fit ss) (hd : DL w A c ps) (hf : FitP ps) :
    Calls Try.prog 32 #[.slice T ss.length t, .slice A ps.length c] w fun e w' => ∃ (P : Option Addr) (pc : Nat), e = .returned (.tuple #[.slice P (heavR ss ps).1.length pc, .int .i64 (heavR ss ps).2, .bool (propB ss ps)]) ∧ Ow IntK 3 w.heap.size w'.heap.size w' P pc (heavR ss ps).1 ∧ Below w.heap.size w w' := by
  have HV := Lib.hid (AreProposals_any T A t c ss ps w hT htc hfs hd hf)
  have HD := Lib.hid hd
  have HF := Lib.hid hf
  clear hT hd hf hfs
  go_enter Try.func32, Try.ntmps32
  go_wp2_with fail
  refine HV.out.mono ?_
  rintro e w1 ⟨rfl, hb⟩
  have HB := Lib.hid hb
  clear hb HV
  rcases Bool.eq_false_or_eq_true (propB ss ps) with hr | hr
  · have HR := Lib.hid (show heavR ss ps = heavK ps (2 ^ ps.length) by unfold heavR; rw [hr]; rfl)
    rw [hr]
    have HG := Lib.hid (Good8.of hr)
    have HWT := Lib.hid (weight_of hr)
    have h8 := HG.out.few
    have hpw := pow_wrap h8
    obtain ⟨N, hN⟩ : ∃ N, Hid (2 ^ ps.length = N) := ⟨_, Lib.hid rfl⟩
    have hN2 : N ≤ 256 := by rw [← hN.out]; exact Nat.pow_le_pow_right (n := 2) (by omega) h8
    rw [hN.out] at hpw
    have HZ := Lib.hid (own_nil_lit w1 w.heap.size w1.heap.size 3 1 rfl HB.out.size)
    have HZB := Lib.hid (HB.out.trans ((below1 w1 (.cells #[] 3)).mono HB.out.size))
    go_wp2_with fail
    generalize w1.alloc (.cells #[] 3) = W0 at *
    rw [hpw]
    go_loopw [7, 8, 23] (fun u mo i wr => ∃ s : Nat, s ≤ N ∧ i = .int .i64 s ∧ ∃ (bs : List Int) (m : Int) (P : Option Addr) (pc : Nat), Hid (heavK ps s = (bs, m)) ∧ mo = .int .i64 m ∧ u = .slice P bs.length pc ∧ Hid (wr.ownsRow w.heap.size 3 1 (.slice P bs.length pc) bs.length (IntK.row bs)) ∧ Below w.heap.size w wr) (fun _ _ i _ => N - (intOf i).toNat)
    case atStart => exact ⟨0, Nat.zero_le _, rfl, [], 0, _, _, Lib.hid rfl, rfl, rfl, HZ, HZB.out⟩
    case round =>
      clear HZ HZB
      obtain ⟨w3, hw3⟩ : ∃ x : World, x = wr := ⟨_, rfl⟩
      subst hw3
      obtain ⟨s, hs, rfl, bs, mo, Pb, pbc, HBS, rfl, rfl, HPB, hB⟩ := hrel
      have HB3 := Lib.hid hB
      clear hB
      by_cases hlt : s < N
      · have i1 : (s : Int) < (N : Int) := by omega
        have HLB := Lib.hid (heavK_len ps s)
        have HSB := Lib.hid (heavK_sum HWT.out h8 s)
        rw [HBS.out] at HLB HSB
        have HO0 : Hid (PickR w ((w3.alloc (.cells #[] 55)).alloc (.cells #[] 3)) w3.heap.size (some ⟨w3.heap.size, 0, none⟩) 0 [] []) := Lib.hid ⟨rfl, own_keep (own_nil_lit w3 w3.heap.size w3.heap.size 55 6 rfl (Nat.le_refl _)) (below1 _ _), fun i h1 h2 => by simp at h1⟩
        have HI0 := Lib.hid (own_nil_lit (w3.alloc (.cells #[] 55)) w3.heap.size (w3.heap.size + 1) 3 1 (by simp) (by simp))
        have HBX0 := Lib.hid (below2 w3 (.cells #[] 55) (.cells #[] 3))
        go_wp2_with fail
        generalize (w3.alloc (.cells #[] 55)).alloc (.cells #[] 3) = W1 at *
        go_loopw [10, 11, 12, 30] (fun u v su i wr => ∃ k : Nat, k ≤ ps.length ∧ i = .int .i64 k ∧ ∃ (q : List Prp) (hs : List PrH) (O : Option Addr) (oc : Nat) (P : Option Addr) (pc : Nat), Hid (q = pickL ps s k) ∧ u = .slice O q.length oc ∧ v = .slice P q.length pc ∧ su = .int .i64 (sumT q) ∧ Hid (PickR w wr w3.heap.size O oc q hs) ∧ Hid (wr.ownsRow w3.heap.size 3 1 (.slice P q.length pc) q.length (IntK.row (idsL q))) ∧ Below w3.heap.size w3 wr) (fun _ _ _ i _ => ps.length - (intOf i).toNat)
        case atStart => exact ⟨0, Nat.zero_le _, rfl, [], [], _, _, _, _, Lib.hid rfl, rfl, rfl, rfl, HO0, HI0, HBX0.out⟩
        case round =>
          clear HO0 HI0 HBX0
          obtain ⟨w4, hw4⟩ : ∃ x : World, x = wr := ⟨_, rfl⟩
          subst hw4
          obtain ⟨k, hk, rfl, q, hs, O, oc, P, pc, HQ, rfl, rfl, rfl, HO, HI, hB⟩ := hrel
          have HB4 := Lib.hid hB
          clear hB
          by_cases hlk : k < ps.length
          · obtain ⟨a, B, d, rfl, ⟨hc0, hc1, hc2, hc3, hc4, hc5⟩, hle, hcw⟩ := HD.out.at_ hlk
            have HBW := Lib.hid (HB3.out.trans (HB4.out.mono HB3.out.size))
            have i2 : (k : Int) < (ps.length : Int) := by omega
            obtain ⟨p, hp⟩ : ∃ p, Hid (ps[k] = p) := ⟨_, Lib.hid rfl⟩
            have HPW := Lib.hid (HWT.out _ (List.getElem_mem hlk))
            rw [hp.out] at hc0 hc1 hc2 hc3 hc4 hc5 hle hcw HPW
            have HBR := Lib.hid (show Bears w ⟨p.i, p.a.k, p.a.p, p.a.n, B, p.a.ws.length, d, p.t⟩ p from ⟨⟨rfl, rfl, rfl, rfl, rfl, rfl⟩, hle, hcw⟩)
            have e0 := (HBW.out.cell (World.block_lt_of_cell? _ _ hc0)).trans hc0
            have e1 := (HBW.out.cell (World.block_lt_of_cell? _ _ hc1)).trans hc1
            have e2 := (HBW.out.cell (World.block_lt_of_cell? _ _ hc2)).trans hc2
            have e3 := (HBW.out.cell (World.block_lt_of_cell? _ _ hc3)).trans hc3
            have e4 := (HBW.out.cell (World.block_lt_of_cell? _ _ hc4)).trans hc4
            have e5 := (HBW.out.cell (World.block_lt_of_cell? _ _ hc5)).trans hc5
            have HPY := Lib.hid (fun h => pick_yes (s := s) hlk hp.out h)
            have HPN := Lib.hid (fun h => pick_no (ps := ps) (s := s) (k := k) h)
            have HBX := Lib.hid (below1 w4 (.cells #[.int .i64 p.i, .int .i64 p.a.k, .int .i64 p.a.p, .int .i64 p.a.n, .slice B p.a.ws.length d, .int .i64 p.t] 55))
            have HNB := Lib.hid (show BoxF (w4.alloc (.cells #[.int .i64 p.i, .int .i64 p.a.k, .int .i64 p.a.p, .int .i64 p.a.n, .slice B p.a.ws.length d, .int .i64 p.t] 55)) w4.heap.size [.int .i64 p.i, .int .i64 p.a.k, .int .i64 p.a.p, .int .i64 p.a.n, .slice B p.a.ws.length d, .int .i64 p.t] from BoxF.new' w4 _ _ _ rfl)
            have hws : w4.heap.size < (w4.alloc (.cells #[.int .i64 p.i, .int .i64 p.a.k, .int .i64 p.a.p, .int .i64 p.a.n, .slice B p.a.ws.length d, .int .i64 p.t] 55)).heap.size := by simp
            clear hc0 hc1 hc2 hc3 hc4 hc5 hle hcw
            go_upto_region 11 with fail
            generalize w4.alloc (.cells #[.int .i64 p.i, .int .i64 p.a.k, .int .i64 p.a.p, .int .i64 p.a.n, .slice B p.a.ws.length d, .int .i64 p.t] 55) = W at *
            clear e0 e1 e2 e3 e4 e5
            have b0 := HNB.out.1 0 _ rfl
            have b1 := HNB.out.1 1 _ rfl
            have b2 := HNB.out.1 2 _ rfl
            have b3 := HNB.out.1 3 _ rfl
            have b4 := HNB.out.1 4 _ rfl
            have b5 := HNB.out.1 5 _ rfl
            have hbit := bit_eq s k (by omega)
            have hql : q.length ≤ 8 := by rw [HQ.out]; have := pick_len ps s k; omega
            have HSQ := sumT_range (ps := q) (fun x hx => HWT.out x (pick_mem hk (by rw [← HQ.out]; exact hx)))
            have hs0 := HSQ.1
            have hs1 : sumT q ≤ 800 := by have := HSQ.2; omega
            clear HSQ
            rcases Bool.eq_false_or_eq_true (bitB s k) with hb | hb
            · have HQY := Lib.hid (show q ++ [p] = pickL ps s (k + 1) by rw [HPY.out hb, ← HQ.out])
              rw [hb] at hbit
              obtain ⟨S, hS⟩ : ∃ S, Hid (sumT q = S) := ⟨_, Lib.hid rfl⟩
              rw [hS.out] at hs0 hs1 ⊢
              obtain ⟨hw1, hw2⟩ := HPW.out
              have HOW := Lib.hid (show PickR w W w3.heap.size O oc q hs from ⟨HO.out.1, own_keep HO.out.2.1 HBX.out, HO.out.2.2⟩)
              have HIW := Lib.hid (own_keep HI.out HBX.out)
              have HB5 := Lib.hid (HB4.out.trans (HBX.out.mono HB4.out.size))
              have hgO : (Value.slice O q.length oc).ownBlock ≠ some w4.heap.size := fun e => by have := (HO.out.2.1.lt _ e).2; omega
              have hgI : (Value.slice P q.length pc).ownBlock ≠ some w4.heap.size := fun e => by have := (HI.out.lt _ e).2; omega
              have HGO := Lib.hid hgO
              have HGI := Lib.hid hgI
              clear hb HPY HPN hgO hgI HO HI HB4
              go_upto_region 12 with fail
              go_upto_region 13 with (at_builtin; go_must (refine list_append_gr elPrp _ rfl _ _ rfl w3.heap.size O _ oc q.length 1 1 (PrHK.row hs) [.int .i64 p.i, .int .i64 p.a.k, .int .i64 p.a.p, .int .i64 p.a.n, .slice B p.a.ws.length d, .int .i64 p.t] rfl rfl rfl (own_keep HOW.out.2.1 (below1 W _)) (cells_arr _ #[.int .i64 p.i, .int .i64 p.a.k, .int .i64 p.a.p, .int .i64 p.a.n, .slice B p.a.ws.length d, .int .i64 p.t] _ _ rfl) (fun u hu => prh_one (xs := [⟨p.i, p.a.k, p.a.p, p.a.n, B, p.a.ws.length, d, p.t⟩]) u hu) (by have := HB5.out.size; simp; omega) (by omega) ?_); intro O2 oc2 w5 o2 b2' g2; have HO5 := Lib.hid o2; have HB6 := Lib.hid (HB5.out.trans (((below1 W _).mono HB5.out.size).trans b2')); have HI5 := Lib.hid ((own_keep HIW.out (below1 W _)).kept g2 (own_two (own_keep HOW.out.2.1 (below1 W (.cells #[.int .i64 p.i, .int .i64 p.a.k, .int .i64 p.a.p, .int .i64 p.a.n, .slice B p.a.ws.length d, .int .i64 p.t] 55))) (own_keep HIW.out (below1 W _)) (by decide))); have HN5 := Lib.hid ((HNB.out.below (below1 W _) hws).block (g2.block w4.heap.size (by simp; omega) (fun e => HGO.out e.symm))); have hz5 := Lib.hid g2.size; clear o2 b2' g2 b0 b1 b2 b3 b4 b5)
              have hz6 := hz5.out
              have n0 := HN5.out.1 0 _ rfl
              have hwl : w4.heap.size < w5.heap.size := by simp at hz6; omega
              go_upto_region 14 with (at_builtin; go_must (refine list_append_gr elInt _ rfl _ _ rfl w3.heap.size P _ pc q.length 1 1 (IntK.row (idsL q)) (IntK.row [p.i]) rfl rfl rfl (own_keep HI5.out (below1 w5 _)) (cells_arr _ #[.int .i64 p.i] _ _ rfl) int_one (by have := HB6.out.size; simp; omega) (by omega) ?_); intro P2 pc2 w6 o2 b2' g2; have HI6 := Lib.hid o2; have HB7 := Lib.hid (HB6.out.trans (((below1 w5 _).mono HB6.out.size).trans b2')); have HO6 := Lib.hid ((own_keep HO5.out (below1 w5 _)).kept g2 (own_two (own_keep HI5.out (below1 w5 (.cells #[.int .i64 p.i] 3))) (own_keep HO5.out (below1 w5 _)) (by decide))); have HN6 := Lib.hid ((HN5.out.below (below1 w5 _) hwl).block (g2.block w4.heap.size (by simp; omega) (fun e => HGI.out e.symm))); clear o2 b2' g2 n0)
              have n5 := HN6.out.1 5 _ rfl
              have HPR : Hid (PickR w w6 w3.heap.size O2 oc2 (q ++ [p]) (hs ++ [⟨p.i, p.a.k, p.a.p, p.a.n, B, p.a.ws.length, d, p.t⟩])) := by
                refine Lib.hid ⟨by rw [List.length_append, List.length_append, HOW.out.1]; rfl, ?_, fun i h1 h2 => ?_⟩
                · rw [List.length_append, PrHK.row_append]
                  exact HO6.out
                · rcases Nat.lt_or_ge i hs.length with h3 | h3
                  · rw [List.getElem_append_left h3, List.getElem_append_left (by rw [← HOW.out.1]; exact h3)]
                    exact HOW.out.2.2 i h3 (by rw [← HOW.out.1]; exact h3)
                  · have h4 : i = hs.length := by simp at h1; omega
                    subst h4
                    rw [List.getElem_append_right (Nat.le_refl _), List.getElem_append_right (by rw [HOW.out.1]; exact Nat.le_refl _)]
                    simpa using HBR.out
              have HII : Hid (w6.ownsRow w3.heap.size 3 1 (.slice P2 (q ++ [p]).length pc2) (q ++ [p]).length (IntK.row (idsL (q ++ [p])))) := Lib.hid (by rw [List.length_append, idsL_snoc, IntK.row_append]; exact HI6.out)
              go_wp2
              go_roundw
              case rel => exact ⟨k + 1, hlk, by go_num, q ++ [p], _, O2, oc2, P2, pc2, HQY, by rw [List.length_append]; rfl, by rw [List.length_append]; rfl, by rw [sumT_snoc, hS.out], HPR, HII, HB7.out⟩
              case measure => simp [intOf]; omega
            · have HQN := Lib.hid (show q = pickL ps s (k + 1) by rw [HPN.out hb, ← HQ.out])
              rw [hb] at hbit
              have HOW := Lib.hid (show PickR w W w3.heap.size O oc q hs from ⟨HO.out.1, own_keep HO.out.2.1 HBX.out, HO.out.2.2⟩)
              have HIW := Lib.hid (own_keep HI.out HBX.out)
              have HB5 := Lib.hid (HB4.out.trans (HBX.out.mono HB4.out.size))
              clear hb HPY HPN
              go_wp2
              go_roundw
              case rel => exact ⟨k + 1, hlk, by go_num, q, hs, O, oc, P, pc, HQN, rfl, rfl, rfl, HOW, HIW, HB5.out⟩
              case measure => simp [intOf]; omega
          · obtain rfl : k = ps.length := by omega
            have HGQ := Lib.hid (show Good8 q by rw [HQ.out]; exact HG.out.pick (Nat.le_refl _))
            have HFQ := Lib.hid (show FitP q by rw [HQ.out]; exact HF.out.pick HG.out (Nat.le_refl _))
            have hql := HGQ.out.few
            have HBW := Lib.hid (HB3.out.trans (HB4.out.mono HB3.out.size))
            have HDQ := Lib.hid (show DL w4 O oc q from ⟨own_cap HO.out.2.1, hs, HO.out.1, Cells.of_own HO.out.2.1, fun i h1 h2 => (HO.out.2.2 i h1 h2).below (HBW.out.mono (Nat.le_refl _))⟩)
            have HPB4 := Lib.hid (own_under HPB.out (Under.own HPB.out) HB4.out (Nat.le_refl _))
            clear HO
            go_upto_region 16 with fail
            go_wp2_with fail
            refine (conflictPairs_any O oc q w4 HDQ.out HFQ.out HGQ.out).mono ?_
            rintro e w5 ⟨Oc, occ, rfl, ownc, hb5⟩
            have hln := ownc.2.2.1
            have HI5 := Lib.hid (own_keep HI.out hb5)
            have HPB5 := Lib.hid (own_keep HPB4.out hb5)
            have HB5 := Lib.hid (HBW.out.trans (hb5.mono HBW.out.size))
            clear ownc hb5 HI HPB4
            have HNE := Lib.hid (noneB_eq (ps := q))
            obtain ⟨L, hL⟩ : ∃ L, Hid ((prs q q.length).length = L) := ⟨_, Lib.hid rfl⟩
            rw [hL.out] at HNE hln ⊢
            rcases Bool.eq_false_or_eq_true (noneB q q.length) with hn | hn
            · have hL0 : L = 0 := by
                have := HNE.out
                rw [hn] at this
                simp only [Bool.not_true, decide_eq_false_iff_not] at this
                omega
              subst hL0
              obtain ⟨c1, hc1⟩ : ∃ c, Hid (cmpI mo (sumT q) = c) := ⟨_, Lib.hid rfl⟩
              obtain ⟨c2, hc2⟩ : ∃ c, Hid (cmpI (q.length : Int) (bs.length : Int) = c) := ⟨_, Lib.hid rfl⟩
              obtain ⟨c3, hc3⟩ : ∃ c, Hid (cmpL (idsL q) bs = c) := ⟨_, Lib.hid rfl⟩
              have HBE := Lib.hid (show beats (idsL q) bs (sumT q) mo = decide (orL [c1, c2, c3] < 0) by unfold beats; rw [hc1.out, idsL_len, hc2.out, hc3.out, orL_three])
              have hblen : bs.length ≤ 8 := Nat.le_trans HLB.out h8
              have HK1 := Lib.hid (fun W : World => show Calls Try.prog 51 #[.int .i64 mo, .int .i64 (sumT q)] W fun e w' => e = .returned (.int .i64 c1) ∧ W = w' from by have := compare_any mo (sumT q) W; rw [hc1.out] at this; exact this)
              have HK2 := Lib.hid (fun W : World => show Calls Try.prog 51 #[.int .i64 (q.length : Int), .int .i64 (bs.length : Int)] W fun e w' => e = .returned (.int .i64 c2) ∧ W = w' from by have := compare_any (q.length : Int) (bs.length : Int) W; rw [hc2.out] at this; exact this)
              have HK3 := Lib.hid (show Calls Try.prog 52 #[.slice P q.length pc, .slice Pb bs.length pbc] w5 fun e w' => e = .returned (.int .i64 c3) ∧ w5 = w' from by have := compareL_any P Pb q.length pc bs.length pbc (idsL q) bs w5 (idsL_len q).symm rfl (Cells.of_own HI5.out) (Cells.of_own HPB5.out) (by rw [idsL_len]; omega) (by omega); rw [hc3.out] at this; exact this)
              have HCZ := Lib.hid (cells_arr w5 #[.int .i64 c1, .int .i64 c2, .int .i64 c3] 3 w5.heap.size rfl)
              have HBZ := Lib.hid (below1 w5 (.cells #[.int .i64 c1, .int .i64 c2, .int .i64 c3] 3))
              obtain ⟨rr, hrr⟩ : ∃ r, Hid (orL [c1, c2, c3] = r) := ⟨_, Lib.hid rfl⟩
              have HK4 := Lib.hid (fun (W : World) (hW : Cells W (some ⟨w5.heap.size, 0, none⟩) (IntK.row [c1, c2, c3])) (cc : Nat) => show Calls Try.prog 50 #[.slice (some ⟨w5.heap.size, 0, none⟩) 3 cc] W fun e w' => e = .returned (.int .i64 rr) ∧ W = w' from by have := or_any (some ⟨w5.heap.size, 0, none⟩) 3 cc [c1, c2, c3] W rfl hW (by simp); rw [hrr.out] at this; exact this)
              rw [hrr.out] at HBE
              have HST := Lib.hid (show heavK ps (s + 1) = stepH ps (bs, mo) s by rw [heavK, HBS.out])
              clear hln HGQ HFQ HDQ
              go_wp2_with fail
              refine (HK1.out _).mono ?_
              rintro e w9 ⟨rfl, rfl⟩
              go_wp2_with fail
              refine (HK2.out _).mono ?_
              rintro e w9 ⟨rfl, rfl⟩
              go_wp2_with fail
              refine HK3.out.mono ?_
              rintro e w9 ⟨rfl, rfl⟩
              go_wp2_with fail
              refine (HK4.out _ HCZ.out _).mono ?_
              rintro e w9 ⟨rfl, rfl⟩
              have HI7 := Lib.hid (own_mono (own_keep HI5.out HBZ.out) HB3.out.size)
              have HPB7 := Lib.hid (own_keep HPB5.out HBZ.out)
              have HB7 := Lib.hid (HB5.out.trans (HBZ.out.mono HB5.out.size))
              by_cases hrl : rr < 0
              · have HST2 := Lib.hid (show heavK ps (s + 1) = (idsL q, sumT q) by rw [HST.out, stepH_yes (by rw [← HQ.out]; exact hn) (by rw [← HQ.out]; exact HBE.out.trans (decide_eq_true hrl)), ← HQ.out])
                go_wp2
                go_roundw
                case rel => exact ⟨s + 1, hlt, by go_num, idsL q, sumT q, P, pc, HST2, rfl, by rw [idsL_len], by rw [idsL_len]; exact HI7, HB7.out⟩
                case measure => simp [intOf]; omega
              · have HST2 := Lib.hid (show heavK ps (s + 1) = (bs, mo) by rw [HST.out, stepH_less (by rw [← HQ.out]; exact HBE.out.trans (decide_eq_false hrl))])
                go_wp2
                go_roundw
                case rel => exact ⟨s + 1, hlt, by go_num, bs, mo, Pb, pbc, HST2, rfl, rfl, HPB7, HB7.out⟩
                case measure => simp [intOf]; omega
            · have hL1 : 0 < (L : Int) := by
                have := HNE.out
                rw [hn] at this
                simpa using this
              have HST := Lib.hid (show heavK ps (s + 1) = (bs, mo) by rw [heavK, HBS.out]; exact stepH_no (by rw [← HQ.out]; exact hn))
              go_wp2
              go_roundw
              case rel => exact ⟨s + 1, hlt, by go_num, bs, mo, Pb, pbc, HST, rfl, rfl, HPB5, HB5.out⟩
              case measure => simp [intOf]; omega
      · obtain rfl : s = N := by omega
        have HLB := Lib.hid (heavK_len ps s)
        rw [HBS.out] at HLB
        have HFIN := Lib.hid (show heavR ss ps = (bs, mo) by rw [HR.out, hN.out, HBS.out])
        go_wp2
        go_ret3
        exact ⟨Pb, pbc, by rw [HFIN.out]; rfl, by rw [HFIN.out]; exact Ow.mk HPB.out (show bs.length ≤ 1048576 by have := HLB.out; omega) (fun _ _ => trivial), HB3.out⟩
  · have HR := Lib.hid (show heavR ss ps = ([], 0) by unfold heavR; rw [hr]; rfl)
    rw [hr]
    go_wp2
    go_ret3
    exact ⟨none, 0, by rw [HR.out, hr]; rfl, by rw [HR.out]; exact ow_nil, HB.out⟩
end Go.Proofs.Ythohogimhijbdaa
