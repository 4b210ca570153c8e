/- A text cut at a byte, and numbers read, in the program. Conditions: what Cx names, the ranges named. -/
import Derived.Test.YtajfbiihlfccnaaDoorPt3
import Derived.Lib.SmallJoins
import Derived.Lib.SplitLaws
namespace Go.Proofs.YtajfbiihlfccnaaDoor
open Go.RowKit
set_option linter.unusedVariables false
set_option linter.unusedSimpArgs false
/-- What the library reads of its own variables. -/
structure Cx (w : World) : Prop where
  tab : Tab w
  mx : ∃ m : Int, w.cell? ⟨0, 0, none⟩ = some (.int .i64 m)
  es : ∃ ev, w.cell? ⟨1, 0, none⟩ = some ev ∧ (ev = .nilIface ∨ ∃ te pe, ev = .iface te pe)
  er : ∃ ev, w.cell? ⟨2, 0, none⟩ = some ev ∧ (ev = .nilIface ∨ ∃ te pe, ev = .iface te pe)
theorem keep_cell {w w' : World} {a : Addr} {v : Value} (hb : Below w.heap.size w w') (h : w.cell? a = some v) : w'.cell? a = some v := (hb.cell (World.block_lt_of_cell? w a h)).trans h
theorem Cx.below {w w' : World} (h : Cx w) (hb : Below w.heap.size w w') : Cx w' := by
  obtain ⟨h1, ⟨m, h2⟩, ⟨e, h3, h3'⟩, ⟨e2, h4, h4'⟩⟩ := h
  exact ⟨h1.below hb, ⟨m, keep_cell hb h2⟩, ⟨e, keep_cell hb h3, h3'⟩, ⟨e2, keep_cell hb h4, h4'⟩⟩
theorem data_inj {xs ys : List ByteArray} (h : xs.map (·.data.toList) = ys.map (·.data.toList)) : xs = ys := by
  induction xs generalizing ys with
  | nil => cases ys with
    | nil => rfl
    | cons y ys => simp at h
  | cons x xs ih => cases ys with
    | nil => simp at h
    | cons y ys =>
      simp only [List.map_cons, List.cons.injEq] at h
      rw [ih h.2, ByteArray.ext (Array.ext' h.1)]
theorem splitB_pcs (c : UInt8) (s : ByteArray) : Go.Lib.splitB ⟨#[c]⟩ 0 (Go.Lib.countB s ⟨#[c]⟩) s = pcs c s := by
  apply data_inj
  rw [Go.Lib.splitB_data]
  show Go.Lib.splitK [c] 0 (Go.Lib.count s.data.toList [c]) s.data.toList = _
  rw [splitK_spl c _ _ (Nat.le_refl _)]
  unfold pcs
  rw [List.map_map]
  conv => lhs; rw [← List.map_id (spl c s.data.toList)]
  apply List.map_congr_left
  intro l _
  simp [bar]
theorem own_lit (w : World) (xs : List ByteArray) (hx : xs.length ≤ maxLen) : (w.alloc (.cells (xs.map Value.string).toArray 9)).ownsRow w.heap.size 9 1 (.slice (some ⟨w.heap.size, 0, none⟩) xs.length xs.length) xs.length (StrK.row xs) := by
  have h := World.ownsRow_lit w (xs.map Value.string).toArray (e := 9) (size := 1) (base := w.heap.size) xs.length (Nat.le_refl _) hx (by simp)
  rw [strK_row]
  simpa using h
theorem split_any (c : UInt8) (s : ByteArray) (w : World) (hs : s.size ≤ 1048576) (h : Cx w) : Calls Tryd.prog 44 #[.string s, .string ⟨#[c]⟩] w (Pcs w (pcs c s)) := by
  obtain ⟨m, hm⟩ := h.mx
  refine (Tryd.strings_Split s ⟨#[c]⟩ m w (by omega) hm (by show 1 ≤ 1; omega)).mono ?_
  rintro e w' ⟨rfl, rfl⟩
  have hl : Go.Lib.countB s ⟨#[c]⟩ + 1 = (pcs c s).length := by
    rw [← splitB_pcs, Go.Lib.splitB_all ⟨#[c]⟩ (by show 1 ≤ 1; omega) 0 _ s rfl]
  rw [splitB_pcs, hl]
  exact ⟨_, _, rfl, own_lit w _ (by have h1 := spl_len c s.data.toList []; have h2 : s.data.toList.length = s.size := Array.length_toList; unfold pcs maxLen; rw [List.length_map]; unfold spl; omega), below1 _ _⟩
theorem itoa_z (v : Int) (h0 : -999999 ≤ v) (h1 : v ≤ 999999) (w : World) (h : Cx w) : Calls Tryd.prog 77 #[.int .i64 v] w fun e w' => e = .returned (.string (bar (Go.Lib.itoa v))) ∧ Below w.heap.size w w' := by
  refine (Tryd.strconv_Itoa v (by omega) (by omega) w h.tab.here).mono ?_
  rintro e w' ⟨rfl, k, os, rfl⟩
  exact ⟨rfl, (below_drewN (Below.refl _ _) k).trans (grow_below (w.drewN k) os)⟩
theorem atoi_z (s : ByteArray) (hs : s.size ≤ 7) (w : World) (h : Cx w) : Calls Tryd.prog 76 #[.string s] w fun e w' => (∀ v, Go.Lib.atoiAll s.data.toList = .ok v → e = .returned (.tuple #[.int .i64 v, .nilIface])) ∧ ((∀ v, Go.Lib.atoiAll s.data.toList ≠ .ok v) → ∃ (v : Int) (t : TypeId) (p : Value), e = .returned (.tuple #[.int .i64 v, .iface t p])) ∧ Below w.heap.size w w' := by
  rcases ha : Go.Lib.atoiAll s.data.toList with v | _ | _
  ·
    refine (Tryd.strconv_Atoi_ok s (by omega) v ha w).mono ?_
    rintro e w' ⟨rfl, hw⟩
    refine ⟨fun u hu => by injection hu with hu; rw [hu], fun hn => absurd rfl (hn v), ?_⟩
    rcases hw with rfl | ⟨t, rfl⟩
    · exact Below.refl _ _
    · exact Go.Lib.bytesWorld_below _ _ _
  ·
    obtain ⟨ev, hv, hev⟩ := h.es
    refine (Tryd.strconv_Atoi_syntax s (by omega) ha ev w hv hev).mono ?_
    rintro e w' ⟨N, rfl, _, _, hb⟩
    exact ⟨fun u hu => by (cases hu), fun _ => ⟨_, _, _, rfl⟩, hb⟩
  ·
    obtain ⟨ev, hv, hev⟩ := h.er
    refine (Tryd.strconv_Atoi_range s (by omega) ha ev w hv hev).mono ?_
    rintro e w' ⟨N, rfl, _, _, hb⟩
    exact ⟨fun u hu => by (cases hu), fun _ => ⟨_, _, _, rfl⟩, hb⟩
theorem pi_long {l : List UInt8} (h : ¬ l.length ≤ 7) : piV l = none := by unfold piV; rw [if_neg h]
theorem pi_ok {l : List UInt8} {v : Int} (h : l.length ≤ 7) (hv : Go.Lib.atoiAll l = .ok v) : piV l = if (-999999 ≤ v ∧ v ≤ 999999) ∧ Go.Lib.itoa v = l then some v else none := by unfold piV; rw [if_pos h, hv]
theorem pi_bad {l : List UInt8} (h : ∀ v, Go.Lib.atoiAll l ≠ .ok v) : piV l = none := by
  unfold piV
  split
  · rcases ha : Go.Lib.atoiAll l with v | _ | _
    · exact absurd ha (h v)
    · rfl
    · rfl
  · rfl
set_option maxHeartbeats 2000000 in
theorem ParseInt_any (s : ByteArray) (w : World) (hs : s.size ≤ maxLen) (h : Cx w) : Calls Tryd.prog 45 #[.string s] w fun e w' => e = .returned (optI (piV s.data.toList)) ∧ Below w.heap.size w w' := by
  unfold maxLen at hs
  have hsl : s.data.toList.length = s.size := Array.length_toList
  have HC := Lib.hid h
  clear h
  by_cases h7 : s.size ≤ 7
  · have i1 : ¬ (7 : Int) < (s.size : Int) := by omega
    by_cases hok : ∃ v, Go.Lib.atoiAll s.data.toList = .ok v
    · obtain ⟨v, hv⟩ := hok
      have HP := Lib.hid (pi_ok (by rw [hsl]; exact h7) hv)
      have HV := Lib.hid hv
      clear hv
      rcases Bool.eq_false_or_eq_true (inB v (-999999) 999999) with hin | hin
      · have hv2 := inB_iff.1 hin
        by_cases ht : Go.Lib.itoa v = s.data.toList
        · have HQ := Lib.hid (bar_eq.2 ht)
          rw [if_pos ⟨hv2, ht⟩] at HP
          clear ht
          go_enter Tryd.func45, Tryd.ntmps45
          go_wp2_with (first
            | (go_at_call 76; refine (atoi_z s h7 _ HC.out).mono ?_; rintro e w1 ⟨he, -, hb⟩; rw [he v HV.out]; have HB := Lib.hid hb; clear he hb)
            | (go_at_call 70; refine (inside_any _ _ _ _).mono ?_; rintro e w' ⟨rfl, rfl⟩; rw [hin])
            | (go_at_call 77; refine (itoa_z v hv2.1 hv2.2 _ (HC.out.below HB.out)).mono ?_; rintro e w2 ⟨rfl, hb⟩; rw [HQ.out]; have HB2 := Lib.hid (HB.out.trans (hb.mono HB.out.size)); clear hb))
          go_ret2
          exact ⟨by rw [HP.out]; rfl, HB2.out⟩
        · obtain ⟨x, hx⟩ : ∃ x, Hid (bar (Go.Lib.itoa v) = x) := ⟨_, Lib.hid rfl⟩
          have hxs : (!x.toList == s.toList) = true := same_no (fun h => ht (bar_eq.1 (hx.out.trans h)))
          rw [if_neg (fun h => ht h.2)] at HP
          clear ht
          go_enter Tryd.func45, Tryd.ntmps45
          go_wp2_with (first
            | (go_at_call 76; refine (atoi_z s h7 _ HC.out).mono ?_; rintro e w1 ⟨he, -, hb⟩; rw [he v HV.out]; have HB := Lib.hid hb; clear he hb)
            | (go_at_call 70; refine (inside_any _ _ _ _).mono ?_; rintro e w' ⟨rfl, rfl⟩; rw [hin])
            | (go_at_call 77; refine (itoa_z v hv2.1 hv2.2 _ (HC.out.below HB.out)).mono ?_; rintro e w2 ⟨rfl, hb⟩; rw [hx.out]; have HB2 := Lib.hid (HB.out.trans (hb.mono HB.out.size)); clear hb))
          go_ret2
          exact ⟨by rw [HP.out]; rfl, HB2.out⟩
      · rw [if_neg (fun h => by rw [inB_iff.2 h.1] at hin; cases hin)] at HP
        go_enter Tryd.func45, Tryd.ntmps45
        go_wp2_with (first
          | (go_at_call 76; refine (atoi_z s h7 _ HC.out).mono ?_; rintro e w1 ⟨he, -, hb⟩; rw [he v HV.out]; have HB := Lib.hid hb; clear he hb)
          | (go_at_call 70; refine (inside_any _ _ _ _).mono ?_; rintro e w' ⟨rfl, rfl⟩; rw [hin]))
        go_ret2
        exact ⟨by rw [HP.out]; rfl, HB.out⟩
    · have HN := Lib.hid (fun v h => hok ⟨v, h⟩ : ∀ v, Go.Lib.atoiAll s.data.toList ≠ .ok v)
      have HP := Lib.hid (pi_bad HN.out)
      clear hok
      go_enter Tryd.func45, Tryd.ntmps45
      go_wp2_with (go_at_call 76; refine (atoi_z s h7 _ HC.out).mono ?_; rintro e w1 ⟨-, he, hb⟩; obtain ⟨v, t, p, rfl⟩ := he HN.out; have HB := Lib.hid hb; clear he hb)
      go_ret2
      exact ⟨by rw [HP.out]; rfl, HB.out⟩
  · have i1 : (7 : Int) < (s.size : Int) := by omega
    have HP := Lib.hid (pi_long (l := s.data.toList) (by rw [hsl]; exact h7))
    go_enter Tryd.func45, Tryd.ntmps45
    go_wp2
    go_ret2
    exact ⟨by rw [HP.out]; rfl, Below.refl _ _⟩
end Go.Proofs.YtajfbiihlfccnaaDoor
