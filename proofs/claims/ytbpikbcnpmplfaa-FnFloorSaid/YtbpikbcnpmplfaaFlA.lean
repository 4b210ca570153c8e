/- Floors: the share of a member, who is entitled, in the program and in the reference. Conditions: the ranges named. -/
import Derived.Test.YtbpikbcnpmplfaaFlr
import Derived.Test.YtbpikbcnpmplfaaNum
import Derived.Deep.Light
namespace Go.Proofs.Ytbpikbcnpmplfaa
open Go.RowKit
set_option linter.unusedVariables false

/-- The share of a member; a zero one if there is none. -/
def shOf (m : Int) : List Shr → Shr
  | [] => ⟨m, 0, 0⟩
  | x :: l => if x.m = m then x else shOf m l
theorem shOf_hit {m : Int} {sh : List Shr} {k : Nat} (h : k < sh.length) (hm : sh[k].m = m) : shOf m (sh.drop k) = sh[k] := by
  rw [List.drop_eq_getElem_cons h, shOf, if_pos hm]
theorem shOf_miss {m : Int} {sh : List Shr} {k : Nat} (h : k < sh.length) (hm : ¬ sh[k].m = m) : shOf m (sh.drop k) = shOf m (sh.drop (k + 1)) := by
  rw [List.drop_eq_getElem_cons h, shOf, if_neg hm]
theorem shOf_end {m : Int} {sh : List Shr} : shOf m (sh.drop sh.length) = ⟨m, 0, 0⟩ := by rw [List.drop_length]; rfl
theorem shOf_find (m : Int) (sh : List Shr) (k : Nat) : (findI (fun x => x.m == m) k sh = -1 ∧ shOf m sh = ⟨m, 0, 0⟩) ∨ (∃ i, ∃ h : i < sh.length, findI (fun x => x.m == m) k sh = ((k + i : Nat) : Int) ∧ shOf m sh = sh[i]) := by
  induction sh generalizing k with
  | nil => exact .inl ⟨rfl, rfl⟩
  | cons x sh ih =>
    by_cases h : x.m = m
    · refine .inr ⟨0, by simp, ?_, ?_⟩
      · rw [findI, if_pos (by simp [h])]; simp
      · rw [shOf, if_pos h]; rfl
    · rw [findI, if_neg (by simp [h]), shOf, if_neg h]
      rcases ih (k + 1) with ⟨h1, h2⟩ | ⟨i, hi, h1, h2⟩
      · exact .inl ⟨h1, h2⟩
      · exact .inr ⟨i + 1, by simp; omega, by rw [h1]; congr 1; omega, by rw [h2]; rfl⟩
theorem shareOf1_any (x : Shr) (m : Int) (p : Addr) (w : World) (hp : w.cell? p = some (.int .i64 m)) : Calls Try.prog 85 #[.agg #[.int .i64 x.m, .int .i64 x.t, .int .i64 x.s], .pointer (some p)] w fun e w' => e = .returned (.bool (x.m == m)) ∧ Below w.heap.size w w' := by
  have hl := World.block_lt_of_cell? _ _ hp
  have hp1 : (w.alloc (.cells #[.int .i64 x.m, .int .i64 x.t, .int .i64 x.s] 43)).cell? p = some (.int .i64 m) := (World.cell?_alloc_lt w _ p hl).trans hp
  go_enter Try.func85, Try.ntmps85
  go_wp2
  go_ret
  exact ⟨rfl, by go_grown⟩
set_option maxHeartbeats 1000000 in
theorem indexShare_any (D : Option Addr) (d : Nat) (sh : List Shr) (m : Int) (p : Addr) (w : World) (hd : Cells w D (ShareK.row sh)) (hn : sh.length ≤ 1048576) (hp : w.cell? p = some (.int .i64 m)) :
    Calls Try.prog 84 #[.slice D sh.length d, .func (.func 85) #[] #[.pointer (some p)]] w fun e w' => e = .returned (.int .i64 (findI (fun x => x.m == m) 0 sh)) ∧ Below w.heap.size w w' := by
  have hl := World.block_lt_of_cell? _ _ hp
  go_enter Try.func84, Try.ntmps84
  go_wp2
  go_loopw [8] (fun i wr => ∃ k : Nat, k ≤ sh.length ∧ i = .int .i64 k ∧ Hid (findI (fun x => x.m == m) 0 sh = findI (fun x => x.m == m) k (sh.drop k)) ∧ Below w.heap.size w wr) (fun i _ => sh.length - (intOf i).toNat)
  case atStart => exact ⟨0, Nat.zero_le _, rfl, rfl, Below.refl _ _⟩
  case round =>
    obtain ⟨k, hk, rfl, hq, hB⟩ := hrel
    by_cases hlt : k < sh.length
    · obtain ⟨a, rfl, hc0, hc1, hc2⟩ := share_at (hd.below hB) hlt
      have i1 : (k : Int) < (sh.length : Int) := by omega
      have hp1 := (hB.cell hl).trans hp
      have HB := Lib.hid hB
      rcases Bool.eq_false_or_eq_true (sh[k].m == m) with hm | hm
      · have HA := Lib.hid (hq.out.trans (findI_hit (k := k) (i := k) (p := fun x => x.m == m) hlt hm))
        clear hB hq
        go_wp2_with (go_at_call 85; refine (shareOf1_any sh[k] m p _ hp1).mono ?_; rintro e w1 ⟨rfl, hb⟩; have HB1 := Lib.hid (after HB.out hb); clear hb)
        go_ret
        exact ⟨ret_int HA.out.symm, HB1.out⟩
      · have HA := Lib.hid (hq.out.trans (findI_miss (k := k) (i := k) (p := fun x => x.m == m) hlt hm))
        clear hB hq
        go_wp2_with (go_at_call 85; refine (shareOf1_any sh[k] m p _ hp1).mono ?_; rintro e w1 ⟨rfl, hb⟩; have HB1 := Lib.hid (after HB.out hb); clear hb)
        go_roundw
        case rel => exact ⟨k + 1, hlt, by go_num, HA.out, HB1.out⟩
        case measure => simp [intOf]; omega
    · obtain rfl : k = sh.length := by omega
      have HA := Lib.hid (hq.out.trans findI_end)
      go_wp2
      go_ret
      exact ⟨ret_int HA.out.symm, hB⟩
set_option maxHeartbeats 1000000 in
theorem shareOf_any (A D : Option Addr) (c d : Nat) (f : Flr) (m : Int) (w : World) (hd : Cells w D (ShareK.row f.sh)) (hn : f.sh.length ≤ 1048576) :
    Calls Try.prog 61 #[.agg #[.int .i64 f.t, .int .i64 f.s, .int .i64 f.sp, .slice A f.wt.length c, .slice D f.sh.length d], .int .i64 m] w fun e w' => e = .returned (.agg #[.int .i64 (shOf m f.sh).m, .int .i64 (shOf m f.sh).t, .int .i64 (shOf m f.sh).s]) ∧ Below w.heap.size w w' := by
  have hp1 : (((w.alloc (.cells #[.int .i64 f.t, .int .i64 f.s, .int .i64 f.sp, .slice A f.wt.length c, .slice D f.sh.length d] 29)).alloc (.cells #[.int .i64 m] 3)).alloc (.cells #[.int .i64 0, .int .i64 0, .int .i64 0] 43)).cell? ⟨w.heap.size + 1, 0, none⟩ = some (.int .i64 m) := by simp [go_sem]
  rcases shOf_find m f.sh 0 with ⟨h1, h2⟩ | ⟨i, hi, h1, h2⟩
  · rw [h2]
    have HE := Lib.hid h1
    clear h1 h2
    go_enter Try.func61, Try.ntmps61
    go_wp2_with fail
    refine (indexShare_any D d f.sh m _ _ (((hd.alloc_ _).alloc_ _).alloc_ _) hn hp1).mono ?_
    rintro e w1 ⟨rfl, hb⟩
    rw [HE.out]
    obtain ⟨hc, hfz⟩ := bcell hb
    have hB := Lib.hid (after (w := w) (by go_grown) hb)
    have hz : w.heap.size + 2 < w1.heap.size := by have := hb.size; simp at this; omega
    have e0 := fun o => hc w.heap.size o (by simp; omega)
    have e1 := fun o => hc (w.heap.size + 1) o (by simp)
    have e2 := fun o => hc (w.heap.size + 1 + 1) o (by simp)
    have k2 := fun o => hfz (w.heap.size + 1 + 1) o (by simp)
    clear hc hfz hb hp1 hd
    go_wp2
    refine bodyPost_ret (v := .agg #[.int .i64 m, .int .i64 0, .int .i64 0]) (by simp [results, Try.results61, go_sem, e2]) rfl ⟨rfl, ?_⟩
    have := hB.out
    go_grown
  · rw [h2]
    have HE := Lib.hid h1
    have hi1 : ((i : Int)) < (f.sh.length : Int) := by omega
    clear h1 h2
    go_enter Try.func61, Try.ntmps61
    go_wp2_with fail
    refine (indexShare_any D d f.sh m _ _ (((hd.alloc_ _).alloc_ _).alloc_ _) hn hp1).mono ?_
    rintro e w1 ⟨rfl, hb⟩
    rw [HE.out, Nat.zero_add]
    obtain ⟨hc, hfz⟩ := bcell hb
    have hB := Lib.hid (after (w := w) (by go_grown) hb)
    have hz : w.heap.size + 2 < w1.heap.size := by have := hb.size; simp at this; omega
    have e0 := fun o => hc w.heap.size o (by simp; omega)
    have e2 := fun o => hc (w.heap.size + 1 + 1) o (by simp)
    have k2 := fun o => hfz (w.heap.size + 1 + 1) o (by simp)
    obtain ⟨a, rfl, hc0, hc1, hc2⟩ := share_at (hd.below hB.out) hi
    clear hc hfz hb hp1 hd
    go_wp2
    refine bodyPost_ret (v := .agg #[.int .i64 f.sh[i].m, .int .i64 f.sh[i].t, .int .i64 f.sh[i].s]) (by simp [results, Try.results61, go_sem, e2]) rfl ⟨rfl, ?_⟩
    have := hB.out
    go_grown
/-- A member is entitled. -/
def entB (f : Flr) (m : Int) : Bool := decide ((shOf m f.sh).t < f.t) && decide ((shOf m f.sh).s < f.s)
set_option maxHeartbeats 1000000 in
theorem isEntitled_any (A D : Option Addr) (c d : Nat) (f : Flr) (m : Int) (w : World) (hd : Cells w D (ShareK.row f.sh)) (hn : f.sh.length ≤ 1048576) :
    Calls Try.prog 65 #[.agg #[.int .i64 f.t, .int .i64 f.s, .int .i64 f.sp, .slice A f.wt.length c, .slice D f.sh.length d], .int .i64 m] w fun e w' => e = .returned (.bool (entB f m)) ∧ Below w.heap.size w w' := by
  have hd1 := (hd.alloc_ (.cells #[.int .i64 f.t, .int .i64 f.s, .int .i64 f.sp, .slice A f.wt.length c, .slice D f.sh.length d] 29))
  obtain ⟨S, hS⟩ : ∃ S, Hid (shOf m f.sh = S) := ⟨_, rfl⟩
  have HE := Lib.hid (show entB f m = (decide (S.t < f.t) && decide (S.s < f.s)) by unfold entB; rw [hS.out])
  rcases Bool.eq_false_or_eq_true (decide (S.t < f.t)) with h1 | h1
  all_goals
    go_enter Try.func65, Try.ntmps65
    go_wp2_with fail
    refine (shareOf_any A D c d f m _ hd1 hn).mono ?_
    rintro e w1 ⟨rfl, hb⟩
    rw [hS.out]
    obtain ⟨hc, hfz⟩ := bcell hb
    have hB := Lib.hid (after (w := w) (by go_grown) hb)
    have hz : w.heap.size < w1.heap.size := by have := hb.size; simp at this; omega
    have e0 := fun o => hc w.heap.size o (by simp)
    clear hc hfz hb hd1 hd
    go_wp2
    go_ret
    exact ⟨ret_bool (by rw [HE.out, h1]; simp), by have := hB.out; go_grown⟩
/-! ### The reference -/
set_option maxHeartbeats 1000000 in
theorem l8Share_any (A D : Option Addr) (c d : Nat) (f : Flr) (m : Int) (w : World) (hd : Cells w D (ShareK.row f.sh)) (hn : f.sh.length ≤ 1048576) :
    Calls Try.prog 57 #[.agg #[.int .i64 f.t, .int .i64 f.s, .int .i64 f.sp, .slice A f.wt.length c, .slice D f.sh.length d], .int .i64 m] w fun e w' => e = .returned (.agg #[.int .i64 (shOf m f.sh).m, .int .i64 (shOf m f.sh).t, .int .i64 (shOf m f.sh).s]) ∧ Below w.heap.size w w' := by
  have hd1 := (hd.alloc_ (.cells #[.int .i64 f.t, .int .i64 f.s, .int .i64 f.sp, .slice A f.wt.length c, .slice D f.sh.length d] 29)).alloc_ (.cells #[.int .i64 0, .int .i64 0, .int .i64 0] 43)
  clear hd
  go_enter Try.func57, Try.ntmps57
  go_wp2
  go_loop [5] (fun i => ∃ k : Nat, k ≤ f.sh.length ∧ i = .int .i64 k ∧ Hid (shOf m f.sh = shOf m (f.sh.drop k))) (fun i => f.sh.length - (intOf i).toNat)
  case atStart => exact ⟨0, Nat.zero_le _, rfl, rfl⟩
  case round =>
    obtain ⟨k, hk, rfl, hq⟩ := hrel
    by_cases hlt : k < f.sh.length
    · obtain ⟨a, rfl, hc0, hc1, hc2⟩ := share_at hd1 hlt
      have i1 : (k : Int) < (f.sh.length : Int) := by omega
      by_cases hm : f.sh[k].m = m
      · have ht : (f.sh[k].m == m) = true := by simp [hm]
        have HA := Lib.hid (hq.out.trans (shOf_hit hlt hm))
        clear hm hq
        go_wp2
        refine bodyPost_ret (v := .agg #[.int .i64 f.sh[k].m, .int .i64 f.sh[k].t, .int .i64 f.sh[k].s]) (by simp [results, Try.results57, go_sem]) rfl ⟨by rw [HA.out], ?_⟩
        go_grown
      · have ht : (f.sh[k].m == m) = false := by simp [hm]
        have HA := Lib.hid (hq.out.trans (shOf_miss hlt hm))
        clear hm hq
        go_wp2
        go_round
        case rel => exact ⟨k + 1, hlt, by go_num, HA.out⟩
        case measure => simp [intOf]; omega
    · obtain rfl : k = f.sh.length := by omega
      have HA := Lib.hid (hq.out.trans shOf_end)
      go_wp2
      refine bodyPost_ret (v := .agg #[.int .i64 m, .int .i64 0, .int .i64 0]) (by simp [results, Try.results57, go_sem]) rfl ⟨by rw [HA.out], ?_⟩
      go_grown
set_option maxHeartbeats 1000000 in
theorem l8Entitled_any (A D : Option Addr) (c d : Nat) (f : Flr) (m : Int) (w : World) (hd : Cells w D (ShareK.row f.sh)) (hn : f.sh.length ≤ 1048576) :
    Calls Try.prog 77 #[.agg #[.int .i64 f.t, .int .i64 f.s, .int .i64 f.sp, .slice A f.wt.length c, .slice D f.sh.length d], .int .i64 m] w fun e w' => e = .returned (.bool (entB f m)) ∧ Below w.heap.size w w' := by
  have hd1 := (hd.alloc_ (.cells #[.int .i64 f.t, .int .i64 f.s, .int .i64 f.sp, .slice A f.wt.length c, .slice D f.sh.length d] 29))
  obtain ⟨S, hS⟩ : ∃ S, Hid (shOf m f.sh = S) := ⟨_, rfl⟩
  have HE := Lib.hid (show entB f m = (decide (S.t < f.t) && decide (S.s < f.s)) by unfold entB; rw [hS.out])
  rcases Bool.eq_false_or_eq_true (decide (S.t < f.t)) with h1 | h1
  all_goals
    go_enter Try.func77, Try.ntmps77
    go_wp2_with fail
    refine (l8Share_any A D c d f m _ hd1 hn).mono ?_
    rintro e w1 ⟨rfl, hb⟩
    rw [hS.out]
    obtain ⟨hc, hfz⟩ := bcell hb
    have hB := Lib.hid (after (w := w) (by go_grown) hb)
    have hz : w.heap.size < w1.heap.size := by have := hb.size; simp at this; omega
    have e0 := fun o => hc w.heap.size o (by simp)
    clear hc hfz hb hd1 hd
    go_wp2
    go_ret
    exact ⟨ret_bool (by rw [HE.out, h1]; simp), by have := hB.out; go_grown⟩
end Go.Proofs.Ytbpikbcnpmplfaa
