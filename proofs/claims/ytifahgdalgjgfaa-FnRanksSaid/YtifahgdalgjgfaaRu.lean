/- Valid rules, in the program and in the reference. Conditions: the ranges named. -/
import Derived.Test.YtifahgdalgjgfaaRule
import Derived.Test.YtifahgdalgjgfaaWrd
import Derived.Test.YtifahgdalgjgfaaSetc2
import Derived.Deep.Light
namespace Go.Proofs.Ytifahgdalgjgfaa
open Go.RowKit
set_option linter.unusedVariables false

theorem bmono {w W : World} {o : Obj} (h : Below (w.alloc o).heap.size (w.alloc o) W) : Below w.heap.size w W := ((Below.refl _ _).alloc (Nat.le_refl _) _).trans (h.mono (by simp))
theorem cell_alloc {w : World} {p : Addr} {v : Value} (h : w.cell? p = some v) (o : Obj) : (w.alloc o).cell? p = some v := (World.cell?_alloc_lt w o p (World.block_lt_of_cell? _ _ h)).trans h
theorem getD_lt {α : Type} {xs : List α} {i : Nat} (h : i < xs.length) (z : α) : xs.getD i z = xs[i] := by rw [List.getD_eq_getElem?_getD, List.getElem?_eq_getElem h]; rfl
theorem rows_take {α : Type} (K : Kd α) {w : World} {A : Option Addr} {xs : List α} {n : Nat} (h : Cells w A (K.row xs)) : Cells w A (K.row (xs.take n)) := fun i u hu => by
  rw [K.row_take, List.getElem?_take] at hu
  split at hu
  · exact h i u hu
  · cases hu
/-- A rule is valid. -/
def sngB (x : Rul) : Bool := inB x.id 1 20 && wordB x.nm && inB x.rk 0 9 && inB x.nd 1 3
theorem isNeed_any (x : Int) (w : World) : Calls Try.prog 142 #[.int .i64 x] w fun e w' => e = .returned (.bool (inB x 1 3)) ∧ w = w' := by
  go_enter Try.func142, Try.ntmps142
  go_wp2_with (go_at_call 98; refine (inside_any _ _ _ _).mono ?_; rintro e w' ⟨rfl, rfl⟩)
  go_ret
  exact ⟨rfl, rfl⟩
set_option maxHeartbeats 1000000 in
theorem IsValidRule_any (x : Rul) (w : World) (hf : x.nm.size ≤ maxLen) : Calls Try.prog 125 #[.agg #[.int .i64 x.id, .string x.nm, .int .i64 x.rk, .bool x.sc, .bool x.db, .bool x.am, .int .i64 x.nd]] w fun e w' => e = .returned (.bool (sngB x)) ∧ Below w.heap.size w w' := by
  go_enter Try.func125, Try.ntmps125
  go_wp2_with (first | (go_at_call 98; refine (inside_any _ _ _ _).mono ?_; rintro e w' ⟨rfl, rfl⟩) | (go_at_call 114; refine (isWord_any _ _ hf).mono ?_; rintro e w' ⟨rfl, rfl⟩) | (go_at_call 142; refine (isNeed_any _ _).mono ?_; rintro e w' ⟨rfl, rfl⟩))
  all_goals (go_ret; refine ⟨ret_bool ?_, by go_grown⟩; go_light; unfold sngB; simp_all)
set_option maxHeartbeats 1000000 in
theorem l2Single_any (x : Rul) (w : World) (hf : x.nm.size ≤ maxLen) : Calls Try.prog 136 #[.agg #[.int .i64 x.id, .string x.nm, .int .i64 x.rk, .bool x.sc, .bool x.db, .bool x.am, .int .i64 x.nd]] w fun e w' => e = .returned (.bool (sngB x)) ∧ Below w.heap.size w w' := by
  go_enter Try.func136, Try.ntmps136
  go_wp2_with (first | (go_at_call 105; refine (l1In_any _ _ _ _).mono ?_; rintro e w' ⟨rfl, rfl⟩) | (go_at_call 141; refine (l2Word_any _ _ hf).mono ?_; rintro e w' ⟨rfl, rfl⟩))
  all_goals (go_ret; refine ⟨ret_bool ?_, by go_grown⟩; go_light; unfold sngB; simp_all)
/-- Two names are the same. -/
def nmB (a b : ByteArray) : Bool := a.toList == b.toList
theorem named_any (x : Rul) (b : Nat) (nm : ByteArray) (w : World) (hp : w.cell? ⟨b, 1, none⟩ = some (.string nm)) : Calls Try.prog 127 #[.agg #[.int .i64 x.id, .string x.nm, .int .i64 x.rk, .bool x.sc, .bool x.db, .bool x.am, .int .i64 x.nd], .pointer (some ⟨b, 0, none⟩)] w fun e w' => e = .returned (.bool (nmB x.nm nm)) ∧ Below w.heap.size w w' := by
  have hp1 := cell_alloc hp (.cells #[.int .i64 x.id, .string x.nm, .int .i64 x.rk, .bool x.sc, .bool x.db, .bool x.am, .int .i64 x.nd] 52)
  go_enter Try.func127, Try.ntmps127
  go_wp2
  go_ret
  exact ⟨rfl, by go_grown⟩
theorem idIs_any (x : Rul) (b : Nat) (id : Int) (w : World) (hp : w.cell? ⟨b, 0, none⟩ = some (.int .i64 id)) : Calls Try.prog 128 #[.agg #[.int .i64 x.id, .string x.nm, .int .i64 x.rk, .bool x.sc, .bool x.db, .bool x.am, .int .i64 x.nd], .pointer (some ⟨b, 0, none⟩)] w fun e w' => e = .returned (.bool (x.id == id)) ∧ Below w.heap.size w w' := by
  have hp1 := cell_alloc hp (.cells #[.int .i64 x.id, .string x.nm, .int .i64 x.rk, .bool x.sc, .bool x.db, .bool x.am, .int .i64 x.nd] 52)
  go_enter Try.func128, Try.ntmps128
  go_wp2
  go_ret
  exact ⟨rfl, by go_grown⟩
set_option maxHeartbeats 1000000 in
theorem indexName_any (A : Option Addr) (n c : Nat) (xs : List Rul) (b : Nat) (s : ByteArray) (w : World) (hn : n = xs.length) (ha : Cells w A (RuleK.row xs)) (hm : xs.length ≤ 1048576) (hp : w.cell? ⟨b, 1, none⟩ = some (.string s)) :
    Calls Try.prog 90 #[.slice A n c, .func (.func 127) #[] #[.pointer (some ⟨b, 0, none⟩)]] w fun e w' => e = .returned (.int .i64 (findI (fun x => nmB x.nm s) 0 xs)) ∧ Below w.heap.size w w' := by
  subst hn
  have hl := World.block_lt_of_cell? _ _ hp
  go_enter Try.func90, Try.ntmps90
  go_wp2
  go_loopw [8] (fun i wr => ∃ k : Nat, k ≤ xs.length ∧ i = .int .i64 k ∧ Hid (findI (fun x => nmB x.nm s) 0 xs = findI (fun x => nmB x.nm s) k (xs.drop k)) ∧ Below w.heap.size w wr) (fun i _ => xs.length - (intOf i).toNat)
  case atStart => exact ⟨0, Nat.zero_le _, rfl, rfl, Below.refl _ _⟩
  case round =>
    obtain ⟨k, hk, rfl, hq, hB⟩ := hrel
    by_cases hlt : k < xs.length
    · obtain ⟨a, rfl, hc0, hc1, hc2, hc3, hc4, hc5, hc6⟩ := rule_at (ha.below hB) hlt
      have i1 : (k : Int) < (xs.length : Int) := by omega
      have hp1 := (hB.cell (p := ⟨b, 1, none⟩) hl).trans hp
      have HB := Lib.hid hB
      obtain ⟨x, hx⟩ : ∃ x, Hid (xs[k] = x) := ⟨_, Lib.hid rfl⟩
      have HH := Lib.hid (fun (h : (fun x : Rul => nmB x.nm s) xs[k] = true) => findI_hit (k := k) (i := k) (p := fun x => nmB x.nm s) hlt h)
      have HMi := Lib.hid (fun (h : (fun x : Rul => nmB x.nm s) xs[k] = false) => findI_miss (k := k) (i := k) (p := fun x => nmB x.nm s) hlt h)
      rw [hx.out] at hc0 hc1 hc2 hc3 hc4 hc5 hc6 HH HMi
      rcases Bool.eq_false_or_eq_true (nmB x.nm s) with hm2 | hm2
      · have HA := Lib.hid (hq.out.trans (HH.out hm2))
        clear hB hq HH HMi
        go_wp2_with (go_at_call 127; refine (named_any x b s _ hp1).mono ?_; rintro e w1 ⟨rfl, hb⟩; rw [hm2]; have HB1 := Lib.hid (after HB.out hb); clear hb)
        go_ret
        exact ⟨ret_int HA.out.symm, HB1.out⟩
      · have HA := Lib.hid (hq.out.trans (HMi.out hm2))
        clear hB hq HH HMi
        go_wp2_with (go_at_call 127; refine (named_any x b s _ hp1).mono ?_; rintro e w1 ⟨rfl, hb⟩; rw [hm2]; have HB1 := Lib.hid (after HB.out hb); clear hb)
        go_roundw
        case rel => exact ⟨k + 1, hlt, by go_num, HA.out, HB1.out⟩
        case measure => simp [intOf]; omega
    · obtain rfl : k = xs.length := by omega
      have HA := Lib.hid (hq.out.trans findI_end)
      go_wp2
      go_ret
      exact ⟨ret_int HA.out.symm, hB⟩
set_option maxHeartbeats 1000000 in
theorem indexId_any (A : Option Addr) (n c : Nat) (xs : List Rul) (b : Nat) (s : Int) (w : World) (hn : n = xs.length) (ha : Cells w A (RuleK.row xs)) (hm : xs.length ≤ 1048576) (hp : w.cell? ⟨b, 0, none⟩ = some (.int .i64 s)) :
    Calls Try.prog 90 #[.slice A n c, .func (.func 128) #[] #[.pointer (some ⟨b, 0, none⟩)]] w fun e w' => e = .returned (.int .i64 (findI (fun x => x.id == s) 0 xs)) ∧ Below w.heap.size w w' := by
  subst hn
  have hl := World.block_lt_of_cell? _ _ hp
  go_enter Try.func90, Try.ntmps90
  go_wp2
  go_loopw [8] (fun i wr => ∃ k : Nat, k ≤ xs.length ∧ i = .int .i64 k ∧ Hid (findI (fun x => x.id == s) 0 xs = findI (fun x => x.id == s) k (xs.drop k)) ∧ Below w.heap.size w wr) (fun i _ => xs.length - (intOf i).toNat)
  case atStart => exact ⟨0, Nat.zero_le _, rfl, rfl, Below.refl _ _⟩
  case round =>
    obtain ⟨k, hk, rfl, hq, hB⟩ := hrel
    by_cases hlt : k < xs.length
    · obtain ⟨a, rfl, hc0, hc1, hc2, hc3, hc4, hc5, hc6⟩ := rule_at (ha.below hB) hlt
      have i1 : (k : Int) < (xs.length : Int) := by omega
      have hp1 := (hB.cell (p := ⟨b, 0, none⟩) hl).trans hp
      have HB := Lib.hid hB
      obtain ⟨x, hx⟩ : ∃ x, Hid (xs[k] = x) := ⟨_, Lib.hid rfl⟩
      have HH := Lib.hid (fun (h : (fun x : Rul => x.id == s) xs[k] = true) => findI_hit (k := k) (i := k) (p := fun x => x.id == s) hlt h)
      have HMi := Lib.hid (fun (h : (fun x : Rul => x.id == s) xs[k] = false) => findI_miss (k := k) (i := k) (p := fun x => x.id == s) hlt h)
      rw [hx.out] at hc0 hc1 hc2 hc3 hc4 hc5 hc6 HH HMi
      rcases Bool.eq_false_or_eq_true (x.id == s) with hm2 | hm2
      · have HA := Lib.hid (hq.out.trans (HH.out hm2))
        clear hB hq HH HMi
        go_wp2_with (go_at_call 128; refine (idIs_any x b s _ hp1).mono ?_; rintro e w1 ⟨rfl, hb⟩; rw [hm2]; have HB1 := Lib.hid (after HB.out hb); clear hb)
        go_ret
        exact ⟨ret_int HA.out.symm, HB1.out⟩
      · have HA := Lib.hid (hq.out.trans (HMi.out hm2))
        clear hB hq HH HMi
        go_wp2_with (go_at_call 128; refine (idIs_any x b s _ hp1).mono ?_; rintro e w1 ⟨rfl, hb⟩; rw [hm2]; have HB1 := Lib.hid (after HB.out hb); clear hb)
        go_roundw
        case rel => exact ⟨k + 1, hlt, by go_num, HA.out, HB1.out⟩
        case measure => simp [intOf]; omega
    · obtain rfl : k = xs.length := by omega
      have HA := Lib.hid (hq.out.trans findI_end)
      go_wp2
      go_ret
      exact ⟨ret_int HA.out.symm, hB⟩
/-- The name is borne by a rule of the list. -/
def nameIn (s : ByteArray) (xs : List Rul) : Bool := xs.any fun x => nmB x.nm s
theorem hasName_any (A : Option Addr) (n c : Nat) (xs : List Rul) (b : Nat) (s : ByteArray) (w : World) (hn : n = xs.length) (ha : Cells w A (RuleK.row xs)) (hm : xs.length ≤ 1048576) (hp : w.cell? ⟨b, 1, none⟩ = some (.string s)) :
    Calls Try.prog 126 #[.slice A n c, .func (.func 127) #[] #[.pointer (some ⟨b, 0, none⟩)]] w fun e w' => e = .returned (.bool (nameIn s xs)) ∧ Below w.heap.size w w' := by
  have hR := Lib.hid (show decide (0 ≤ findI (fun x => nmB x.nm s) 0 xs) = nameIn s xs by rw [findI_any]; rfl)
  have HN := Lib.hid hn
  clear hn
  go_enter Try.func126, Try.ntmps126
  go_wp2_with (go_at_call 90; refine (indexName_any _ _ _ xs _ _ _ HN.out ha hm hp).mono ?_; rintro e w1 ⟨rfl, hb⟩; have HB := Lib.hid hb; clear hb)
  go_ret
  exact ⟨ret_bool hR.out, HB.out⟩
def noRule : Rul := ⟨0, ByteArray.empty, 0, false, false, false, 0⟩
/-- Rule i may stand behind those ahead of it. -/
def okRu (xs : List Rul) (i : Nat) : Bool := sngB (xs.getD i noRule) && (i == 0 || decide ((xs.getD (i - 1) noRule).id < (xs.getD i noRule).id)) && !nameIn (xs.getD i noRule).nm (xs.take i)
theorem okRu_eq {xs : List Rul} {i : Nat} (h : i < xs.length) : okRu xs i = (sngB xs[i] && (i == 0 || decide ((xs[i - 1]'(by omega)).id < xs[i].id)) && !nameIn xs[i].nm (xs.take i)) := by
  unfold okRu
  rw [getD_lt h, getD_lt (show i - 1 < xs.length by omega)]
def rulesB (xs : List Rul) : Bool := allN (okRu xs) xs.length && decide ((xs.length : Int) ≤ 8)
theorem rulesB_no {xs : List Rul} {k : Nat} (h : k < xs.length) (hk : okRu xs k = false) : rulesB xs = false := by unfold rulesB; rw [allN_no h hk]; rfl
end Go.Proofs.Ytifahgdalgjgfaa
