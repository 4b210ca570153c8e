/- slices.Clone, slices.DeleteFunc of rules by their rank. Conditions: the ranges named. -/
import Derived.Test.YtifahgdalgjgfaaRa1
import Derived.Test.YtifahgdalgjgfaaSk2
import Derived.Test.YtifahgdalgjgfaaIb
import Derived.Test.YtifahgdalgjgfaaDr7
import Derived.Lib.SliceRun
import Derived.Lib.LazyBuf
namespace Go.Proofs.Ytifahgdalgjgfaa
open Go.RowKit
set_option linter.unusedVariables false
set_option linter.unusedSimpArgs false
attribute [local go_sem ↓] Go.wp_at_zero Go.wp_at_succ
theorem run_clear_k {P : Program} (w : World) (t e ty : TypeId) (z : Value) (Z : List Value) (ht : P.underlying t = some (.slice e)) (hv : ∀ w, (zeroValue e).run P w = .ok z w) (b o n c : Nat) (hn : 0 < n) (hZ : (Builtin.zeroCells z.cells n).toList = Z)
    (hc : ∀ j, j < Z.length → (w.cell? ⟨b, o + j, none⟩).isSome = true) (hf : ∀ j, j < Z.length → w.frozen? ⟨b, o + j, none⟩ = false) (h1 : ∀ v ∈ Z, v.oneCell' = true) :
    (Builtin.clear_ #[t] ty #[.slice (some ⟨b, o, none⟩) n c]).run P w = .ok (.tuple #[]) (w.setCells b o Z) := by
  have hst := run_storeCells_cells (P := P) b o Z 0 w (by simpa using hc) (by simpa using hf) h1
  simp only [Nat.add_zero] at hst
  obtain ⟨m, rfl⟩ : ∃ m, n = m + 1 := ⟨n - 1, by omega⟩
  simp [Builtin.clear_, run_underlying ht, hv, hZ, hst]
theorem zero_rul (w : World) : (zeroValue 52).run Try.prog w = .ok (.agg #[.int .i64 0, .string ByteArray.empty, .int .i64 0, .bool false, .bool false, .bool false, .int .i64 0]) w := by kernel_rfl
theorem zeroCells_rul (n : Nat) : ∀ v ∈ (Builtin.zeroCells (Value.cells (.agg #[.int .i64 0, .string ByteArray.empty, .int .i64 0, .bool false, .bool false, .bool false, .int .i64 0])) n).toList, v.oneCell' = true := by
  intro v hv
  have h : Value.cells (.agg #[.int .i64 0, .string ByteArray.empty, .int .i64 0, .bool false, .bool false, .bool false, .int .i64 0]) = #[.int .i64 0, .string ByteArray.empty, .int .i64 0, .bool false, .bool false, .bool false, .int .i64 0] := by rfl
  rw [h] at hv
  simp only [Builtin.zeroCells, Array.toList_map] at hv
  obtain ⟨i, _, rfl⟩ := List.mem_map.1 hv
  have h3 : (#[.int .i64 0, .string ByteArray.empty, .int .i64 0, .bool false, .bool false, .bool false, .int .i64 0] : Array Value).size = 7 := rfl
  rw [h3]
  have h2 : i % 7 = 0 ∨ i % 7 = 1 ∨ i % 7 = 2 ∨ i % 7 = 3 ∨ i % 7 = 4 ∨ i % 7 = 5 ∨ i % 7 = 6 := by omega
  rcases h2 with h2 | h2 | h2 | h2 | h2 | h2 | h2 <;> rw [h2] <;> rfl
theorem aboveP_any (x : Rul) (b : Nat) (k : Int) (w : World) (hp : w.cell? ⟨b, 0, none⟩ = some (.int .i64 k)) : Calls Try.prog 101 #[.agg #[.int .i64 x.id, .string x.nm, .int .i64 x.rk, .bool x.sc, .bool x.db, .bool x.am, .int .i64 x.nd], .pointer (some ⟨b, 0, none⟩)] w fun e w' => e = .returned (.bool (decide (x.rk ≤ k))) ∧ Below w.heap.size w w' := by
  have hp1 := cell_alloc hp (.cells #[.int .i64 x.id, .string x.nm, .int .i64 x.rk, .bool x.sc, .bool x.db, .bool x.am, .int .i64 x.nd] 52)
  go_enter Try.func101, Try.ntmps101
  go_wp2
  go_ret
  exact ⟨rfl, by go_grown⟩
set_option maxHeartbeats 1000000 in
theorem indexAb_any (A : Option Addr) (n c : Nat) (xs : List Rul) (b : Nat) (s : Int) (w : World) (hn : n = xs.length) (ha : Cells w A (RuleK.row xs)) (hm : xs.length ≤ 1048576) (hp : w.cell? ⟨b, 0, none⟩ = some (.int .i64 s)) :
    Calls Try.prog 90 #[.slice A n c, .func (.func 101) #[] #[.pointer (some ⟨b, 0, none⟩)]] w fun e w' => e = .returned (.int .i64 (findI (fun x => decide (x.rk ≤ s)) 0 xs)) ∧ Below w.heap.size w w' := by
  subst hn
  have hl := World.block_lt_of_cell? _ _ hp
  go_enter Try.func90, Try.ntmps90
  go_wp2
  go_loopw [8] (fun i wr => ∃ k : Nat, k ≤ xs.length ∧ i = .int .i64 k ∧ Hid (findI (fun x => decide (x.rk ≤ s)) 0 xs = findI (fun x => decide (x.rk ≤ s)) k (xs.drop k)) ∧ Below w.heap.size w wr) (fun i _ => xs.length - (intOf i).toNat)
  case atStart => exact ⟨0, Nat.zero_le _, rfl, rfl, Below.refl _ _⟩
  case round =>
    obtain ⟨k, hk, rfl, hq, hB⟩ := hrel
    by_cases hlt : k < xs.length
    · obtain ⟨a, rfl, hc0, hc1, hc2, hc3, hc4, hc5, hc6⟩ := rule_at (ha.below hB) hlt
      have i1 : (k : Int) < (xs.length : Int) := by omega
      have hp1 := (hB.cell (p := ⟨b, 0, none⟩) hl).trans hp
      have HB := Lib.hid hB
      obtain ⟨x, hx⟩ : ∃ x, Hid (xs[k] = x) := ⟨_, Lib.hid rfl⟩
      have HH := Lib.hid (fun (h : (fun x : Rul => decide (x.rk ≤ s)) xs[k] = true) => findI_hit (k := k) (i := k) (p := fun x => decide (x.rk ≤ s)) hlt h)
      have HMi := Lib.hid (fun (h : (fun x : Rul => decide (x.rk ≤ s)) xs[k] = false) => findI_miss (k := k) (i := k) (p := fun x => decide (x.rk ≤ s)) hlt h)
      rw [hx.out] at hc0 hc1 hc2 hc3 hc4 hc5 hc6 HH HMi
      rcases Bool.eq_false_or_eq_true (decide (x.rk ≤ s)) with hm2 | hm2
      · have HA := Lib.hid (hq.out.trans (HH.out hm2))
        clear hB hq HH HMi
        go_wp2_with (go_at_call 101; refine (aboveP_any x b s _ hp1).mono ?_; rintro e w1 ⟨rfl, hb⟩; rw [hm2]; have HB1 := Lib.hid (after HB.out hb); clear hb)
        go_ret
        exact ⟨ret_int HA.out.symm, HB1.out⟩
      · have HA := Lib.hid (hq.out.trans (HMi.out hm2))
        clear hB hq HH HMi
        go_wp2_with (go_at_call 101; refine (aboveP_any x b s _ hp1).mono ?_; rintro e w1 ⟨rfl, hb⟩; rw [hm2]; have HB1 := Lib.hid (after HB.out hb); clear hb)
        go_roundw
        case rel => exact ⟨k + 1, hlt, by go_num, HA.out, HB1.out⟩
        case measure => simp [intOf]; omega
    · obtain rfl : k = xs.length := by omega
      have HA := Lib.hid (hq.out.trans findI_end)
      go_wp2
      go_ret
      exact ⟨ret_int HA.out.symm, hB⟩
/-- The rules above a rank. -/
def abv (k : Int) (x : Rul) : Bool := decide (k < x.rk)
theorem abv_not {k : Int} {x : Rul} : (!decide (x.rk ≤ k)) = abv k x := by unfold abv; by_cases h : x.rk ≤ k <;> simp [h] <;> omega
theorem abv_t {k : Int} {x : Rul} (h : decide (x.rk ≤ k) = true) : abv k x = false := by rw [← abv_not, h]; rfl
theorem abv_f {k : Int} {x : Rul} (h : decide (x.rk ≤ k) = false) : abv k x = true := by rw [← abv_not, h]; rfl
set_option maxRecDepth 100000 in
theorem Clone_any (A : Option Addr) (c : Nat) (xs : List Rul) (w : World) (h : Cells w A (RuleK.row xs)) (hm : xs.length ≤ 1000000) (hf : ∀ y ∈ xs, RuleK.fit y) :
    Calls Try.prog 100 #[.slice A xs.length c] w (ToL RuleK 52 w xs) := by
  have H := Lib.hid h
  have HF := Lib.hid hf
  have q22 : ∀ (w : World) (a : Option Addr) (n c : Nat), (binOp .eql 24 (.slice a n c) (.slice none 0 0)).run Try.prog w = .ok (.bool a.isNone) w := fun w a n c => Lib.run_eql_slice_nil w _ _ a n c 0 0 Try.underlying24
  clear h hf
  cases A with
  | none =>
    have h0 : xs = [] := by
      cases xs with
      | nil => rfl
      | cons x l =>
        obtain ⟨a, ha, _⟩ := rule_at H.out (i := 0) (by simp)
        cases ha
    subst h0
    go_enter Try.func100, Try.ntmps100
    go_wp2
    go_ret
    exact ⟨none, 0, rfl, ⟨World.ownsRow_nil _ _ _ _, (fun a ha => by cases ha), by simp, by simp⟩, Below.refl _ _⟩
  | some a =>
    go_enter Try.func100, Try.ntmps100
    go_wp2_with (at_builtin; go_must (refine list_append_lit elRul _ rfl _ _ rfl w.heap.size _ (some a) xs.length c (RuleK.row xs) rfl rfl (RuleK.row_len xs) (own_nil_lit _ _ _ _ _ (by simp) (Nat.le_refl _)) (H.out.alloc_ _) rul_one (by simp) (by omega) ?_); intro O oc w2 own hb hq; have HO := Lib.hid own; have HB2 := Lib.hid (bmono hb); clear own hb hq)
    go_ret
    exact ⟨O, oc, rfl, Ow.mk (K := RuleK) HO.out (by omega) HF.out, HB2.out⟩
theorem filt_step {p : Rul → Bool} {xs ys : List Rul} {i j : Nat} (hj : j < xs.length) (h : ys.take i = (xs.take j).filter p) (hp : p xs[j] = false) : ys.take i = (xs.take (j + 1)).filter p := by
  rw [List.take_succ_eq_append_getElem hj, List.filter_append, h]
  simp [hp]
theorem filt_put {p : Rul → Bool} {xs ys : List Rul} {i j : Nat} (hj : j < xs.length) (hl : ys.length = xs.length) (hij : i < j) (h : ys.take i = (xs.take j).filter p) (hp : p xs[j] = true) : (ys.take i ++ xs[j] :: ys.drop (i + 1)).take (i + 1) = (xs.take (j + 1)).filter p := by
  rw [List.take_succ_eq_append_getElem hj, List.filter_append, ← h, List.take_append]
  have e : (ys.take i).length = i := by rw [List.length_take]; omega
  rw [List.take_of_length_le (by omega), e, show i + 1 - i = 1 by omega]
  simp [hp]
theorem filt_drop {xs ys : List Rul} {i j : Nat} (x : Rul) (hl : ys.length = xs.length) (hij : i < j) (hj : j < xs.length) (h : ys.drop j = xs.drop j) : (ys.take i ++ x :: ys.drop (i + 1)).drop (j + 1) = xs.drop (j + 1) := by
  have e : (ys.take i).length = i := by rw [List.length_take]; omega
  have h1 : ys.drop (j + 1) = xs.drop (j + 1) := by rw [← List.drop_drop, h, List.drop_drop]
  rw [List.drop_append, e, List.drop_of_length_le (by omega), List.nil_append, show j + 1 - i = (j - i) + 1 by omega, List.drop_succ_cons, List.drop_drop, ← h1]
  congr 1
  omega
theorem drop_at {xs ys : List Rul} {j : Nat} (hj : j < xs.length) (hl : ys.length = xs.length) (h : ys.drop j = xs.drop j) : ys[j]'(by omega) = xs[j] := by
  rw [List.drop_eq_getElem_cons (by omega), List.drop_eq_getElem_cons hj] at h
  exact (List.cons.inj h).1
theorem filt_start {p : Rul → Bool} {xs : List Rul} {i : Nat} (hi : i < xs.length) (h1 : ∀ k (h : k < i), p (xs[k]'(by omega)) = true) (h2 : p xs[i] = false) : xs.take i = (xs.take (i + 1)).filter p := by
  have e : (xs.take i).filter p = xs.take i := List.filter_eq_self.2 fun y hy => by
    obtain ⟨k, hk, rfl⟩ := List.getElem_of_mem hy
    rw [List.getElem_take]
    exact h1 k (by rw [List.length_take] at hk; omega)
  rw [List.take_succ_eq_append_getElem hi, List.filter_append, e]
  simp [h2]
theorem clear_take {n i : Nat} {P L2 Z : List Value} (h : L2.length = Z.length) (hp : P.length = i * 7) : (setL (P ++ L2) (i * 7) Z).take (i * 7) = P := by
  have h1 := setL_append P L2 Z h []
  rw [List.append_nil, List.append_nil] at h1
  rw [← hp, h1]
  exact List.take_left' rfl
theorem below_putsR {B q : Nat} {w0 w : World} (h : Below B w0 w) (hq : B ≤ q) : ∀ (o : Nat) (vs : List Value), Below B w0 (w.setCells q o vs) := by
  intro o vs
  induction vs generalizing o w with
  | nil => exact h
  | cons v vs ih => exact ih (h.setCell (p := ⟨q, o, none⟩) hq v) (o + 1)
theorem findI_two {p : Rul → Bool} {xs : List Rul} : (findI p 0 xs = -1 ∧ ∀ y ∈ xs, p y = false) ∨ ∃ i : Nat, findI p 0 xs = (i : Int) ∧ ∃ h : i < xs.length, p xs[i] = true ∧ ∀ k (hk : k < i), p (xs[k]'(by omega)) = false := by
  have key : ∀ k, k ≤ xs.length → (∀ m (hm : m < k), (hx : m < xs.length) → p xs[m] = false) → findI p 0 xs = findI p k (xs.drop k) := by
    intro k
    induction k with
    | zero => intro _ _; rfl
    | succ k ih => intro hk h; rw [ih (by omega) (fun m hm hx => h m (by omega) hx), findI_miss (by omega) (h k (by omega) (by omega))]
  have all : ∀ k, k ≤ xs.length → (∀ m (hm : m < k), (hx : m < xs.length) → p xs[m] = false) ∨ ∃ i : Nat, i < k ∧ ∃ h : i < xs.length, p xs[i] = true ∧ ∀ m (hm : m < i), p (xs[m]'(by omega)) = false := by
    intro k
    induction k with
    | zero => intro _; exact .inl (fun m hm => by omega)
    | succ k ih =>
      intro hk
      rcases ih (by omega) with h | ⟨i, hi, h⟩
      · rcases Bool.eq_false_or_eq_true (p (xs[k]'(by omega))) with hp | hp
        · exact .inr ⟨k, by omega, by omega, hp, fun m hm => h m hm (by omega)⟩
        · refine .inl (fun m hm hx => ?_)
          rcases Nat.lt_or_ge m k with h1 | h1
          · exact h m h1 hx
          · obtain rfl : m = k := by omega
            exact hp
      · exact .inr ⟨i, by omega, h⟩
  rcases all xs.length (Nat.le_refl _) with h | ⟨i, hi, hx, hp, hm⟩
  · refine .inl ⟨?_, fun y hy => ?_⟩
    · rw [key xs.length (Nat.le_refl _) h]; exact findI_end
    · obtain ⟨m, hm, rfl⟩ := List.getElem_of_mem hy
      exact h m hm hm
  · exact .inr ⟨i, by rw [key i (by omega) (fun m h1 _ => hm m h1)]; exact findI_hit hx hp, hx, hp, hm⟩
set_option maxHeartbeats 8000000 in
set_option maxRecDepth 100000 in
theorem deleteAb_any (base : Nat) (O : Option Addr) (oc b : Nat) (xs : List Rul) (k : Int) (w : World) (own : OwD RuleK 52 base w O oc xs) (hm : xs.length ≤ 1000000) (hp : w.cell? ⟨b, 0, none⟩ = some (.int .i64 k)) (hbb : b < base) (hb0 : base ≤ w.heap.size) :
    Calls Try.prog 99 #[.slice O xs.length oc, .func (.func 101) #[] #[.pointer (some ⟨b, 0, none⟩)]] w fun e w' => ∃ (m : Nat) (O' : Option Addr) (d : Nat), e = .returned (.slice O' m d) ∧ m = (xs.filter (abv k)).length ∧ OwD RuleK 52 base w' O' d (xs.filter (abv k)) ∧ Below base w w' := by
  have O1 := Lib.hid own
  clear own
  go_enter Try.func99, Try.ntmps99
  go_wp2_with fail
  refine (indexAb_any _ _ _ xs b k _ rfl O1.out.rd.cells (by omega) hp).mono ?_
  rintro e w1 ⟨rfl, hb⟩
  have hp0 := (hb.cell (p := ⟨b, 0, none⟩) (by show b < _; omega)).trans hp
  replace O1 := Lib.hid (O1.out.call hb)
  have HB := Lib.hid (hb.mono hb0)
  clear hb hp
  rcases findI_two (p := fun x : Rul => decide (x.rk ≤ k)) (xs := xs) with ⟨h1, h2⟩ | ⟨i, h1, hi, h2, h3⟩
  · have HE := Lib.hid (show xs.filter (abv k) = xs from List.filter_eq_self.2 fun y hy => abv_f (h2 y hy))
    rw [h1]
    clear h1 h2
    go_wp2
    go_ret
    exact ⟨xs.length, O, oc, rfl, by rw [HE.out], by rw [HE.out]; exact O1.out, HB.out⟩
  · have HS := Lib.hid (filt_start (p := abv k) hi (fun m hm => abv_f (h3 m hm)) (abv_t h2))
    rw [h1]
    clear h1 h2 h3
    have e1 : ((i : Int) == -1) = false := by rw [beq_eq_false_iff_ne]; omega
    have e2 : ¬ (i : Int) = -1 := by omega
    obtain ⟨g, cap, hv, hbg, hgl⟩ := O1.out.1.form (by omega)
    obtain ⟨rfl, _, rfl⟩ : O = some ⟨g, 0, none⟩ ∧ xs.length = xs.length ∧ oc = cap := (by simpa using hv)
    have hcap := own_cap O1.out.1
    clear hv hgl
    go_wp2
    go_loopw [5, 6] (fun vi vj wr => ∃ (i j : Nat) (ys : List Rul), vi = .int .i64 i ∧ vj = .int .i64 j ∧ i < j ∧ j ≤ xs.length ∧ Hid (ys.length = xs.length) ∧ Hid (ys.take i = (xs.take j).filter (abv k)) ∧ Hid (ys.drop j = xs.drop j) ∧ wr.cell? ⟨b, 0, none⟩ = some (.int .i64 k) ∧ Hid (OwD RuleK 52 base wr (some ⟨g, 0, none⟩) oc ys) ∧ Hid (Below base w wr)) (fun _ vj _ => xs.length - (intOf vj).toNat)
    case atStart => exact ⟨i, i + 1, xs, rfl, by first | rfl | go_num, by omega, hi, Lib.hid rfl, HS, Lib.hid rfl, hp0, O1, HB⟩
    case round =>
      clear O1 HB hp0 HS e1 e2 hi
      obtain ⟨i, j, ys, rfl, rfl, hij, hjn, HL, HT, HD, hp1, O1, HB⟩ := hrel
      obtain ⟨wq, hwq⟩ : ∃ x : World, x = wr := ⟨_, rfl⟩
      subst hwq
      have q1 : IntKind.i64.wrap ((j : Int) + 1) = ((j + 1 : Nat) : Int) := by rw [IntKind.wrap_i64]; omega
      have q2 : IntKind.i64.wrap ((i : Int) + 1) = ((i + 1 : Nat) : Int) := by rw [IntKind.wrap_i64]; omega
      have i2 : (i : Int) < (xs.length : Int) := by omega
      by_cases hlt : j < xs.length
      · have i1 : (j : Int) < (xs.length : Int) := by omega
        have HJ := Lib.hid (show j < ys.length by rw [HL.out]; exact hlt)
        have HIY := Lib.hid (show i < ys.length by rw [HL.out]; omega)
        have HX := Lib.hid (drop_at hlt HL.out HD.out)
        have HFS := Lib.hid (fun (h : abv k xs[j] = false) => filt_step hlt HT.out h)
        have HFP := Lib.hid (fun (h : abv k xs[j] = true) => filt_put hlt HL.out hij HT.out h)
        have HFD := Lib.hid (fun x => filt_drop x HL.out hij hlt HD.out)
        have HDN := Lib.hid (show ys.drop (j + 1) = xs.drop (j + 1) by rw [← List.drop_drop, HD.out, List.drop_drop])
        obtain ⟨x, hx⟩ : ∃ x, Hid (xs[j] = x) := ⟨_, Lib.hid rfl⟩
        have HR := Lib.hid (own_rng O1.out HJ.out)
        have HFX : Hid (RuleK.fit x) := Lib.hid (by rw [← hx.out, ← HX.out]; exact O1.out.2.2.2 _ (List.getElem_mem _))
        rw [HX.out, hx.out] at HR
        rw [hx.out] at HFS HFP
        clear HX hx HD HT
        have hbl0 := Nat.le_trans hb0 HB.out.size
        go_upto_region 7 with fail
        replace HR := Lib.hid (show World.rangeAt _ g (j * 7) [.int .i64 x.id, .string x.nm, .int .i64 x.rk, .bool x.sc, .bool x.db, .bool x.am, .int .i64 x.nd] from HR.out)
        have X := Lib.hid (BT.new wq #[.int .i64 x.id, .string x.nm, .int .i64 x.rk, .bool x.sc, .bool x.db, .bool x.am, .int .i64 x.nd] 52 wq.heap.size rfl)
        have hbl := below1 wq (.cells #[.int .i64 x.id, .string x.nm, .int .i64 x.rk, .bool x.sc, .bool x.db, .bool x.am, .int .i64 x.nd] 52)
        have hqg := O1.out.1.lt g rfl
        replace hp1 := cell_alloc hp1 (.cells #[.int .i64 x.id, .string x.nm, .int .i64 x.rk, .bool x.sc, .bool x.db, .bool x.am, .int .i64 x.nd] 52)
        replace O1 := Lib.hid (O1.out.call hbl)
        replace HB := Lib.hid (HB.out.trans (hbl.mono hbl0))
        clear hbl
        go_upto_region 8 with (refine wpList_load_mid rfl 52 _ rfl g (j * 7) rfl [.int .i64 x.id, .string x.nm, .int .i64 x.rk, .bool x.sc, .bool x.db, .bool x.am, .int .i64 x.nd] _ HR.out Try.underlying52 rfl (by kernel_rfl) ?_)
        generalize (wq.alloc (.cells #[.int .i64 x.id, .string x.nm, .int .i64 x.rk, .bool x.sc, .bool x.db, .bool x.am, .int .i64 x.nd] 52)) = v1 at *
        generalize wq.heap.size = q1b at *
        clear HR
        go_wp2_with (refine wpList_load_mid rfl 52 _ rfl q1b 0 rfl [.int .i64 x.id, .string x.nm, .int .i64 x.rk, .bool x.sc, .bool x.db, .bool x.am, .int .i64 x.nd] _ X.out.rng Try.underlying52 rfl (by kernel_rfl) ?_)
        refine (aboveP_any x b k _ hp1).mono ?_
        rintro e v2 ⟨rfl, hb⟩
        replace hp1 := (hb.cell (p := ⟨b, 0, none⟩) (World.block_lt_of_cell? _ _ hp1)).trans hp1
        replace O1 := Lib.hid (O1.out.call hb)
        replace X := Lib.hid (X.out.call hb)
        replace HB := Lib.hid (HB.out.trans (hb.mono (Nat.le_trans hb0 HB.out.size)))
        clear hb
        rcases Bool.eq_false_or_eq_true (decide (x.rk ≤ k)) with hd | hd
        · have HN := Lib.hid (HFS.out (abv_t hd))
          rw [hd]
          clear hd HFS HFP HFD X
          go_wp2
          go_roundw
          case rel => exact ⟨i, j + 1, ys, rfl, by go_num, by omega, by omega, HL, HN, HDN, hp1, O1, HB⟩
          case measure => simp [intOf]; omega
        · have HN := Lib.hid (HFP.out (abv_f hd))
          have HDN2 := Lib.hid (HFD.out x)
          have HL2 := Lib.hid (show (ys.take i ++ x :: ys.drop (i + 1)).length = xs.length by (have h1 := HL.out); simp; omega)
          rw [hd]
          clear hd HFS HFP HFD HDN
          have HTH := Lib.hid (own_there O1.out HIY.out)
          replace HTH := Lib.hid (show World.there _ g (i * 7) 7 from HTH.out)
          go_upto_region 9 with fail
          go_wp2_with (first | (refine wpList_load_mid rfl 52 _ rfl q1b 0 rfl [.int .i64 x.id, .string x.nm, .int .i64 x.rk, .bool x.sc, .bool x.db, .bool x.am, .int .i64 x.nd] _ X.out.rng Try.underlying52 rfl (by kernel_rfl) ?_) | (refine wpList_store_mid rfl 52 _ _ rfl g (i * 7) #[.int .i64 x.id, .string x.nm, .int .i64 x.rk, .bool x.sc, .bool x.db, .bool x.am, .int .i64 x.nd] rfl rfl HTH.out (by kernel_rfl) (by simp [Value.oneCell']) ?_; replace O1 := Lib.hid (show OwD RuleK 52 base (v2.setCells g (i * 7) [.int .i64 x.id, .string x.nm, .int .i64 x.rk, .bool x.sc, .bool x.db, .bool x.am, .int .i64 x.nd]) (some ⟨g, 0, none⟩) oc (ys.take i ++ x :: ys.drop (i + 1)) from own_put7 O1.out HIY.out x HFX.out); replace HB := Lib.hid (show Below base w (v2.setCells g (i * 7) [.int .i64 x.id, .string x.nm, .int .i64 x.rk, .bool x.sc, .bool x.db, .bool x.am, .int .i64 x.nd]) from below_putsR HB.out hbg _ _); replace hp1 := (show (v2.setCells g (i * 7) [.int .i64 x.id, .string x.nm, .int .i64 x.rk, .bool x.sc, .bool x.db, .bool x.am, .int .i64 x.nd]).cell? ⟨b, 0, none⟩ = some (.int .i64 k) from (World.cell?_setCells_out g _ _ _ _ (fun h9 _ => absurd h9 (by show ¬ b = g; omega))).trans hp1); rw [show v2.setCells g (i * 7) (#[.int .i64 x.id, .string x.nm, .int .i64 x.rk, .bool x.sc, .bool x.db, .bool x.am, .int .i64 x.nd] : Array Value).toList = v2.setCells g (i * 7) [.int .i64 x.id, .string x.nm, .int .i64 x.rk, .bool x.sc, .bool x.db, .bool x.am, .int .i64 x.nd] from rfl]; clear X HTH; generalize v2.setCells g (i * 7) [.int .i64 x.id, .string x.nm, .int .i64 x.rk, .bool x.sc, .bool x.db, .bool x.am, .int .i64 x.nd] = V9 at *))
          go_roundw
          case rel => exact ⟨i + 1, j + 1, _, by go_num, by go_num, by omega, by omega, HL2, HN, HDN2, hp1, O1, HB⟩
          case measure => simp [intOf]; omega
      · obtain rfl : j = xs.length := by omega
        have HT2 := Lib.hid (show ys.take i = xs.filter (abv k) by rw [HT.out, List.take_length])
        have own7 := O1.out.1
        have hyl := HL.out
        obtain ⟨Z, hZ⟩ : ∃ Z, (Builtin.zeroCells (Value.cells (.agg #[.int .i64 0, .string ByteArray.empty, .int .i64 0, .bool false, .bool false, .bool false, .int .i64 0])) (xs.length - i)).toList = Z := ⟨_, rfl⟩
        have hZl : Z.length = (xs.length - i) * 7 := by
          rw [← hZ, Array.length_toList, size_zeroCells]
          rfl
        rw [hyl] at own7
        have own8 : wq.ownsRow base 52 7 (.slice (some ⟨g, 0, none⟩) xs.length oc) xs.length (RuleK.row ys) := own7
        have hcl : ∀ ty, (Builtin.clear_ #[24] ty #[.slice (some ⟨g, i * 7, none⟩) (xs.length - i) (oc - i)]).run Try.prog wq = .ok (.tuple #[]) (wq.setCells g (i * 7) Z) :=
          fun ty => run_clear_k wq _ _ ty _ Z Try.underlying24 zero_rul g _ _ _ (by omega) hZ (fun t ht => by
            obtain ⟨u, hu⟩ := own_cell own8 (j := i * 7 + t) (by rw [hZl] at ht; omega)
            rw [hu]; rfl) (fun t ht => own8.frozenAt _) (fun v hv => zeroCells_rul _ v (by rw [hZ]; exact hv))
        have HFIN := Lib.hid (show OwD RuleK 52 base (wq.setCells g (i * 7) Z) (some ⟨g, 0, none⟩) oc (xs.filter (abv k)) from by
          have h2 := own_setCells Z (i * 7) own8
          have h3 := own_less h2.1 (show i ≤ xs.length by omega)
          have hPl : (RuleK.row (ys.take i)).length = i * 7 := by rw [Kd.row_len, List.length_take, Nat.min_eq_left (by omega)]; rfl
          have h5 : RuleK.row ys = RuleK.row (ys.take i) ++ RuleK.row (ys.drop i) := by rw [← Kd.row_append, List.take_append_drop]
          rw [h5, clear_take (n := xs.length) (by rw [hZl, Kd.row_len, List.length_drop, hyl]; rfl) hPl, HT2.out] at h3
          have hli : (xs.filter (abv k)).length = i := by rw [← HT2.out, List.length_take]; omega
          refine Ow.mk (by rw [hli]; exact h3) (by omega) (fun y hy => ?_)
          rw [← HT2.out] at hy
          exact O1.out.2.2.2 y (List.mem_of_mem_take hy))
        have HB2 := Lib.hid (below_putsR HB.out hbg (i * 7) Z)
        have hli := Lib.hid (show i = (xs.filter (abv k)).length by rw [← HT2.out, List.length_take]; omega)
        have j1 : ¬ oc = i := by omega
        have j2 : (i : Int) ≤ (xs.length : Int) := by omega
        have j3 : (xs.length : Int) ≤ (oc : Int) := by omega
        have j4 : (i : Int) ≤ (oc : Int) := by omega
        clear own7 own8 hyl hZ hZl O1 HB
        go_wp2
        go_ret
        exact ⟨i, some ⟨g, 0, none⟩, oc, rfl, hli.out, HFIN.out, HB2.out⟩
end Go.Proofs.Ytifahgdalgjgfaa
