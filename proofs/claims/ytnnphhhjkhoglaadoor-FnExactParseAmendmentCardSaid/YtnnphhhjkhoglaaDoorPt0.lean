/- Texts cut at a byte, and numerals read. No program is named here. Conditions: the ranges named. -/
import Derived.Lib.AtoiAll
import Derived.Lib.Split
import Derived.Lib.ItoaMem
import Derived.Test.YtnnphhhjkhoglaaDoorKit
namespace Go.Proofs.YtnnphhhjkhoglaaDoor
open Go.Lib
set_option linter.unusedVariables false
/-! ### A text cut at each byte c -/
def spF (c : UInt8) : List UInt8 → List UInt8 → List (List UInt8)
  | cur, [] => [cur]
  | cur, b :: t => if b = c then cur :: spF c [] t else spF c (cur ++ [b]) t
def spl (c : UInt8) (l : List UInt8) : List (List UInt8) := spF c [] l
theorem spF_no {c : UInt8} : ∀ {a cur : List UInt8}, c ∉ a → spF c cur a = [cur ++ a]
  | [], cur, _ => by rw [spF, List.append_nil]
  | b :: t, cur, h => by
    have h1 : b ≠ c := fun e => h (by rw [e]; simp)
    rw [spF, if_neg h1, spF_no (fun h2 => h (List.mem_cons_of_mem _ h2)), List.append_assoc]
    rfl
theorem spF_hit {c : UInt8} : ∀ {a cur r : List UInt8}, c ∉ a → spF c cur (a ++ c :: r) = (cur ++ a) :: spF c [] r
  | [], cur, r, _ => by rw [List.nil_append, spF, if_pos rfl, List.append_nil]
  | b :: t, cur, r, h => by
    have h1 : b ≠ c := fun e => h (by rw [e]; simp)
    rw [List.cons_append, spF, if_neg h1, spF_hit (fun h2 => h (List.mem_cons_of_mem _ h2)), List.append_assoc]
    rfl
theorem spl_ne {c : UInt8} {l : List UInt8} : ∀ {cur}, spF c cur l ≠ [] := by
  induction l with
  | nil => intro cur; simp [spF]
  | cons b t ih => intro cur; rw [spF]; split
                   · simp
                   · exact ih
theorem occ_one {l : List UInt8} {c : UInt8} {j : Nat} : occAt l [c] j = true ↔ l[j]? = some c := by
  unfold occAt
  rw [show l[j]? = (l.drop j)[0]? by rw [List.getElem?_drop, Nat.add_zero]]
  cases l.drop j with
  | nil => simp
  | cons b t => simp [List.isPrefixOf]; exact eq_comm
theorem splitK_spl (c : UInt8) : ∀ (n : Nat) (l : List UInt8), l.length ≤ n → splitK [c] 0 (count l [c]) l = spl c l := by
  intro n
  induction n with
  | zero =>
    intro l hl
    obtain rfl : l = [] := List.eq_nil_of_length_eq_zero (by omega)
    have h1 : index ([] : List UInt8) [c] = -1 := by rfl
    rw [count_miss h1]
    rfl
  | succ n ih =>
    intro l hl
    rcases index_spec l [c] with ⟨h1, h2⟩ | ⟨i, h1, h2, h3, h4⟩
    · rw [count_miss h1]
      have hno : c ∉ l := fun hm => by
        obtain ⟨j, hj, he⟩ := List.getElem_of_mem hm
        have := h2 j (by omega)
        rw [occ_one.2 (by rw [List.getElem?_eq_getElem hj, he])] at this
        cases this
      unfold spl
      rw [spF_no hno]
      rfl
    · have hc := occ_one.1 h3
      have hi : i < l.length := (List.getElem?_eq_some_iff.1 hc).1
      have hce : l[i] = c := (List.getElem?_eq_some_iff.1 hc).2
      have hno : c ∉ l.take i := fun hm => by
        obtain ⟨j, hj, he⟩ := List.getElem_of_mem hm
        rw [List.length_take] at hj
        rw [List.getElem_take] at he
        have := h4 j (by omega)
        rw [occ_one.2 (by rw [List.getElem?_eq_getElem (by omega), he])] at this
        cases this
      have hsp : l = l.take i ++ c :: l.drop (i + 1) := by
        rw [← hce, ← List.drop_eq_getElem_cons hi, List.take_append_drop]
      rw [count_hit (by simp) h1, show [c].length = 1 from rfl, Nat.add_comm 1, splitK]
      have hne : ¬ (index l [c] == -1) = true := by rw [h1]; first | (simp; done) | (simp; omega)
      rw [if_neg hne, h1, show ((i : Nat) : Int).toNat = i by omega, Nat.add_zero, show [c].length = 1 from rfl, ih _ (by rw [List.length_drop]; omega)]
      conv => rhs; unfold spl; rw [hsp, spF_hit hno]
      rfl
/-! ### Numerals -/
theorem parse_app : ∀ (l r : List UInt8) (acc : Nat), parseUint10 acc (l ++ r) = match parseUint10 acc l with
    | .ok u => parseUint10 u r
    | e => e
  | [], r, acc => rfl
  | c :: t, r, acc => by
    rw [List.cons_append, parseUint10, parseUint10]
    split
    · split
      · rfl
      · split
        · rfl
        · exact parse_app t r _
    · rfl
theorem dg_nat {r : Nat} (h : r < 10) : (UInt8.ofNat (48 + r)).toNat = 48 + r := by
  rw [UInt8.toNat_ofNat']
  omega
theorem dec_mem : ∀ {n : Nat} {b : UInt8}, b ∈ decDigits n → 48 ≤ b.toNat ∧ b.toNat ≤ 57 := by
  intro n
  induction n using Nat.strongRecOn with
  | _ n ih =>
    intro b hb
    rcases Nat.lt_or_ge n 10 with h | h
    · rw [decDigits, dif_pos h] at hb
      have hb := List.mem_singleton.1 hb
      subst hb
      rw [dg_nat h]; omega
    · rw [decDigits, dif_neg (by omega)] at hb
      rcases List.mem_append.1 hb with h1 | h1
      · exact ih (n / 10) (by omega) h1
      · have h1 := List.mem_singleton.1 h1
        subst h1
        rw [dg_nat (show n % 10 < 10 by omega)]; omega
theorem dec_ne (n : Nat) : decDigits n ≠ [] := by
  rw [decDigits]
  split <;> simp
theorem dec_len : ∀ {k n : Nat}, n < 10 ^ (k + 1) → (decDigits n).length ≤ k + 1
  | 0, n, h => by rw [decDigits, dif_pos (by omega)]; simp
  | k + 1, n, h => by
    rcases Nat.lt_or_ge n 10 with h1 | h1
    · rw [decDigits, dif_pos h1]; simp
    · rw [decDigits, dif_neg (by omega), List.length_append]
      have := dec_len (k := k) (n := n / 10) (by rw [Nat.pow_succ] at h; omega)
      simp; omega
theorem parse_dec : ∀ {n : Nat}, n < 1000000000000000 → parseUint10 0 (decDigits n) = .ok n := by
  intro n
  induction n using Nat.strongRecOn with
  | _ n ih =>
    intro hn
    rcases Nat.lt_or_ge n 10 with h | h
    · rw [decDigits, dif_pos h]
      simp only [parseUint10, dg_nat h]
      rw [if_pos (by omega), if_neg (by omega), if_neg (by omega)]
      congr 1
      omega
    · rw [decDigits, dif_neg (by omega), parse_app, ih (n / 10) (by omega) (by omega)]
      simp only [parseUint10, dg_nat (show n % 10 < 10 by omega)]
      rw [if_pos (by omega), if_neg (by omega), if_neg (by omega)]
      congr 1
      omega
theorem atoi_dec {n : Nat} (hn : n < 1000000000000000) : atoiAll (decDigits n) = .ok (n : Int) := by
  have hp : parseMag (decDigits n) = .ok n := by unfold parseMag; rw [if_neg (dec_ne n), parse_dec hn]
  obtain ⟨c, r, hc⟩ : ∃ c r, decDigits n = c :: r := by
    cases h : decDigits n with
    | nil => exact absurd h (dec_ne n)
    | cons c r => exact ⟨c, r, rfl⟩
  have hd := dec_mem (n := n) (b := c) (by rw [hc]; simp)
  rw [hc] at hp ⊢
  simp only [atoiAll]
  rw [if_neg (show ¬ (c.toNat = 43 ∨ c.toNat = 45) by omega), hp]
  simp only
  rw [if_neg (by omega), if_neg (by omega), if_neg (by omega)]
/-- What a text of decimal digits says. -/
def rdV (acc : Nat) : List UInt8 → Option Nat
  | [] => some acc
  | c :: r => if 48 ≤ c.toNat ∧ c.toNat ≤ 57 then rdV (10 * acc + (c.toNat - 48)) r else none
theorem rd_app : ∀ (l r : List UInt8) (acc : Nat), rdV acc (l ++ r) = (rdV acc l).bind (fun u => rdV u r)
  | [], r, acc => rfl
  | c :: t, r, acc => by
    rw [List.cons_append, rdV, rdV]
    split
    · exact rd_app t r _
    · rfl
theorem rd_dec : ∀ {n : Nat}, rdV 0 (decDigits n) = some n := by
  intro n
  induction n using Nat.strongRecOn with
  | _ n ih =>
    rcases Nat.lt_or_ge n 10 with h | h
    · rw [decDigits, dif_pos h]
      simp only [rdV, dg_nat h]
      rw [if_pos (by omega)]
      congr 1
      omega
    · rw [decDigits, dif_neg (by omega), rd_app, ih (n / 10) (by omega)]
      simp only [Option.bind, rdV, dg_nat (show n % 10 < 10 by omega)]
      rw [if_pos (by omega)]
      congr 1
      omega
/-- A number as the program reads it. -/
def piV (l : List UInt8) : Option Int := if l.length ≤ 7 then (match atoiAll l with
    | .ok v => if (-999999 ≤ v ∧ v ≤ 999999) ∧ itoa v = l then some v else none
    | _ => none) else none
theorem pi_dec {n : Nat} (h : n ≤ 999999) : piV (decDigits n) = some (n : Int) := by
  have hl : (decDigits n).length ≤ 6 := dec_len (k := 5) (by omega)
  unfold piV
  rw [if_pos (by omega), atoi_dec (by omega)]
  simp only
  rw [if_pos ⟨by omega, itoa_nonneg n⟩]
/-- A number as the reference reads it. -/
def tlV (l : List UInt8) : List UInt8 := if 1 < l.length ∧ l.head? = some 45 then l.tail else l
def lrV (l : List UInt8) : Option Int := if 1 ≤ (tlV l).length ∧ (tlV l).length ≤ 6 then (match rdV 0 (tlV l) with
    | some u => if itoa (if (tlV l).length < l.length then -(u : Int) else u) = l then some (if (tlV l).length < l.length then -(u : Int) else u) else none
    | none => none) else none
theorem tl_dec (n : Nat) : tlV (decDigits n) = decDigits n := by
  unfold tlV
  rw [if_neg]
  rintro ⟨_, h⟩
  have h1 := List.mem_of_mem_head? h
  have := dec_mem h1
  simp at this
theorem lr_dec {n : Nat} (h : n ≤ 999999) : lrV (decDigits n) = some (n : Int) := by
  have hl : (decDigits n).length ≤ 6 := dec_len (k := 5) (by omega)
  have h1 : 1 ≤ (decDigits n).length := by
    rcases Nat.eq_zero_or_pos (decDigits n).length with h2 | h2
    · exact absurd (List.eq_nil_of_length_eq_zero h2) (dec_ne n)
    · exact h2
  unfold lrV
  rw [tl_dec, if_pos ⟨h1, hl⟩, rd_dec]
  have e : ¬ (decDigits n).length < (decDigits n).length := Nat.lt_irrefl _
  simp only [if_neg e]
  rw [if_pos (itoa_nonneg n)]
end Go.Proofs.YtnnphhhjkhoglaaDoor
