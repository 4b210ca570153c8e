/- Lists of rules, questions, ints and words in the words of the laws' walks. Conditions: the ranges named. -/
import Derived.Test.YtajbbinphnekiaaQuestion
import Derived.Test.YtajbbinphnekiaaRule
import Derived.Test.YtajbbinphnekiaaInts
import Derived.Test.YtajbbinphnekiaaStrs
namespace Go.Proofs.Ytajbbinphnekiaa
open Go.RowKit
set_option linter.unusedVariables false
section
variable {B B' lo hi : Nat} {w : World} {A A' : Option Addr} {c c' : Nat} {xs : List Rul}
theorem toR_abs (h : Rd RuleK B w A c xs) : Calls Try.prog 18 #[.slice A xs.length c] w (ToL RuleK 67 w xs) := toRuleS_any A c xs w h.cells h.2.2.1 h.2.2.2
theorem eqR_abs (h : Rd RuleK B w A c xs) (k : Rd RuleK B' w A' c' xs) : Calls Try.prog 21 #[.slice A xs.length c, .slice A' xs.length c'] w fun e w' => e = .returned (.bool true) ∧ Below w.heap.size w w' := eqRuleS_same B B' A A' c c' xs w h k
theorem markR_abs' (k : Nat) (kk : Int) (hkk : kk = (k : Int)) (h : Ow RuleK 67 lo hi w A c xs) (hhi : hi ≤ w.heap.size) (hk0 : 0 < k) (hk : k ≤ 20000000) : Calls Try.prog 26 #[.slice A xs.length c, .int .i64 kk] w fun e w' => e = .returned (.int .i64 (kk + 7 * (xs.length : Int))) ∧ Ow RuleK 67 lo hi w' A c (mkL (markRule k) xs.length) ∧ Only lo hi w w' := by
  refine (markRuleS_any lo hi A c k kk hkk xs w h hk0 hk).mono ?_
  rintro e w1 ⟨rfl, h1, h2, h3⟩
  exact ⟨rfl, h1, h2⟩
def szR_of (xs : List Rul) (left : Int) : Int := szRule xs left
theorem szR_abs (left : Int) (h : Rd0 RuleK B w A c xs) (h0 : 0 ≤ left) (h1 : left ≤ 1048576) : Calls Try.prog 15 #[.slice A xs.length c, .int .i64 left] w fun e w' => e = .returned (.int .i64 (szR_of xs left)) ∧ Below w.heap.size w w' := szRuleS_any A c xs left w h.2.1.cells h.2.2.1 h.2.2.2 h0 h1
theorem szR_fit {left : Int} (h : ¬ szR_of xs left < 0) (h1 : left ≤ 1048576) : xs.length ≤ 1048576 ∧ 0 ≤ szR_of xs left ∧ szR_of xs left ≤ 1048576 := by
  have h2 := szF_ok (ss := xs.map (·.nm)) (left := left) (by unfold szR_of szRule at h; omega)
  have h3 : szR_of xs left = szF (xs.map (·.nm)) left := rfl
  rw [List.length_map] at h2
  omega
end
section
variable {B B' lo hi : Nat} {w : World} {A A' : Option Addr} {c c' : Nat} {xs : List Qst}
theorem toQ_abs (h : Rd QuestionK B w A c xs) : Calls Try.prog 19 #[.slice A xs.length c] w (ToL QuestionK 35 w xs) := toQuestionS_any A c xs w h.cells h.2.2.1 h.2.2.2
theorem eqQ_abs (h : Rd QuestionK B w A c xs) (k : Rd QuestionK B' w A' c' xs) : Calls Try.prog 22 #[.slice A xs.length c, .slice A' xs.length c'] w fun e w' => e = .returned (.bool true) ∧ Below w.heap.size w w' := eqQuestionS_same B B' A A' c c' xs w h k
theorem markQ_abs' (k : Nat) (kk : Int) (hkk : kk = (k : Int)) (h : Ow QuestionK 35 lo hi w A c xs) (hhi : hi ≤ w.heap.size) (hk0 : 0 < k) (hk : k ≤ 20000000) : Calls Try.prog 27 #[.slice A xs.length c, .int .i64 kk] w fun e w' => e = .returned (.int .i64 (kk + 3 * (xs.length : Int))) ∧ Ow QuestionK 35 lo hi w' A c (mkL (markQuestion k) xs.length) ∧ Only lo hi w w' := by
  refine (markQuestionS_any lo hi A c k kk hkk xs w h hk0 hk).mono ?_
  rintro e w1 ⟨rfl, h1, h2, h3⟩
  exact ⟨rfl, h1, h2⟩
theorem heldQ_abs' (k : Nat) (kk : Int) (hkk : kk = (k : Int)) {n : Nat} (h : Rd QuestionK B w A c (mkL (markQuestion k) n)) (hk0 : 0 < k) (hk : k ≤ 20000000) : Calls Try.prog 28 #[.slice A n c, .int .i64 kk] w fun e w' => e = .returned (.int .i64 (kk + 3 * (n : Int))) ∧ Below w.heap.size w w' := by
  refine (heldQuestionS_yes A n c k B kk hkk w h hk0 hk).mono ?_
  rintro e w1 ⟨rfl, rfl⟩
  exact ⟨rfl, Below.refl _ _⟩
def szQ_of (xs : List Qst) (left : Int) : Int := szN xs.length left
theorem szQ_abs (left : Int) (h : Rd0 QuestionK B w A c xs) (h0 : 0 ≤ left) (h1 : left ≤ 1048576) : Calls Try.prog 16 #[.slice A xs.length c, .int .i64 left] w fun e w' => e = .returned (.int .i64 (szQ_of xs left)) ∧ Below w.heap.size w w' := by
  refine (szQuestionS_any A c xs.length left w h.2.2.1 h0 h1).mono ?_
  rintro e w1 ⟨rfl, rfl⟩
  exact ⟨rfl, Below.refl _ _⟩
theorem szQ_fit {left : Int} (h : ¬ szQ_of xs left < 0) (h1 : left ≤ 1048576) : xs.length ≤ 1048576 ∧ 0 ≤ szQ_of xs left ∧ szQ_of xs left ≤ 1048576 := by
  unfold szQ_of at h ⊢
  have h2 := szN_ok h
  omega
end
section
variable {B B' lo hi : Nat} {w : World} {A A' : Option Addr} {c c' : Nat} {xs : List Int}
theorem eqI_abs (h : Rd IntK B w A c xs) (k : Rd IntK B' w A' c' xs) : Calls Try.prog 42 #[.slice A xs.length c, .slice A' xs.length c'] w fun e w' => e = .returned (.bool true) ∧ Below w.heap.size w w' := by
  have h1 := eqIntS_any A A' c c' xs xs w h.cells k.cells h.2.2.1 h.2.2.1
  rw [decide_eq_true rfl] at h1
  exact h1
theorem markI_abs' (k : Nat) (kk : Int) (hkk : kk = (k : Int)) (h : Ow IntK 3 lo hi w A c xs) (hhi : hi ≤ w.heap.size) (hk0 : 0 < k) (hk : k ≤ 20000000) : Calls Try.prog 43 #[.slice A xs.length c, .int .i64 kk] w fun e w' => e = .returned (.int .i64 (kk + (xs.length : Int))) ∧ Ow IntK 3 lo hi w' A c (marksI k xs.length) ∧ Only lo hi w w' := by
  refine (markIntS_any lo hi A c k kk hkk xs w h hk).mono ?_
  rintro e w1 ⟨rfl, h1, h2, h3⟩
  exact ⟨rfl, h1, h2⟩
theorem heldI_abs' (k : Nat) (kk : Int) (hkk : kk = (k : Int)) {n : Nat} (h : Rd IntK B w A c (marksI k n)) (hk0 : 0 < k) (hk : k ≤ 20000000) : Calls Try.prog 44 #[.slice A n c, .int .i64 kk] w fun e w' => e = .returned (.int .i64 (kk + (n : Int))) ∧ Below w.heap.size w w' := by
  refine (heldIntS_yes A n c k B kk hkk w h hk).mono ?_
  rintro e w1 ⟨rfl, rfl⟩
  exact ⟨rfl, Below.refl _ _⟩
end
section
variable {B B' lo hi : Nat} {w : World} {A A' : Option Addr} {c c' : Nat} {xs : List ByteArray}
theorem eqT_abs (h : Rd StrK B w A c xs) (k : Rd StrK B' w A' c' xs) : Calls Try.prog 37 #[.slice A xs.length c, .slice A' xs.length c'] w fun e w' => e = .returned (.bool true) ∧ Below w.heap.size w w' := eqStringS_same B B' A A' c c' xs w h k
theorem markT_abs' (k : Nat) (kk : Int) (hkk : kk = (k : Int)) (h : Ow StrK 9 lo hi w A c xs) (hhi : hi ≤ w.heap.size) (hk0 : 0 < k) (hk : k ≤ 20000000) : Calls Try.prog 38 #[.slice A xs.length c, .int .i64 kk] w fun e w' => e = .returned (.int .i64 (kk + (xs.length : Int))) ∧ Ow StrK 9 lo hi w' A c (mkL (markT k) xs.length) ∧ Only lo hi w w' := by
  refine (markStringS_any lo hi A c k kk hkk xs w h hk0 hk).mono ?_
  rintro e w1 ⟨rfl, h1, h2, h3⟩
  exact ⟨rfl, h1, h2⟩
theorem heldT_abs' (k : Nat) (kk : Int) (hkk : kk = (k : Int)) {n : Nat} (h : Rd StrK B w A c (mkL (markT k) n)) (hk0 : 0 < k) (hk : k ≤ 20000000) : Calls Try.prog 39 #[.slice A n c, .int .i64 kk] w fun e w' => e = .returned (.int .i64 (kk + (n : Int))) ∧ Below w.heap.size w w' := by
  refine (heldStringS_yes A n c k B kk hkk w h hk0 hk).mono ?_
  rintro e w1 ⟨rfl, h1⟩
  exact ⟨rfl, h1⟩
end
end Go.Proofs.Ytajbbinphnekiaa
