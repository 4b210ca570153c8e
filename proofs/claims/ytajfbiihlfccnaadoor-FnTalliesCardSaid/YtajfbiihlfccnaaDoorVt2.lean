/- The contracts of the exported functions of chapter 11 (votes) on tallies and needs, of the program and of the reference: both return the same plain function of their arguments. Conditions: none. -/
import Derived.Test.YtajfbiihlfccnaaDoorVt
namespace Go.Proofs.YtajfbiihlfccnaaDoor.Vt
open Go.RowKit
set_option linter.unusedVariables false

/-- The first number from k on, of n numbers, of which p holds. -/
def scan (p : Int → Bool) (k : Int) : Nat → Option Int
  | 0 => none
  | n + 1 => if p k then some k else scan p (k + 1) n
theorem scan_hit {p : Int → Bool} {k : Int} {n : Nat} (h : p k = true) (hn : 0 < n) : scan p k n = some k := by
  cases n with
  | zero => omega
  | succ n => simp [scan, h]
theorem scan_miss {p : Int → Bool} {k : Int} {n m : Nat} (h : p k = false) (hn : n = m + 1) : scan p k n = scan p (k + 1) m := by
  subst hn; simp [scan, h]
/-- The same downwards. -/
def scanDown (p : Int → Bool) (k : Int) : Nat → Option Int
  | 0 => none
  | n + 1 => if p k then some k else scanDown p (k - 1) n
theorem scanDown_hit {p : Int → Bool} {k : Int} {n : Nat} (h : p k = true) (hn : 0 < n) : scanDown p k n = some k := by
  cases n with
  | zero => omega
  | succ n => simp [scanDown, h]
theorem scanDown_miss {p : Int → Bool} {k : Int} {n m : Nat} (h : p k = false) (hn : n = m + 1) : scanDown p k n = scanDown p (k - 1) m := by
  subst hn; simp [scanDown, h]
theorem scanDown_skip {p : Int → Bool} (d : Nat) : ∀ (k : Int) (n : Nat), (∀ j, k - d < j → j ≤ k → p j = false) → d ≤ n → scanDown p k n = scanDown p (k - d) (n - d) := by
  induction d with
  | zero => intro k n _ _; simp
  | succ d ih =>
    intro k n h hn
    rw [scanDown_miss (m := n - 1) (h k (by omega) (by omega)) (by omega), ih (k - 1) (n - 1) (fun j h1 h2 => h j (by omega) (by omega)) (by omega)]
    congr 1 <;> omega
def optR : Option Int → Value
  | some k => .tuple #[.int .i64 k, .bool true]
  | none => .tuple #[.int .i64 0, .bool false]
def needed (k no : Int) : Option Int := if inB k 1 3 && inB no 0 1000 then scan (fun y => adB k y no) 0 2002 else none
def mostNo (k yes : Int) : Option Int := if inB k 1 3 && inB yes 0 1000 then scanDown (fun n => adB k yes n) yes (yes.toNat + 1) else none
theorem adB_above {k yes j : Int} (hj : yes < j) : adB k yes j = false := by
  unfold adB
  split
  · simp; omega
  · split <;> simp <;> omega
theorem mostNo_high (k yes : Int) (h0 : 0 ≤ yes) (h1 : yes ≤ 1000) : scanDown (fun n => adB k yes n) 1000 1001 = scanDown (fun n => adB k yes n) yes (yes.toNat + 1) := by
  rw [scanDown_skip (1000 - yes.toNat) 1000 1001 (fun j h1 h2 => adB_above (by omega)) (by omega)]
  congr 1 <;> omega
end Go.Proofs.YtajfbiihlfccnaaDoor.Vt
