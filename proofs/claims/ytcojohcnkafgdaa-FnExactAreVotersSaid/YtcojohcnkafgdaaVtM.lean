/- Voters in the words of the laws' walks. Conditions: the ranges named. -/
import Derived.Test.YtcojohcnkafgdaaVtr
namespace Go.Proofs.Ytcojohcnkafgdaa
open Go.RowKit
set_option linter.unusedVariables false
section
variable {B B' B'' B3 lo hi : Nat} {w : World} {A A' D D' : Option Addr} {c c' d d' : Nat} {f : Vtr}
theorem toVt_abs (h : Rd IntK B w A c f.ws) (h' : Rd ProxyK B' w D d f.ps) : Calls Try.prog 43 #[.agg #[.slice A f.ws.length c, .slice D f.ps.length d]] w (fun e w' => ∃ (A : Option Addr) (c : Nat) (D : Option Addr) (d : Nat), e = .returned (.agg #[.slice A f.ws.length c, .slice D f.ps.length d]) ∧ Ow IntK 3 w.heap.size w'.heap.size w' A c f.ws ∧ Ow ProxyK 91 w.heap.size w'.heap.size w' D d f.ps ∧ Below w.heap.size w w') := by
  refine (toVoters_any (max B B') A D c d f w ⟨h.up (Nat.le_max_left _ _), h'.up (Nat.le_max_right _ _)⟩).mono ?_
  rintro e w' ⟨A, c, D, d, rfl, ⟨o1, o2⟩, hb⟩
  exact ⟨A, c, D, d, rfl, o1, o2, hb⟩
theorem eqVt_abs (h : Rd IntK B w A c f.ws) (h' : Rd ProxyK B' w D d f.ps) (k : Rd IntK B'' w A' c' f.ws) (k' : Rd ProxyK B3 w D' d' f.ps) : Calls Try.prog 45 #[.agg #[.slice A f.ws.length c, .slice D f.ps.length d], .agg #[.slice A' f.ws.length c', .slice D' f.ps.length d']] w fun e w' => e = .returned (.bool true) ∧ Below w.heap.size w w' :=
  eqVoters_same (max B B') (max B'' B3) A D A' D' c d c' d' f w ⟨h.up (Nat.le_max_left _ _), h'.up (Nat.le_max_right _ _)⟩ ⟨k.up (Nat.le_max_left _ _), k'.up (Nat.le_max_right _ _)⟩
/-- What the sizes of a list of voters are. -/
def szV (f : Vtr) (left : Int) : Int := if szN f.ws.length left < 0 then -1 else szN f.ps.length (szN f.ws.length left)
theorem szVt_abs (left : Int) (h : Rd0 IntK B w A c f.ws) (h' : Rd0 ProxyK B' w D d f.ps) (h0 : 0 ≤ left) (h1 : left ≤ 1048576) : Calls Try.prog 41 #[.agg #[.slice A f.ws.length c, .slice D f.ps.length d], .int .i64 left] w fun e w' => e = .returned (.int .i64 (szV f left)) ∧ Below w.heap.size w w' :=
  szVoters_any 0 A D c d f left w h.2.2.1 h'.2.2.1 h0 h1
theorem szV_fit {left : Int} (h : ¬ szV f left < 0) (h1 : left ≤ 1048576) : (f.ws.length ≤ 1048576 ∧ f.ps.length ≤ 1048576) ∧ 0 ≤ szV f left ∧ szV f left ≤ 1048576 := by
  unfold szV at h ⊢
  split at h
  · omega
  · rename_i h2
    rw [if_neg h2]
    have h3 := szN_ok h2
    have h4 := szN_ok h
    omega
end
end Go.Proofs.Ytcojohcnkafgdaa
