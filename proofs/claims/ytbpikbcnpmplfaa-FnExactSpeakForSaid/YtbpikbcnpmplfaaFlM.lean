/- Floors in the words of the laws' walks. Conditions: the ranges named. -/
import Derived.Test.YtbpikbcnpmplfaaFlr
namespace Go.Proofs.Ytbpikbcnpmplfaa
open Go.RowKit
set_option linter.unusedVariables false
section
variable {B B' B'' B3 lo hi : Nat} {w : World} {A A' D D' : Option Addr} {c c' d d' : Nat} {f : Flr}
theorem toFl_abs (h : Rd IntK B w A c f.wt) (h' : Rd ShareK B' w D d f.sh) : Calls Try.prog 9 #[.agg #[.int .i64 f.t, .int .i64 f.s, .int .i64 f.sp, .slice A f.wt.length c, .slice D f.sh.length d]] w (fun e w' => ∃ (A : Option Addr) (c : Nat) (D : Option Addr) (d : Nat), e = .returned (.agg #[.int .i64 f.t, .int .i64 f.s, .int .i64 f.sp, .slice A f.wt.length c, .slice D f.sh.length d]) ∧ Ow IntK 3 w.heap.size w'.heap.size w' A c f.wt ∧ Ow ShareK 43 w.heap.size w'.heap.size w' D d f.sh ∧ Below w.heap.size w w') := by
  refine (toFloor_any (max B B') A D c d f w ⟨h.up (Nat.le_max_left _ _), h'.up (Nat.le_max_right _ _)⟩).mono ?_
  rintro e w' ⟨A, c, D, d, rfl, ⟨o1, o2⟩, hb⟩
  exact ⟨A, c, D, d, rfl, o1, o2, hb⟩
theorem eqFl_abs (h : Rd IntK B w A c f.wt) (h' : Rd ShareK B' w D d f.sh) (k : Rd IntK B'' w A' c' f.wt) (k' : Rd ShareK B3 w D' d' f.sh) : Calls Try.prog 11 #[.agg #[.int .i64 f.t, .int .i64 f.s, .int .i64 f.sp, .slice A f.wt.length c, .slice D f.sh.length d], .agg #[.int .i64 f.t, .int .i64 f.s, .int .i64 f.sp, .slice A' f.wt.length c', .slice D' f.sh.length d']] w fun e w' => e = .returned (.bool true) ∧ Below w.heap.size w w' :=
  eqFloor_same (max B B') (max B'' B3) A D A' D' c d c' d' f w ⟨h.up (Nat.le_max_left _ _), h'.up (Nat.le_max_right _ _)⟩ ⟨k.up (Nat.le_max_left _ _), k'.up (Nat.le_max_right _ _)⟩
/-- What the sizes of a floor are. -/
def szF (f : Flr) (left : Int) : Int := if szN f.wt.length left < 0 then -1 else szN f.sh.length (szN f.wt.length left)
theorem szFl_abs (left : Int) (h : Rd0 IntK B w A c f.wt) (h' : Rd0 ShareK B' w D d f.sh) (h0 : 0 ≤ left) (h1 : left ≤ 1048576) : Calls Try.prog 7 #[.agg #[.int .i64 f.t, .int .i64 f.s, .int .i64 f.sp, .slice A f.wt.length c, .slice D f.sh.length d], .int .i64 left] w fun e w' => e = .returned (.int .i64 (szF f left)) ∧ Below w.heap.size w w' :=
  szFloor_any 0 A D c d f left w h.2.2.1 h'.2.2.1 h0 h1
theorem szF_fit {left : Int} (h : ¬ szF f left < 0) (h1 : left ≤ 1048576) : (f.wt.length ≤ 1048576 ∧ f.sh.length ≤ 1048576) ∧ 0 ≤ szF f left ∧ szF f left ≤ 1048576 := by
  unfold szF at h ⊢
  split at h
  · omega
  · rename_i h2
    rw [if_neg h2]
    have h3 := szN_ok h2
    have h4 := szN_ok h
    omega
theorem markFl_abs' (k : Nat) (kk : Int) (hkk : kk = (k : Int)) (h : Ow IntK 3 lo hi w A c f.wt) (h' : Ow ShareK 43 lo hi w D d f.sh) (hhi : hi ≤ w.heap.size) (hk0 : 0 < k) (hk : k ≤ 10000000) : Calls Try.prog 12 #[.agg #[.int .i64 f.t, .int .i64 f.s, .int .i64 f.sp, .slice A f.wt.length c, .slice D f.sh.length d], .int .i64 kk] w fun e w' => e = .returned (.int .i64 (kk + ((f.wt.length : Int) + 3 * f.sh.length))) ∧ Ow IntK 3 lo hi w' A c (markF k f).wt ∧ Ow ShareK 43 lo hi w' D d (markF k f).sh ∧ Only lo hi w w' := by
  refine (markFloor_any lo hi A D c d k kk hkk f w ⟨h, h'⟩ hhi hk0 hk).mono ?_
  rintro e w' ⟨rfl, ⟨o1, o2⟩, ho⟩
  exact ⟨ret_int (by omega), o1, o2, ho⟩
theorem heldFl_abs' (k : Nat) (kk : Int) (hkk : kk = (k : Int)) (h : Rd IntK B w A c (markF k f).wt) (h' : Rd ShareK B' w D d (markF k f).sh) (hk0 : 0 < k) (hk : k ≤ 10000000) : Calls Try.prog 13 #[.agg #[.int .i64 f.t, .int .i64 f.s, .int .i64 f.sp, .slice A f.wt.length c, .slice D f.sh.length d], .int .i64 kk] w fun e w' => e = .returned (.int .i64 (kk + ((f.wt.length : Int) + 3 * f.sh.length))) ∧ Below w.heap.size w w' := by
  refine (heldFloor_yes (max B B') A D c d k kk hkk f w ⟨h.up (Nat.le_max_left _ _), h'.up (Nat.le_max_right _ _)⟩ hk0 hk).mono ?_
  rintro e w' ⟨rfl, hb⟩
  exact ⟨ret_int (by omega), hb⟩
end
end Go.Proofs.Ytbpikbcnpmplfaa
