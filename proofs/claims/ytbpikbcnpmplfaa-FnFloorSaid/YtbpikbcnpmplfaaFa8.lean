/- The contracts of chapter 8 in the words of the draws' walks; sizes. Conditions: the ranges named. -/
import Derived.Test.YtbpikbcnpmplfaaSs9
import Derived.Test.YtbpikbcnpmplfaaSo6
import Derived.Test.YtbpikbcnpmplfaaFv8
import Derived.Test.YtbpikbcnpmplfaaFt1
namespace Go.Proofs.Ytbpikbcnpmplfaa
open Go.RowKit
set_option linter.unusedVariables false
section
variable {B : Nat} {w : World} {A D : Option Addr} {c d : Nat} {f : Flr}
theorem iAskFloor (h : RdF B w A c D d f) (m : Int) : Calls Try.prog 31 #[.agg #[.int .i64 f.t, .int .i64 f.s, .int .i64 f.sp, .slice A f.wt.length c, .slice D f.sh.length d], .int .i64 m] w (ToFB w (asF f m) (asB f m)) := AskFloor_any A D c d f m w h.1.cells h.1.2.2.1 h.1.1 h.2.cells h.2.2.2.1
theorem iLeaveWaiting (h : RdF B w A c D d f) (m : Int) : Calls Try.prog 25 #[.agg #[.int .i64 f.t, .int .i64 f.s, .int .i64 f.sp, .slice A f.wt.length c, .slice D f.sh.length d], .int .i64 m] w (ToFB w (lvF f m) (lvB f m)) := LeaveWaiting_any A D c d f m w h.1.cells h.1.2.2.1 h.1.1 h.2.cells h.2.2.2.1
theorem iNextSpeaker (h : RdF B w A c D d f) : Calls Try.prog 23 #[.agg #[.int .i64 f.t, .int .i64 f.s, .int .i64 f.sp, .slice A f.wt.length c, .slice D f.sh.length d]] w (ToFIB w (nxF f) (nxM f) (nxB f)) := NextSpeaker_any A D c d f w h.1.cells h.1.2.2.1 h.1.1 h.2.cells h.2.2.2.1
theorem iYieldFloor (h : RdF B w A c D d f) : Calls Try.prog 10 #[.agg #[.int .i64 f.t, .int .i64 f.s, .int .i64 f.sp, .slice A f.wt.length c, .slice D f.sh.length d]] w (ToFB w (yfF f) (yfB f)) := YieldFloor_any A D c d f w h.1.cells h.1.2.2.1 h.1.1 h.2.cells h.2.2.2.1
theorem iSpeakFor (h : RdF B w A c D d f) (k : Int) : Calls Try.prog 15 #[.agg #[.int .i64 f.t, .int .i64 f.s, .int .i64 f.sp, .slice A f.wt.length c, .slice D f.sh.length d], .int .i64 k] w (ToFNB w (sfF f k) (sfN f k) (sfB f k)) := SpeakFor_any A D c d f k w h.1.cells h.1.2.2.1 h.1.1 h.2.cells h.2.2.2.1
theorem rAskFloor (h : RdF B w A c D d f) (m : Int) : Calls Try.prog 32 #[.agg #[.int .i64 f.t, .int .i64 f.s, .int .i64 f.sp, .slice A f.wt.length c, .slice D f.sh.length d], .int .i64 m] w (ToFB w (asF f m) (asB f m)) := sAskFloor_any A D c d f m w h.1.cells h.1.2.2.1 h.1.1 h.2.cells h.2.2.2.1
theorem rLeaveWaiting (h : RdF B w A c D d f) (m : Int) : Calls Try.prog 26 #[.agg #[.int .i64 f.t, .int .i64 f.s, .int .i64 f.sp, .slice A f.wt.length c, .slice D f.sh.length d], .int .i64 m] w (ToFB w (lvF f m) (lvB f m)) := sLeaveWaiting_any A D c d f m w h.1.cells h.1.2.2.1 h.1.1 h.2.cells h.2.2.2.1
theorem rNextSpeaker (h : RdF B w A c D d f) : Calls Try.prog 37 #[.agg #[.int .i64 f.t, .int .i64 f.s, .int .i64 f.sp, .slice A f.wt.length c, .slice D f.sh.length d]] w (ToFIB w (nxF f) (nxM f) (nxB f)) := sNextSpeaker_any A D c d f w h.1.cells h.1.2.2.1 h.1.1 h.2.cells h.2.2.2.1
theorem rYieldFloor (h : RdF B w A c D d f) : Calls Try.prog 8 #[.agg #[.int .i64 f.t, .int .i64 f.s, .int .i64 f.sp, .slice A f.wt.length c, .slice D f.sh.length d]] w (ToFB w (yfF f) (yfB f)) := sYieldFloor_any A D c d f w h.1.cells h.1.2.2.1 h.1.1 h.2.cells h.2.1 h.2.2.2.1
theorem rSpeakFor (h : RdF B w A c D d f) (k : Int) : Calls Try.prog 14 #[.agg #[.int .i64 f.t, .int .i64 f.s, .int .i64 f.sp, .slice A f.wt.length c, .slice D f.sh.length d], .int .i64 k] w (ToFNB w (sfF f k) (sfN f k) (sfB f k)) := sSpeakFor_any A D c d f k w h.1.cells h.1.2.2.1 h.1.1 h.2.cells h.2.1 h.2.2.2.1
end
theorem asF_len (f : Flr) (m : Int) : (asF f m).wt.length ≤ f.wt.length + 1 ∧ (asF f m).sh.length ≤ f.sh.length := by
  unfold asF; split <;> simp [zeroF]
theorem cutAt_le (k : Nat) (xs : List Int) : (cutAt k xs).length ≤ xs.length := by unfold cutAt; simp; omega
theorem nxF_len (f : Flr) : (nxF f).wt.length ≤ f.wt.length ∧ (nxF f).sh.length ≤ f.sh.length := by
  unfold nxF; split
  · exact ⟨cutAt_le _ _, Nat.le_refl _⟩
  · simp [zeroF]
theorem yieF_len (f : Flr) : (yieF f).wt.length ≤ f.wt.length ∧ (yieF f).sh.length ≤ f.sh.length + 1 := ⟨Nat.le_refl _, putS_len _ _⟩
theorem yfF_len (f : Flr) : (yfF f).wt.length ≤ f.wt.length ∧ (yfF f).sh.length ≤ f.sh.length + 1 := by
  unfold yfF; split
  · exact yieF_len f
  · simp
theorem sfF_len (f : Flr) (k : Int) : (sfF f k).wt.length ≤ f.wt.length ∧ (sfF f k).sh.length ≤ f.sh.length + 2 := by
  unfold sfF; split
  · have h1 := spk_len f k
    have h3 : (spkG f k).wt.length = f.wt.length := rfl
    split
    · have h2 := yieF_len (spkG f k); omega
    · omega
  · simp
theorem nfF_len (t s : Int) : (nfF t s).wt = [] ∧ (nfF t s).sh = [] := by unfold nfF; split <;> exact ⟨rfl, rfl⟩
theorem lvF_len (f : Flr) (m : Int) : (lvF f m).wt.length ≤ f.wt.length ∧ (lvF f m).sh.length ≤ f.sh.length := by
  unfold lvF; split
  · exact ⟨cutAt_le _ _, Nat.le_refl _⟩
  · simp [zeroF]
end Go.Proofs.Ytbpikbcnpmplfaa
