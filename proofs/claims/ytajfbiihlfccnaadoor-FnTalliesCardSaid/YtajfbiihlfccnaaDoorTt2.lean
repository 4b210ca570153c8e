/- TallyText, in the program and in the reference; the walk of its law. Conditions: the table of powers of ten is where the library reads it. -/
import Derived.Test.YtajfbiihlfccnaaDoorTt1
namespace Go.Proofs.YtajfbiihlfccnaaDoor
open Go.RowKit
set_option linter.unusedVariables false
set_option linter.unusedSimpArgs false
def txT (y n a : Int) : ByteArray := if vldT y n a = true then ttS y.toNat n.toNat a.toNat else ByteArray.empty
set_option maxHeartbeats 1000000 in
theorem TallyText_any (y n a : Int) (w : World) (ht : Tab w) :
    Calls Tryd.prog 12 #[.agg #[.int .i64 y, .int .i64 n, .int .i64 a]] w fun e w' => e = .returned (.tuple #[.string (txT y n a), .bool (vldT y n a)]) ∧ Below w.heap.size w w' := by
  have HT := Lib.hid (ht.below (below1 w (.cells #[.int .i64 y, .int .i64 n, .int .i64 a] 23)))
  have HB := Lib.hid (below1 w (.cells #[.int .i64 y, .int .i64 n, .int .i64 a] 23))
  have NX := Lib.hid (show BoxF (w.alloc (.cells #[.int .i64 y, .int .i64 n, .int .i64 a] 23)) w.heap.size [.int .i64 y, .int .i64 n, .int .i64 a] from BoxF.new' w _ _ _ rfl)
  have hz : w.heap.size < (w.alloc (.cells #[.int .i64 y, .int .i64 n, .int .i64 a] 23)).heap.size := by simp
  clear ht
  go_enter Tryd.func12, Tryd.ntmps12
  go_wp2_with fail
  generalize (w.alloc (.cells #[.int .i64 y, .int .i64 n, .int .i64 a] 23)) = W at *
  refine (isValidTally_any y n a W).mono ?_
  rintro e w1 ⟨rfl, hb⟩
  have HT := Lib.hid (HT.out.below hb)
  have HB := Lib.hid (after HB.out hb)
  have NX := Lib.hid (NX.out.below hb hz)
  clear hb
  rcases Bool.eq_false_or_eq_true (vldT y n a) with hv | hv
  · have HV := Lib.hid hv
    rw [hv]
    obtain ⟨h1, h2, h3, h4, h5, h6⟩ := vldT_iff.1 hv
    have HX := Lib.hid (show txT y n a = ttS y.toNat n.toNat a.toNat from if_pos hv)
    obtain ⟨yn, hyn⟩ : ∃ k : Nat, y = (k : Int) := ⟨y.toNat, by omega⟩
    obtain ⟨nn, hnn⟩ : ∃ k : Nat, n = (k : Int) := ⟨n.toNat, by omega⟩
    obtain ⟨an, han⟩ : ∃ k : Nat, a = (k : Int) := ⟨a.toNat, by omega⟩
    subst hyn hnn han
    have e0 := NX.out.1 0 _ rfl
    have e1 := NX.out.1 1 _ rfl
    have e2 := NX.out.1 2 _ rfl
    have HX2 := Lib.hid (HX.out.trans (show _ = ttS yn nn an by simp))
    clear hv h1 h3 h5 HX
    go_wp2_with fail
    refine (tallyText_any yn nn an (by omega) (by omega) (by omega) w1 HT.out).mono ?_
    rintro e w2 ⟨rfl, hb⟩
    have HB2 := Lib.hid (after HB.out hb)
    clear hb e0 e1 e2
    go_wp2
    go_ret2
    rw [HX2.out, HV.out]
    exact ⟨by first | rfl | (simp; done) | (simp [Array.getD]; done), HB2.out⟩
  · have HV := Lib.hid hv
    rw [hv]
    have HX := Lib.hid (show txT y n a = ByteArray.empty from if_neg (by simp [hv]))
    clear hv
    go_wp2
    go_ret2
    rw [HX.out, HV.out]
    exact ⟨by first | rfl | (simp; done) | (simp [Array.getD]; done), HB.out⟩
set_option maxHeartbeats 1000000 in
theorem sTallyText_any (y n a : Int) (w : World) (ht : Tab w) :
    Calls Tryd.prog 13 #[.agg #[.int .i64 y, .int .i64 n, .int .i64 a]] w fun e w' => e = .returned (.tuple #[.string (txT y n a), .bool (vldT y n a)]) ∧ Below w.heap.size w w' := by
  have HT := Lib.hid (ht.below (below1 w (.cells #[.int .i64 y, .int .i64 n, .int .i64 a] 23)))
  have HB := Lib.hid (below1 w (.cells #[.int .i64 y, .int .i64 n, .int .i64 a] 23))
  have NX := Lib.hid (show BoxF (w.alloc (.cells #[.int .i64 y, .int .i64 n, .int .i64 a] 23)) w.heap.size [.int .i64 y, .int .i64 n, .int .i64 a] from BoxF.new' w _ _ _ rfl)
  have hz : w.heap.size < (w.alloc (.cells #[.int .i64 y, .int .i64 n, .int .i64 a] 23)).heap.size := by simp
  clear ht
  go_enter Tryd.func13, Tryd.ntmps13
  go_wp2_with fail
  generalize (w.alloc (.cells #[.int .i64 y, .int .i64 n, .int .i64 a] 23)) = W at *
  refine (l11Good_any y n a W).mono ?_
  rintro e w1 ⟨rfl, hb⟩
  have HT := Lib.hid (HT.out.below hb)
  have HB := Lib.hid (after HB.out hb)
  have NX := Lib.hid (NX.out.below hb hz)
  clear hb
  rcases Bool.eq_false_or_eq_true (vldT y n a) with hv | hv
  · have HV := Lib.hid hv
    rw [hv]
    obtain ⟨h1, h2, h3, h4, h5, h6⟩ := vldT_iff.1 hv
    have HX := Lib.hid (show txT y n a = ttS y.toNat n.toNat a.toNat from if_pos hv)
    obtain ⟨yn, hyn⟩ : ∃ k : Nat, y = (k : Int) := ⟨y.toNat, by omega⟩
    obtain ⟨nn, hnn⟩ : ∃ k : Nat, n = (k : Int) := ⟨n.toNat, by omega⟩
    obtain ⟨an, han⟩ : ∃ k : Nat, a = (k : Int) := ⟨a.toNat, by omega⟩
    subst hyn hnn han
    have e0 := NX.out.1 0 _ rfl
    have e1 := NX.out.1 1 _ rfl
    have e2 := NX.out.1 2 _ rfl
    have HX2 := Lib.hid (HX.out.trans (show _ = ttS yn nn an by simp))
    clear hv h1 h3 h5 HX
    go_wp2_with fail
    refine (l11Text_any yn nn an (by omega) (by omega) (by omega) w1 HT.out).mono ?_
    rintro e w2 ⟨rfl, hb⟩
    have HB2 := Lib.hid (after HB.out hb)
    clear hb e0 e1 e2
    go_wp2
    go_ret2
    rw [HX2.out, HV.out]
    exact ⟨by first | rfl | (simp; done) | (simp [Array.getD]; done), HB2.out⟩
  · have HV := Lib.hid hv
    rw [hv]
    have HX := Lib.hid (show txT y n a = ByteArray.empty from if_neg (by simp [hv]))
    clear hv
    go_wp2
    go_ret2
    rw [HX.out, HV.out]
    exact ⟨by first | rfl | (simp; done) | (simp [Array.getD]; done), HB.out⟩
end Go.Proofs.YtajfbiihlfccnaaDoor
