/- Sections asked for, how many parts they have, what they belong to. Conditions: the ranges named. -/
import Derived.Test.YtajfbiihlfccnaaDoorSe3
namespace Go.Proofs.YtajfbiihlfccnaaDoor
open Go.RowKit
set_option linter.unusedVariables false
set_option linter.unusedSimpArgs false
theorem below_drews {lo : Nat} {w w1 w2 : World} (h : Below lo w w1) (hm : ∃ m, w2 = w1.drewN m) : Below lo w w2 := by obtain ⟨m, rfl⟩ := hm; exact ⟨h.os, h.tape, h.output, h.size, h.block⟩
def poI (xs : List Sec) (i : Int) : Int := if askB xs i = true then (partN xs i.toNat : Int) else 0
def upB (xs : List Sec) (i : Int) : Bool := askB xs i && decide (0 ≤ upN xs i.toNat)
def upI (xs : List Sec) (i : Int) : Int := if upB xs i = true then upN xs i.toNat else 0
theorem hasSection_any (A : Option Addr) (c : Nat) (xs : List Sec) (i : Int) (w : World) (h : Cells w A (SectionK.row xs)) (hn : xs.length ≤ 1048576) (hf : ∀ x ∈ xs, SectionK.fit x) :
    Calls Tryd.prog 63 #[.slice A xs.length c, .int .i64 i] w fun e w' => e = .returned (.bool (askB xs i)) ∧ Below w.heap.size w w' := by
  have H := Lib.hid h
  have HF := Lib.hid hf
  clear h hf
  have q1 : IntKind.i64.wrap ((xs.length : Int) - 1) = (xs.length : Int) - 1 := by rw [IntKind.wrap_i64]; omega
  have HR := Lib.hid (show askB xs i = (docB xs && inB i 0 ((xs.length : Int) - 1)) from rfl)
  go_enter Tryd.func63, Tryd.ntmps63
  go_wp2_with fail
  refine (IsDocument_any A c xs _ H.out hn HF.out).mono ?_
  rintro e w1 ⟨rfl, hb⟩
  have HB := Lib.hid hb
  clear hb
  rcases Bool.eq_false_or_eq_true (docB xs) with hd | hd
  · rw [hd]
    rw [hd] at HR
    go_wp2_with (go_at_call 70; refine (inside_any _ _ _ _).mono ?_; rintro e w2 ⟨rfl, rfl⟩)
    go_ret
    exact ⟨ret_bool HR.out.symm, HB.out⟩
  · rw [hd]
    rw [hd] at HR
    go_wp2
    go_ret
    exact ⟨ret_bool HR.out.symm, HB.out⟩
theorem BelongsTo_any (A : Option Addr) (c : Nat) (xs : List Sec) (i : Int) (w : World) (h : Cells w A (SectionK.row xs)) (hn : xs.length ≤ 1048576) (hf : ∀ x ∈ xs, SectionK.fit x) :
    Calls Tryd.prog 31 #[.slice A xs.length c, .int .i64 i] w fun e w' => e = .returned (.tuple #[.int .i64 (upI xs i), .bool (upB xs i)]) ∧ Below w.heap.size w w' := by
  have H := Lib.hid h
  have HF := Lib.hid hf
  clear h hf
  go_enter Tryd.func31, Tryd.ntmps31
  go_wp2_with fail
  refine (hasSection_any A c xs i _ H.out hn HF.out).mono ?_
  rintro e w1 ⟨rfl, hb⟩
  rcases Bool.eq_false_or_eq_true (askB xs i) with hd | hd
  · obtain ⟨h1, h2, n, rfl, hl⟩ := ask_at hd
    have HB := Lib.hid hb
    have HRB := Lib.hid (show upB xs (n : Int) = decide (0 ≤ upN xs n) by unfold upB; rw [hd]; rfl)
    rw [hd]
    clear hb hd
    go_wp2_with fail
    refine (belongsTo_any A c xs n _ (H.out.below HB.out) hl (by omega)).mono ?_
    rintro e w2 ⟨rfl, hm⟩
    have HB2 := Lib.hid (below_drews HB.out hm)
    clear hm
    by_cases h0 : upN xs n < 0
    · have HR := Lib.hid (show upB xs (n : Int) = false ∧ upI xs (n : Int) = 0 by (have e1 : upB xs (n : Int) = false := by (rw [HRB.out]; exact decide_eq_false (by omega))); exact ⟨e1, by unfold upI; rw [e1]; rfl⟩)
      go_wp2
      go_ret2
      exact ⟨by rw [HR.out.1, HR.out.2]; rfl, HB2.out⟩
    · have HR := Lib.hid (show upB xs (n : Int) = true ∧ upI xs (n : Int) = upN xs n by (have e1 : upB xs (n : Int) = true := by (rw [HRB.out]; exact decide_eq_true (by omega))); exact ⟨e1, by unfold upI; rw [if_pos e1]; rfl⟩)
      go_wp2_with fail
      refine (belongsTo_any A c xs n _ (H.out.below HB2.out) hl (by omega)).mono ?_
      rintro e w3 ⟨rfl, hm⟩
      have HB3 := Lib.hid (below_drews HB2.out hm)
      clear hm
      go_wp2
      go_ret2
      exact ⟨by rw [HR.out.1, HR.out.2]; rfl, HB3.out⟩
  · have HR := Lib.hid (show upB xs i = false ∧ upI xs i = 0 by (have e1 : upB xs i = false := by (unfold upB; rw [hd]; rfl)); exact ⟨e1, by unfold upI; rw [e1]; rfl⟩)
    have HB := Lib.hid hb
    rw [hd]
    clear hb hd
    go_wp2
    go_ret2
    exact ⟨by rw [HR.out.1, HR.out.2]; rfl, HB.out⟩
theorem l6Asked_any (A : Option Addr) (c : Nat) (xs : List Sec) (i : Int) (w : World) (h : Cells w A (SectionK.row xs)) (hn : xs.length ≤ 1048576) (hf : ∀ x ∈ xs, SectionK.fit x) :
    Calls Tryd.prog 65 #[.slice A xs.length c, .int .i64 i] w fun e w' => e = .returned (.bool (askB xs i)) ∧ Below w.heap.size w w' := by
  have H := Lib.hid h
  have HF := Lib.hid hf
  clear h hf
  have q1 : IntKind.i64.wrap ((xs.length : Int) - 1) = (xs.length : Int) - 1 := by rw [IntKind.wrap_i64]; omega
  have HR := Lib.hid (show askB xs i = (docB xs && inB i 0 ((xs.length : Int) - 1)) from rfl)
  go_enter Tryd.func65, Tryd.ntmps65
  go_wp2_with fail
  refine (l6Good_any A c xs _ H.out hn HF.out).mono ?_
  rintro e w1 ⟨rfl, hb⟩
  have HB := Lib.hid (below_drews (Below.refl w.heap.size w) hb)
  clear hb
  rcases Bool.eq_false_or_eq_true (docB xs) with hd | hd
  · rw [hd]
    rw [hd] at HR
    go_wp2_with (go_at_call 72; refine (l1In_any _ _ _ _).mono ?_; rintro e w2 ⟨rfl, rfl⟩)
    go_ret
    exact ⟨ret_bool HR.out.symm, HB.out⟩
  · rw [hd]
    rw [hd] at HR
    go_wp2
    go_ret
    exact ⟨ret_bool HR.out.symm, HB.out⟩
end Go.Proofs.YtajfbiihlfccnaaDoor
