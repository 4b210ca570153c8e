/- The walk of the law on AreVoters: it returns true. Conditions: none. -/
import Derived.Test.YtcojohcnkafgdaaVtM
import Derived.Test.YtcojohcnkafgdaaVo5
namespace Go.Proofs.Ytcojohcnkafgdaa
open Go.RowKit
set_option linter.unusedVariables false
section
variable {B B' : Nat} {w : World} {A D : Option Addr} {c d : Nat} {f : Vtr}
theorem AreVoters_abs (h : Rd IntK B w A c f.ws) (h' : Rd ProxyK B' w D d f.ps) : Calls Try.prog 44 #[.agg #[.slice A f.ws.length c, .slice D f.ps.length d]] w fun e w' => e = .returned (.bool (avB f.ws f.ps)) ∧ Below w.heap.size w w' :=
  AreVoters_any A D c d f.ws f.ps w h.cells h.2.2.1 h'.cells h'.2.2.1
theorem sAreVoters_abs (h : Rd IntK B w A c f.ws) (h' : Rd ProxyK B' w D d f.ps) : Calls Try.prog 42 #[.agg #[.slice A f.ws.length c, .slice D f.ps.length d]] w fun e w' => e = .returned (.bool (avB f.ws f.ps)) ∧ Below w.heap.size w w' :=
  sAreVoters_any A D c d f.ws f.ps w h.cells h.2.2.1 h'.cells h'.2.2.1
end
namespace fnExactAreVoters
set_option maxRecDepth 100000 in
set_option maxHeartbeats 4000000 in
theorem walk (AX00 : Option Addr) (cX00 : Nat) (AX01 : Option Addr) (cX01 : Nat) (f : Vtr) (w : World) (hx00 : ((f).ws).length ≤ cX00 ∧ Cells w AX00 (IntK.row (f).ws) ∧ ((f).ws).length ≤ maxLen ∧ ∀ x ∈ (f).ws, IntK.fit x) (hx01 : ((f).ps).length ≤ cX01 ∧ Cells w AX01 (ProxyK.row (f).ps) ∧ ((f).ps).length ≤ maxLen ∧ ∀ x ∈ (f).ps, ProxyK.fit x) :
    Calls Try.prog 12 #[.agg #[.slice AX00 ((f).ws).length cX00, .slice AX01 ((f).ps).length cX01]] w fun e w' => e = .returned (.bool true) ∧ Below w.heap.size w w' := by
  have fX00_i := Lib.hid (show Rd0 IntK w.heap.size w AX00 cX00 (f).ws from ⟨hx00.1, CellsB.of_cells hx00.2.1, hx00.2.2⟩)
  have fX01_i := Lib.hid (show Rd0 ProxyK w.heap.size w AX01 cX01 (f).ps from ⟨hx01.1, CellsB.of_cells hx01.2.1, hx01.2.2⟩)
  clear hx00 hx01
  go_enter Try.func12, Try.ntmps12
  have t0 : Below w.heap.size w (w.alloc (.cells #[.slice AX00 ((f).ws).length cX00, .slice AX01 ((f).ps).length cX01] 52)) := by go_grown
  have nb0 : BoxL (w.alloc (.cells #[.slice AX00 ((f).ws).length cX00, .slice AX01 ((f).ps).length cX01] 52)).heap.size (w.alloc (.cells #[.slice AX00 ((f).ws).length cX00, .slice AX01 ((f).ps).length cX01] 52)) (w.heap.size) (#[.slice AX00 ((f).ws).length cX00, .slice AX01 ((f).ps).length cX01] : Array Value).toList := by
    refine ⟨by simp only [World.size_alloc]; omega, fun i v hi => ?_⟩
    have h1 := (BoxL.new w #[.slice AX00 ((f).ws).length cX00, .slice AX01 ((f).ps).length cX01] 52).2 i v hi
    simpa using h1
  go_wp2_with fail
  generalize (w.alloc (.cells #[.slice AX00 ((f).ws).length cX00, .slice AX01 ((f).ps).length cX01] 52)) = w0 at *
  have bX0_0 := Lib.hid nb0
  have T0 := Lib.hid t0
  clear t0
  have t0 := T0
  have fX00_0 := Lib.hid (fX00_i.out.below t0.out (Nat.le_refl _))
  have fX01_0 := Lib.hid (fX01_i.out.below t0.out (Nat.le_refl _))
  clear nb0 T0 fX00_i fX01_i
  refine (szVt_abs (1048576) fX00_0.out fX01_0.out (by omega) (by omega)).mono ?_
  rintro e w1 ⟨rfl, hb⟩
  have t1 := Lib.hid (after t0.out hb)
  have s1 := Lib.hid hb.size
  have fX00_1 := Lib.hid (fX00_0.out.below hb t0.out.size)
  have fX01_1 := Lib.hid (fX01_0.out.below hb t0.out.size)
  have bX0_1 := Lib.hid (bX0_0.out.below hb (Nat.le_refl _))
  clear fX00_0 fX01_0 bX0_0 hb
  rcases Int.lt_or_le ((szV (f)) (1048576)) 0 with hz | hz
  · go_wp2_with fail
    go_ret
    exact ⟨rfl, t1.out⟩
  have hz0 : ¬ (szV (f)) (1048576) < 0 := by omega
  obtain ⟨fit0, lo0, hi0⟩ := szV_fit hz0 (by omega)
  have FT0 := Lib.hid fit0
  clear fit0 hz
  have fX00_1r := Lib.hid (fX00_1.out.rd (FT0.out.1))
  have fX01_1r := Lib.hid (fX01_1.out.rd (FT0.out.2))
  clear fX00_1 fX01_1
  have eX00 := bX0_1.out.2 0 _ rfl
  have eX01 := bX0_1.out.2 1 _ rfl
  have zX0 := Nat.lt_of_lt_of_le bX0_1.out.1 s1.out
  go_wp2_with fail
  clear eX00 eX01 zX0
  refine (toVt_abs fX00_1r.out fX01_1r.out).mono ?_
  rintro e w2 ⟨AWa00, cWa00, AWa01, cWa01, rfl, oWa00, oWa01, hb⟩
  have t2 := Lib.hid (after t1.out hb)
  have s2 := Lib.hid hb.size
  have fX00_2 := Lib.hid (fX00_1r.out.below hb t1.out.size)
  have fX01_2 := Lib.hid (fX01_1r.out.below hb t1.out.size)
  have bX0_2 := Lib.hid (bX0_1.out.below hb s1.out)
  have fWa00_2 := Lib.hid oWa00
  have fWa01_2 := Lib.hid oWa01
  clear fX00_1r fX01_1r bX0_1 oWa00 oWa01 hb
  have eX00 := bX0_2.out.2 0 _ rfl
  have eX01 := bX0_2.out.2 1 _ rfl
  have zX0 := Nat.lt_of_lt_of_le bX0_2.out.1 (Nat.le_trans s1.out s2.out)
  go_wp2_with fail
  clear eX00 eX01 zX0
  refine (sAreVoters_abs fWa00_2.out.rd fWa01_2.out.rd).mono ?_
  rintro e w3 ⟨rfl, hb⟩
  have t3 := Lib.hid (after t2.out hb)
  have s3 := Lib.hid hb.size
  have fX00_3 := Lib.hid (fX00_2.out.below hb t2.out.size)
  have fX01_3 := Lib.hid (fX01_2.out.below hb t2.out.size)
  have bX0_3 := Lib.hid (bX0_2.out.below hb (Nat.le_trans s1.out s2.out))
  have fWa00_3 := Lib.hid (fWa00_2.out.below hb (Nat.le_refl _))
  have fWa01_3 := Lib.hid (fWa01_2.out.below hb (Nat.le_refl _))
  clear fX00_2 fX01_2 bX0_2 fWa00_2 fWa01_2 hb
  clear fWa00_3 fWa01_3
  have eX00 := bX0_3.out.2 0 _ rfl
  have eX01 := bX0_3.out.2 1 _ rfl
  have zX0 := Nat.lt_of_lt_of_le bX0_3.out.1 (Nat.le_trans s1.out (Nat.le_trans s2.out s3.out))
  go_wp2_with fail
  clear eX00 eX01 zX0
  refine (toVt_abs fX00_3.out fX01_3.out).mono ?_
  rintro e w4 ⟨AY00, cY00, AY01, cY01, rfl, oY00, oY01, hb⟩
  have t4 := Lib.hid (after t3.out hb)
  have s4 := Lib.hid hb.size
  have fX00_4 := Lib.hid (fX00_3.out.below hb t3.out.size)
  have fX01_4 := Lib.hid (fX01_3.out.below hb t3.out.size)
  have bX0_4 := Lib.hid (bX0_3.out.below hb (Nat.le_trans s1.out (Nat.le_trans s2.out s3.out)))
  have fY00_4 := Lib.hid oY00
  have fY01_4 := Lib.hid oY01
  clear fX00_3 fX01_3 bX0_3 oY00 oY01 hb
  have nb := (BoxL.new w4 #[.slice AY00 ((f).ws).length cY00, .slice AY01 ((f).ps).length cY01] 57).mono (show w4.heap.size + 1 ≤ (w4.alloc (.cells #[.slice AY00 ((f).ws).length cY00, .slice AY01 ((f).ps).length cY01] 57)).heap.size by simp)
  have hb : Below w4.heap.size w4 (w4.alloc (.cells #[.slice AY00 ((f).ws).length cY00, .slice AY01 ((f).ps).length cY01] 57)) := by go_grown
  have eX00 := bX0_4.out.2 0 _ rfl
  have eX01 := bX0_4.out.2 1 _ rfl
  have zX0 := Nat.lt_of_lt_of_le bX0_4.out.1 (Nat.le_trans s1.out (Nat.le_trans s2.out (Nat.le_trans s3.out s4.out)))
  go_wp2_with fail
  clear eX00 eX01 zX0
  generalize w4.alloc (.cells #[.slice AY00 ((f).ws).length cY00, .slice AY01 ((f).ps).length cY01] 57) = w5 at *
  have t5 := Lib.hid (after t4.out hb)
  have s5 := Lib.hid hb.size
  have fX00_5 := Lib.hid (fX00_4.out.below hb t4.out.size)
  have fX01_5 := Lib.hid (fX01_4.out.below hb t4.out.size)
  have bX0_5 := Lib.hid (bX0_4.out.below hb (Nat.le_trans s1.out (Nat.le_trans s2.out (Nat.le_trans s3.out s4.out))))
  have fY00_5 := Lib.hid (fY00_4.out.below hb (Nat.le_refl _))
  have fY01_5 := Lib.hid (fY01_4.out.below hb (Nat.le_refl _))
  have bY0_5 := Lib.hid nb
  clear fX00_4 fX01_4 bX0_4 fY00_4 fY01_4 nb hb
  refine (AreVoters_abs fY00_5.out.rd fY01_5.out.rd).mono ?_
  rintro e w6 ⟨rfl, hb⟩
  have t6 := Lib.hid (after t5.out hb)
  have s6 := Lib.hid hb.size
  have fX00_6 := Lib.hid (fX00_5.out.below hb t5.out.size)
  have fX01_6 := Lib.hid (fX01_5.out.below hb t5.out.size)
  have bX0_6 := Lib.hid (bX0_5.out.below hb (Nat.le_trans s1.out (Nat.le_trans s2.out (Nat.le_trans s3.out (Nat.le_trans s4.out s5.out)))))
  have fY00_6 := Lib.hid (fY00_5.out.below hb s5.out)
  have fY01_6 := Lib.hid (fY01_5.out.below hb s5.out)
  have bY0_6 := Lib.hid (bY0_5.out.below hb (Nat.le_refl _))
  clear fX00_5 fX01_5 bX0_5 fY00_5 fY01_5 bY0_5 hb
  have eX00 := bX0_6.out.2 0 _ rfl
  have eX01 := bX0_6.out.2 1 _ rfl
  have zX0 := Nat.lt_of_lt_of_le bX0_6.out.1 (Nat.le_trans s1.out (Nat.le_trans s2.out (Nat.le_trans s3.out (Nat.le_trans s4.out (Nat.le_trans s5.out s6.out)))))
  have eY00 := bY0_6.out.2 0 _ rfl
  have eY01 := bY0_6.out.2 1 _ rfl
  have zY0 := Nat.lt_of_lt_of_le bY0_6.out.1 s6.out
  go_wp2_with fail
  go_region_held3 (fun w' => Below w6.heap.size w6 w' ∧ (∀ b o, b < w6.heap.size → w'.cell? ⟨b, o, none⟩ = w6.cell? ⟨b, o, none⟩))
    ((first | (refine mkS ?_; assumption) | (refine drewS ?_; assumption) | (refine mkS ?_; go_grown)))
    (first
      | (go_at_call 43; refine (toVt_abs (B := w.heap.size) (B' := w.heap.size) ?_ ?_).mono ?_; exact fX00_6.out.below (S1 (by assumption)) t6.out.size; exact fX01_6.out.below (S1 (by assumption)) t6.out.size; rintro e v ⟨AZ00, cZ00, AZ01, cZ01, rfl, oZ00, oZ01, hb⟩; obtain ⟨hB, hzz⟩ := callS (by assumption) (Nat.le_refl _) hb; have HBy := Lib.hid hB; clear hb)
      | (go_at_call 45; refine (eqVt_abs (B := w4.heap.size) (B' := w4.heap.size) (B'' := v.heap.size) (B3 := v.heap.size) ?_ ?_ ?_ ?_).mono ?_; exact fY00_6.out.rd.below HBy.out (Nat.le_trans s5.out s6.out); exact fY01_6.out.rd.below HBy.out (Nat.le_trans s5.out s6.out); exact oZ00.rd; exact oZ01.rd; rintro e w7 ⟨rfl, hb⟩; obtain ⟨hB, hzz⟩ := callS (by assumption) (Nat.le_refl _) hb; have HBz := Lib.hid hB; clear hb))
  have t7 := Lib.hid (after t6.out HBz.out)
  have s7 := Lib.hid HBz.out.size
  have fX00_7 := Lib.hid (fX00_6.out.below HBz.out t6.out.size)
  have fX01_7 := Lib.hid (fX01_6.out.below HBz.out t6.out.size)
  have bX0_7 := Lib.hid (bX0_6.out.below HBz.out (Nat.le_trans s1.out (Nat.le_trans s2.out (Nat.le_trans s3.out (Nat.le_trans s4.out (Nat.le_trans s5.out s6.out))))))
  have fY00_7 := Lib.hid (fY00_6.out.below HBz.out (Nat.le_trans s5.out s6.out))
  have fY01_7 := Lib.hid (fY01_6.out.below HBz.out (Nat.le_trans s5.out s6.out))
  have bY0_7 := Lib.hid (bY0_6.out.below HBz.out s6.out)
  clear eX00 eX01 zX0 eY00 eY01 zY0 fX00_6 fX01_6 bX0_6 fY00_6 fY01_6 bY0_6
  go_wp2
  go_ret
  exact ⟨rfl, t7.out⟩
end fnExactAreVoters
end Go.Proofs.Ytcojohcnkafgdaa
