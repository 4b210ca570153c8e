/- slices.SortStableFunc at at most 19 numbers, and the order of speaking in the program. Conditions: the ranges named. -/
import Derived.Test.YtbpikbcnpmplfaaSo3
namespace Go.Proofs.Ytbpikbcnpmplfaa
open Go.RowKit
set_option linter.unusedVariables false
set_option linter.unusedSimpArgs false
set_option maxHeartbeats 2000000 in
theorem insSortA_any (w0 w : World) (A D E : Option Addr) (c d oc q : Nat) (f : Flr) (xs : List Int) (hd : Cells w0 D (ShareK.row f.sh)) (hn : f.sh.length ≤ 1048576) (hq : FBox w0 q A D c d f) (hql : q < w0.heap.size) (own : w.ownsRow w0.heap.size 3 1 (.slice E xs.length oc) xs.length (IntK.row xs)) (hm : xs.length ≤ 19) (hB : Below w0.heap.size w0 w) :
    Calls Try.prog 101 #[.slice E xs.length oc, .int .i64 0, .int .i64 xs.length, .func (.func 89) #[] #[.pointer (some ⟨q, 0, none⟩)]] w (fun e w' => e = .returned (.tuple #[]) ∧ w'.ownsRow w0.heap.size 3 1 (.slice E xs.length oc) xs.length (IntK.row (isortT (trn f) xs)) ∧ Below w0.heap.size w0 w') := by
  rcases own.2 with ⟨hv, hn0⟩ | ⟨g, cap, cur, hv, _⟩
  · obtain ⟨rfl, _, rfl⟩ : E = none ∧ xs.length = 0 ∧ oc = 0 := by simpa using hv
    obtain rfl : xs = [] := List.eq_nil_of_length_eq_zero hn0
    have HO := Lib.hid own
    have HB := Lib.hid hB
    clear own hB hv hn0 hd hq
    go_enter Try.func101, Try.ntmps101
    go_wp2
    go_loop [8] (fun vi => vi = .int .i64 1) (fun _ => 0)
    case atStart => rfl
    case round =>
      subst hrel
      go_wp2
      go_end0
      exact ⟨rfl, HO.out, HB.out⟩
  · obtain ⟨rfl, _, rfl⟩ : E = some ⟨g, 0, none⟩ ∧ xs.length = xs.length ∧ oc = cap := by simpa using hv
    exact insSort_any w0 w A D c d g oc q f xs hd hn hq hql own (by omega) hB
set_option maxHeartbeats 2000000 in
theorem stable_any (w0 w : World) (A D E : Option Addr) (c d oc q : Nat) (f : Flr) (xs : List Int) (hd : Cells w0 D (ShareK.row f.sh)) (hn : f.sh.length ≤ 1048576) (hq : FBox w0 q A D c d f) (hql : q < w0.heap.size) (own : w.ownsRow w0.heap.size 3 1 (.slice E xs.length oc) xs.length (IntK.row xs)) (hm : xs.length ≤ 19) (hB : Below w0.heap.size w0 w) :
    Calls Try.prog 97 #[.slice E xs.length oc, .int .i64 xs.length, .func (.func 89) #[] #[.pointer (some ⟨q, 0, none⟩)]] w (fun e w' => e = .returned (.tuple #[]) ∧ w'.ownsRow w0.heap.size 3 1 (.slice E xs.length oc) xs.length (IntK.row (isortT (trn f) xs)) ∧ Below w0.heap.size w0 w') := by
  have HD := Lib.hid hd
  have HQ := Lib.hid hq
  have HO := Lib.hid own
  have HB := Lib.hid hB
  have t1 : ¬ (20 : Int) ≤ (xs.length : Int) := by omega
  have t2 : ¬ (20 : Int) < (xs.length : Int) := by omega
  clear hd hq own hB
  go_enter Try.func97, Try.ntmps97
  go_wp2
  go_loop [7, 8] (fun va vb => va = .int .i64 0 ∧ vb = .int .i64 20) (fun _ _ => 0)
  case atStart => exact ⟨rfl, rfl⟩
  case round =>
    obtain ⟨rfl, rfl⟩ := hrel
    go_wp2_with (go_at_call 101; refine (insSortA_any w0 _ A D E c d oc q f xs HD.out hn HQ.out hql HO.out hm HB.out).mono ?_; rintro e w1 ⟨rfl, o1, b1⟩; have HO1 := Lib.hid o1; have HB1 := Lib.hid b1; clear o1 b1)
    go_loop [6] (fun v6 => v6 = .int .i64 20) (fun _ => 0)
    case atStart => rfl
    case round =>
      subst hrel
      go_wp2
      go_end0
      exact ⟨rfl, HO1.out, HB1.out⟩
theorem sortStable_any (w0 w : World) (A D E : Option Addr) (c d oc q : Nat) (f : Flr) (xs : List Int) (hd : Cells w0 D (ShareK.row f.sh)) (hn : f.sh.length ≤ 1048576) (hq : FBox w0 q A D c d f) (hql : q < w0.heap.size) (own : w.ownsRow w0.heap.size 3 1 (.slice E xs.length oc) xs.length (IntK.row xs)) (hm : xs.length ≤ 19) (hB : Below w0.heap.size w0 w) :
    Calls Try.prog 88 #[.slice E xs.length oc, .func (.func 89) #[] #[.pointer (some ⟨q, 0, none⟩)]] w (fun e w' => e = .returned (.tuple #[]) ∧ w'.ownsRow w0.heap.size 3 1 (.slice E xs.length oc) xs.length (IntK.row (isortT (trn f) xs)) ∧ Below w0.heap.size w0 w') := by
  have HD := Lib.hid hd
  have HQ := Lib.hid hq
  have HO := Lib.hid own
  have HB := Lib.hid hB
  have hcap := own_cap own
  clear hd hq own hB
  go_enter Try.func88, Try.ntmps88
  go_wp2_with (go_at_call 97; refine (stable_any w0 _ A D E c d oc q f xs HD.out hn HQ.out hql HO.out hm HB.out).mono ?_; rintro e w1 ⟨rfl, o1, b1⟩; have HO1 := Lib.hid o1; have HB1 := Lib.hid b1; clear o1 b1)
  go_end0
  exact ⟨rfl, HO1.out, HB1.out⟩
set_option maxHeartbeats 2000000 in
theorem speakingOrder_any (A D : Option Addr) (c d : Nat) (f : Flr) (w : World) (ha : Cells w A (IntK.row f.wt)) (hm : f.wt.length ≤ 19) (hd : Cells w D (ShareK.row f.sh)) (hn : f.sh.length ≤ 1048576) :
    Calls Try.prog 67 #[.agg #[.int .i64 f.t, .int .i64 f.s, .int .i64 f.sp, .slice A f.wt.length c, .slice D f.sh.length d]] w (ToL IntK 3 w (isortT (trn f) f.wt)) := by
  have HA := Lib.hid ha
  have HD := Lib.hid hd
  have HQ := Lib.hid (show FBox (w.alloc (.cells #[.int .i64 f.t, .int .i64 f.s, .int .i64 f.sp, .slice A f.wt.length c, .slice D f.sh.length d] 29)) w.heap.size A D c d f from BoxF.new5 w (.int .i64 f.t) (.int .i64 f.s) (.int .i64 f.sp) (.slice A f.wt.length c) (.slice D f.sh.length d) 29 w.heap.size rfl)
  have HB := Lib.hid (below1 w (.cells #[.int .i64 f.t, .int .i64 f.s, .int .i64 f.sp, .slice A f.wt.length c, .slice D f.sh.length d] 29))
  have hsz : w.heap.size < (w.alloc (.cells #[.int .i64 f.t, .int .i64 f.s, .int .i64 f.sp, .slice A f.wt.length c, .slice D f.sh.length d] 29)).heap.size := by simp
  clear ha hd
  go_enter Try.func67, Try.ntmps67
  go_wp2_with fail
  generalize w.alloc (.cells #[.int .i64 f.t, .int .i64 f.s, .int .i64 f.sp, .slice A f.wt.length c, .slice D f.sh.length d] 29) = W at *
  have c3 := HQ.out.1 3 _ rfl
  go_wp2_with (go_at_call 82; refine (copyInts_any A c f.wt W (HA.out.below HB.out) (by omega)).mono ?_; rintro e w1 ⟨O, oc, rfl, ow, hb⟩)
  have HO := Lib.hid ow.1
  have HB1 := Lib.hid hb
  clear ow hb c3
  go_wp2_with (go_at_call 88; refine (sortStable_any W _ A D O c d oc w.heap.size f f.wt (HD.out.below HB.out) hn HQ.out hsz HO.out hm HB1.out).mono ?_; rintro e w2 ⟨rfl, o2, b2⟩; have HO2 := Lib.hid o2; have HB2 := Lib.hid b2; clear o2 b2)
  go_ret
  have h9 := HO2.out
  have hl := isortT_len (trn f) f.wt
  rw [← hl] at h9
  refine ⟨O, oc, by rw [hl]; first | rfl | (simp; done) | (simp [Array.getD]; done), ?_, HB.out.trans (HB2.out.mono HB.out.size)⟩
  exact (Ow.mk (K := IntK) h9 (by omega) (fun _ _ => trivial)).low (by omega)
end Go.Proofs.Ytbpikbcnpmplfaa
