/- Copies of floors in the reference. Conditions: the ranges named. -/
import Derived.Test.YtbpikbcnpmplfaaFlE1
import Derived.Deep.DrawnRows
namespace Go.Proofs.Ytbpikbcnpmplfaa
open Go.RowKit
set_option linter.unusedVariables false
attribute [local go_sem ↓] Go.wp_at_zero Go.wp_at_succ
set_option maxRecDepth 100000 in
set_option maxHeartbeats 4000000 in
theorem l8Own_any (A D : Option Addr) (c d : Nat) (f : Flr) (w : World) (ha : Cells w A (IntK.row f.wt)) (hn : f.wt.length ≤ 1048576) (hd : Cells w D (ShareK.row f.sh)) (hm : f.sh.length ≤ 1048576) : Calls Try.prog 74 #[.agg #[.int .i64 f.t, .int .i64 f.s, .int .i64 f.sp, .slice A f.wt.length c, .slice D f.sh.length d]] w (MkF w f) := by
  have HA := Lib.hid ((ha.alloc_ (.cells #[.int .i64 f.t, .int .i64 f.s, .int .i64 f.sp, .slice A f.wt.length c, .slice D f.sh.length d] 29)).alloc_ (.cells #[.int .i64 0, .int .i64 0, .int .i64 0, .slice none 0 0, .slice none 0 0] 29))
  have HD := Lib.hid ((hd.alloc_ (.cells #[.int .i64 f.t, .int .i64 f.s, .int .i64 f.sp, .slice A f.wt.length c, .slice D f.sh.length d] 29)).alloc_ (.cells #[.int .i64 0, .int .i64 0, .int .i64 0, .slice none 0 0, .slice none 0 0] 29))
  have nb : BoxF ((w.alloc (.cells #[.int .i64 f.t, .int .i64 f.s, .int .i64 f.sp, .slice A f.wt.length c, .slice D f.sh.length d] 29)).alloc (.cells #[.int .i64 0, .int .i64 0, .int .i64 0, .slice none 0 0, .slice none 0 0] 29)) w.heap.size (#[.int .i64 f.t, .int .i64 f.s, .int .i64 f.sp, .slice A f.wt.length c, .slice D f.sh.length d] : Array Value).toList := (BoxF.new w _ _).below ((Below.refl _ _).alloc (Nat.le_refl _) _) (by simp)
  have nz : BoxF ((w.alloc (.cells #[.int .i64 f.t, .int .i64 f.s, .int .i64 f.sp, .slice A f.wt.length c, .slice D f.sh.length d] 29)).alloc (.cells #[.int .i64 0, .int .i64 0, .int .i64 0, .slice none 0 0, .slice none 0 0] 29)) (w.heap.size + 1) (#[.int .i64 0, .int .i64 0, .int .i64 0, .slice none 0 0, .slice none 0 0] : Array Value).toList := BoxF.new' _ _ _ _ (by simp)
  have hB0 : Below w.heap.size w ((w.alloc (.cells #[.int .i64 f.t, .int .i64 f.s, .int .i64 f.sp, .slice A f.wt.length c, .slice D f.sh.length d] 29)).alloc (.cells #[.int .i64 0, .int .i64 0, .int .i64 0, .slice none 0 0, .slice none 0 0] 29)) := below2 _ _ _
  have hs : w.heap.size + 2 ≤ ((w.alloc (.cells #[.int .i64 f.t, .int .i64 f.s, .int .i64 f.sp, .slice A f.wt.length c, .slice D f.sh.length d] 29)).alloc (.cells #[.int .i64 0, .int .i64 0, .int .i64 0, .slice none 0 0, .slice none 0 0] 29)).heap.size := by simp
  clear ha hd
  go_enter Try.func74, Try.ntmps74
  go_wp2_with fail
  generalize ((w.alloc (.cells #[.int .i64 f.t, .int .i64 f.s, .int .i64 f.sp, .slice A f.wt.length c, .slice D f.sh.length d] 29)).alloc (.cells #[.int .i64 0, .int .i64 0, .int .i64 0, .slice none 0 0, .slice none 0 0] 29)) = W at *
  have b0 := nb.1 0 _ rfl
  have b1 := nb.1 1 _ rfl
  have b2 := nb.1 2 _ rfl
  have b3 := nb.1 3 _ rfl
  have b4 := nb.1 4 _ rfl
  have NZ := Lib.hid nz
  have HB0 := Lib.hid hB0
  have hl : w.heap.size + 1 < W.heap.size := by omega
  have hl0 : w.heap.size < W.heap.size := by omega
  obtain ⟨B, HBe⟩ : ∃ B, Hid (B = w.heap.size + 1) := ⟨_, Lib.hid rfl⟩
  have hBw : w.heap.size < B := by have := HBe.out; omega
  have hBW : B < W.heap.size := by have := HBe.out; omega
  have z0 := nz.1 0 _ rfl
  have z1 := nz.1 1 _ rfl
  have z2 := nz.1 2 _ rfl
  have z3 := nz.1 3 _ rfl
  have z4 := nz.1 4 _ rfl
  have zf := nz.2
  have HN := Lib.hid (show (ShareK.row f.sh).length = f.sh.length * 3 from ShareK.row_len _)
  have hm1 : f.sh.length ≤ 1100000 := by omega
  clear nb nz hB0 hs
  go_region_held3 (fun w' => Below B W w' ∧ (∀ b o, b < B → w'.cell? ⟨b, o, none⟩ = W.cell? ⟨b, o, none⟩))
    ((first | (refine mkS ?_; assumption) | (refine allocS ?_ ?_; assumption; omega) | (refine set5S ?_ ?_; assumption; have := HBe.out; omega) | (refine drewS ?_; assumption) | (refine mkS ?_; go_grown)))
    (first
      | (go_at_call 93; refine (l1Own_any A c f.wt _ (HA.out.below ?_) hn).mono ?_; go_grown; rintro e w1 ⟨A1, c1, rfl, o1, hb⟩; have hP := Lib.hid (after (w := W) (by go_grown) hb); have HB1 := Lib.hid hb; have hz1 : W.heap.size ≤ w1.heap.size := (by have := hb.size; simp at this; omega); have HO := Lib.hid (o1.low (lo' := W.heap.size) (by simp)); obtain ⟨hB, hzz⟩ := callS (by assumption) (by omega) hb; clear hb o1)
      | (refine step_append_lit elShare _ (by rfl) _ _ (by rfl) W.heap.size _ D f.sh.length _ (ShareK.row f.sh) (by rfl) (by rfl) HN.out ?_ ?_ share_one ?_ hm1 ?_; (first | exact own_nil_lit _ _ _ _ _ (by simp) (by first | omega | (simp; done) | (simp; omega)) | exact own_keep (own_nil_lit_d _ _ _ _ _ (by simp) (by simp)) HB1.out | exact own_keep (own_nil_lit _ _ _ _ _ (by simp) (by simp)) HB1.out); (exact HD.out.below (by first | exact hP.out | exact (hP.out.alloc (by omega) _))); (first | omega | (simp; done) | (simp; omega)); intro O d' w2 own hb hq; have HP := Lib.hid own; have HB2 := Lib.hid hb; have hz2 : w1.heap.size ≤ w2.heap.size := (by have := hb.size; first | omega | (simp at this; omega)); have hP1 := after (w := W) (by first | exact hP.out | exact (hP.out.alloc (by omega) _)) hb; have hcc := (bcell3 hP1).1; have hff := (bcell3 hP1).2.1; have y1 := fun o => hcc (w.heap.size + 1) o (by first | omega | (simp; done) | (simp; omega)); have k1 := fun o => hff (w.heap.size + 1) o (by first | omega | (simp; done) | (simp; omega)); clear hcc hff; obtain ⟨hB2, hzz2⟩ := callS (by assumption) (by omega) hb; have HB3 := Lib.hid hB2; clear hb own hq hP1))
  all_goals
    go_wp2
    refine bodyPost_ret (v := .agg #[.int .i64 f.t, .int .i64 f.s, .int .i64 f.sp, .slice A1 f.wt.length c1, .slice O f.sh.length d']) (by simp [results, Try.results74, go_sem, y1, z0, z1, z2, z3, z4]) rfl ?_
    have hP := Ow.mk HP.out hm (fun _ _ => trivial)
    refine ⟨A1, c1, O, d', rfl, ((HO.out.stay ?_).low (by omega)).high (by simp; omega), ((hP.stay ?_).low (by omega)).high (by simp), ?_⟩
    · repeat (refine Keep.set ?_ (.inl (by simp; omega)) _)
      first | exact Keep.below Keep.rfl_ HB2.out (by simp) | exact Keep.below (Keep.rfl_.alloc (by simp) _) HB2.out (by simp)
    · repeat (refine Keep.set ?_ (.inl (by simp; omega)) _)
      exact Keep.rfl_
    · have := HB0.out.trans (HB3.out.mono (by have := HBe.out; omega))
      go_grown
end Go.Proofs.Ytbpikbcnpmplfaa
