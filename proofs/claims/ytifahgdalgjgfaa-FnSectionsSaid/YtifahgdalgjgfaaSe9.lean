/- Sections that are shifted, in the program and in the reference. Conditions: the ranges named. -/
import Derived.Test.YtifahgdalgjgfaaSe8
namespace Go.Proofs.Ytifahgdalgjgfaa
open Go.RowKit
set_option linter.unusedVariables false
set_option linter.unusedSimpArgs false
attribute [local go_sem ↓] Go.wp_at_zero Go.wp_at_succ
/-- Sections lo up to k (without it) lie q deeper. -/
def shS (q : Int) (lo k : Nat) (xs : List Sec) : List Sec := xs.mapIdx fun j s => if lo ≤ j ∧ j < k then ⟨s.d + q, s.t⟩ else s
theorem shS_len {q : Int} {lo k : Nat} {xs : List Sec} : (shS q lo k xs).length = xs.length := by unfold shS; simp
theorem shS_at {q : Int} {lo k j : Nat} {xs : List Sec} (h : j < (shS q lo k xs).length) : (shS q lo k xs)[j] = if lo ≤ j ∧ j < k then ⟨(xs[j]'(by rw [shS_len] at h; exact h)).d + q, (xs[j]'(by rw [shS_len] at h; exact h)).t⟩ else xs[j]'(by rw [shS_len] at h; exact h) := by
  simp only [shS, List.getElem_mapIdx]
theorem shS_start {q : Int} {lo : Nat} {xs : List Sec} : shS q lo lo xs = xs := by
  apply List.ext_getElem (by rw [shS_len])
  intro j h1 h2
  rw [shS_at, if_neg (by omega)]
theorem shS_step {q : Int} {lo k : Nat} {xs : List Sec} (hl : lo ≤ k) (hk : k < xs.length) : (shS q lo k xs).set k ⟨dAt xs k + q, tAt xs k⟩ = shS q lo (k + 1) xs := by
  apply List.ext_getElem (by rw [List.length_set, shS_len, shS_len])
  intro j h1 h2
  rw [List.getElem_set]
  by_cases e : k = j
  · subst e
    rw [if_pos rfl, shS_at, if_pos (by omega), dAt_at hk, tAt_at hk]
  · rw [if_neg e, shS_at, shS_at]
    by_cases c : lo ≤ j ∧ j < k
    · rw [if_pos c, if_pos (by omega)]
    · rw [if_neg c, if_neg (by omega)]
theorem shS_same {q : Int} {lo k : Nat} {xs : List Sec} (hk : k < xs.length) : (shS q lo k xs)[k]'(by rw [shS_len]; exact hk) = xs[k] := by rw [shS_at, if_neg (by omega)]
theorem shS_fit {q : Int} {lo k : Nat} {xs : List Sec} (hf : ∀ y ∈ xs, SectionK.fit y) : ∀ y ∈ shS q lo k xs, SectionK.fit y := fun y hy => by
  obtain ⟨j, hj, rfl⟩ := List.getElem_of_mem hy
  rw [shS_at]
  have h1 := hf _ (List.getElem_mem (show j < xs.length by rw [shS_len] at hj; exact hj))
  split
  · exact h1
  · exact h1
theorem row_setD {d : Int} : ∀ {ys : List Sec} {k : Nat} (hk : k < ys.length), (SectionK.row ys).set (k * 2) (.int .i64 d) = SectionK.row (ys.set k ⟨d, ys[k].t⟩)
  | x :: ys, 0, _ => rfl
  | x :: ys, k + 1, hk => by
    have h := row_setD (d := d) (ys := ys) (k := k) (by simpa using hk)
    have e : ∀ (z : Sec) (l : List Sec), SectionK.row (z :: l) = .int .i64 z.d :: .string z.t :: SectionK.row l := fun _ _ => rfl
    rw [e, show (k + 1) * 2 = k * 2 + 1 + 1 by omega, List.set_cons_succ, List.set_cons_succ, h, List.set_cons_succ, e]
    rfl
theorem row_setW {d : Int} {t : ByteArray} {ys : List Sec} {k : Nat} (hk : k < ys.length) : setL (SectionK.row ys) (k * 2) [.int .i64 d, .string t] = SectionK.row (ys.set k ⟨d, t⟩) := by
  have e : ys = ys.take k ++ (ys[k] :: ys.drop (k + 1)) := by rw [← List.drop_eq_getElem_cons hk, List.take_append_drop]
  have e2 : ys.set k ⟨d, t⟩ = ys.take k ++ (⟨d, t⟩ :: ys.drop (k + 1)) := by rw [List.set_eq_take_append_cons_drop, if_pos hk]
  have l : (SectionK.row (ys.take k)).length = k * 2 := by rw [Kd.row_len, List.length_take, Nat.min_eq_left (by omega)]; rfl
  have c : ∀ (z : Sec) (l : List Sec), SectionK.row (z :: l) = [.int .i64 z.d, .string z.t] ++ SectionK.row l := fun _ _ => rfl
  rw [e2, Kd.row_append, c]
  conv => lhs; rw [e]
  rw [Kd.row_append, c, ← l, setL_append (SectionK.row (ys.take k)) [.int .i64 ys[k].d, .string ys[k].t] [.int .i64 d, .string t] rfl]
theorem doc_range {xs : List Sec} (h : docB xs = true) {k : Nat} (hk : k < xs.length) : 1 ≤ dAt xs k ∧ dAt xs k ≤ 4 := by
  unfold docB at h
  simp only [Bool.and_eq_true] at h
  have h1 := allN_yes.1 h.1 k hk
  unfold okSec at h1
  rw [Bool.and_eq_true] at h1
  obtain ⟨h2, h3⟩ := inB_iff.1 h1.1
  unfold mdAt at h3
  split at h3 <;> omega
def shB (xs : List Sec) (i q : Int) : Bool := (askB xs i && inB q (-4) 4) && docB (shS q i.toNat (i.toNat + partN xs i.toNat + 1) xs)
def shL (xs : List Sec) (i q : Int) : List Sec := if (askB xs i && inB q (-4) 4) = true then ckL (shS q i.toNat (i.toNat + partN xs i.toNat + 1) xs) else []
theorem sh_no {xs : List Sec} {i q : Int} (h : (askB xs i && inB q (-4) 4) = false) : shL xs i q = [] ∧ shB xs i q = false := ⟨by unfold shL; rw [h]; rfl, by unfold shB; rw [h]; rfl⟩
theorem sh_yes {xs : List Sec} {n : Nat} {q : Int} (h1 : askB xs (n : Int) = true) (h2 : inB q (-4) 4 = true) : shL xs (n : Int) q = ckL (shS q n (n + partN xs n + 1) xs) ∧ shB xs (n : Int) q = docB (shS q n (n + partN xs n + 1) xs) := by
  refine ⟨?_, ?_⟩
  · unfold shL; rw [h1, h2]; rfl
  · unfold shB; rw [h1, h2]; rfl
theorem own_setD {w : World} {base g n oc k : Nat} {T : TypeId} {ys : List Sec} (h : w.ownsRow base T 2 (.slice (some ⟨g, 0, none⟩) n oc) n (SectionK.row ys)) (hk : k < ys.length) (d : Int) : (w.setCell ⟨g, k * 2, none⟩ (.int .i64 d)).ownsRow base T 2 (.slice (some ⟨g, 0, none⟩) n oc) n (SectionK.row (ys.set k ⟨d, ys[k].t⟩)) := by
  have h1 := (h.stored (k * 2) (.int .i64 d)).1
  rw [row_setD hk] at h1
  exact h1
theorem below_putsS {B q : Nat} {w0 w : World} (h : Below B w0 w) (hq : B ≤ q) : ∀ (o : Nat) (vs : List Value), Below B w0 (w.setCells q o vs) := by
  intro o vs
  induction vs generalizing o w with
  | nil => exact h
  | cons v vs ih => exact ih (h.setCell (p := ⟨q, o, none⟩) hq v) (o + 1)
set_option maxHeartbeats 8000000 in
set_option maxRecDepth 100000 in
theorem ShiftSection_any (A : Option Addr) (c : Nat) (xs : List Sec) (i q : Int) (w : World) (ha : Cells w A (SectionK.row xs)) (hcc : xs.length ≤ c) (hm : xs.length ≤ 1048576) (hf : ∀ y ∈ xs, SectionK.fit y) :
    Calls Try.prog 62 #[.slice A xs.length c, .int .i64 i, .int .i64 q] w (ToLB SectionK 78 w (shL xs i q) (shB xs i q)) := by
  have H := Lib.hid ha
  have HF := Lib.hid hf
  clear ha hf
  go_enter Try.func62, Try.ntmps62
  go_wp2_with fail
  refine (hasSection_any A c xs i _ H.out hm HF.out).mono ?_
  rintro e w1 ⟨rfl, hb⟩
  have HB := Lib.hid hb
  clear hb
  rcases Bool.eq_false_or_eq_true (askB xs i) with hd | hd
  · rw [hd]
    go_wp2_with fail
    refine (inside_any _ _ _ _).mono ?_
    rintro e w' ⟨rfl, hw⟩
    rw [← hw]
    clear hw
    rcases Bool.eq_false_or_eq_true (inB q (-4) 4) with hi | hi
    · rw [hi]
      obtain ⟨h1, h2, n, rfl, hl⟩ := ask_at hd
      have HD := Lib.hid (sh_yes hd hi)
      have HDR := Lib.hid (fun (k : Nat) (hk : k < xs.length) => doc_range h1 hk)
      have hpl := part_le hl
      obtain ⟨hq1, hq2⟩ := inB_iff.1 hi
      obtain ⟨p, hp⟩ : ∃ p, Hid (partN xs n = p) := ⟨_, Lib.hid rfl⟩
      rw [hp.out] at HD hpl
      clear hd hi h1
      go_wp2_with (at_builtin; go_must (refine list_append_lit elSection _ rfl _ _ rfl w.heap.size _ A xs.length c (SectionK.row (xs)) rfl rfl (SectionK.row_len xs) (own_nil_lit _ _ _ _ _ (by simp) HB.out.size) ((H.out.below HB.out).alloc_ _) section_one (by have hsx := HB.out.size; simp; omega) (by omega) ?_); intro O oc w2 own hb hq; have HO := Lib.hid own; have HB2 := Lib.hid (HB.out.trans ((bmonoS hb).mono HB.out.size)); clear own hb hq)
      obtain ⟨g, cap, hv, hbg, hgl⟩ := HO.out.form (by omega)
      obtain ⟨rfl, _, rfl⟩ : O = some ⟨g, 0, none⟩ ∧ xs.length = xs.length ∧ oc = cap := (by simpa using hv)
      clear hv hgl
      have q3 : IntKind.i64.wrap ((n : Int) + (p : Int)) = (n : Int) + (p : Int) := by rw [IntKind.wrap_i64]; omega
      go_loopw [9] (fun v wr => ∃ k : Nat, n ≤ k ∧ k ≤ n + p + 1 ∧ v = .int .i64 k ∧ Hid (wr.ownsRow w.heap.size 78 2 (.slice (some ⟨g, 0, none⟩) xs.length oc) xs.length (SectionK.row (shS q n k xs))) ∧ Hid (Below w.heap.size w wr)) (fun v _ => n + p + 1 - (intOf v).toNat)
      case atStart => exact ⟨n, Nat.le_refl _, by omega, rfl, Lib.hid (by rw [shS_start]; exact HO.out), HB2⟩
      case round =>
        clear HO HB HB2
        obtain ⟨k, hk1, hk2, rfl, HO, HB⟩ := hrel
        have q1 : IntKind.i64.wrap ((k : Int) + 1) = ((k + 1 : Nat) : Int) := by rw [IntKind.wrap_i64]; omega
        go_wp2_with fail
        refine (partsOf_any A c xs n _ (H.out.below HB.out) hl (by omega)).mono ?_
        rintro e wp ⟨rfl, hm9⟩
        rw [hp.out]
        replace HO := Lib.hid (own_keep HO.out (below_drews (Below.refl wr.heap.size wr) hm9))
        replace HB := Lib.hid (below_drews HB.out hm9)
        clear hm9
        by_cases hlt : k < n + p + 1
        · have i1 : (k : Int) ≤ (n : Int) + (p : Int) := by omega
          have hkx : k < xs.length := by omega
          have i2 : (k : Int) < (xs.length : Int) := by omega
          obtain ⟨hr1, hr2⟩ := HDR.out k hkx
          have hc : wp.cell? ⟨g, k * 2, none⟩ = some (.int .i64 (dAt xs k)) := by
            obtain ⟨ad, had, hc0, _⟩ := section_at (Cells.of_own HO.out) (i := k) (by rw [shS_len]; exact hkx)
            obtain rfl : ad = ⟨g, 0, none⟩ := by simpa using had.symm
            rw [shS_same hkx, dAt_at hkx] at hc0
            rw [← hc0, add_head]
          have hz := HO.out.frozenAt (k * 2)
          have HST := Lib.hid (by have h9 := own_setD (k := k) HO.out (by rw [shS_len]; exact hkx) (dAt xs k + q); rw [shS_same hkx, tAt_at hkx, shS_step hk1 hkx] at h9; exact h9 : (wp.setCell ⟨g, k * 2, none⟩ (.int .i64 (dAt xs k + q))).ownsRow w.heap.size 78 2 (.slice (some ⟨g, 0, none⟩) xs.length oc) xs.length (SectionK.row (shS q n (k + 1) xs)))
          have HG := Lib.hid (HB.out.setCell (p := ⟨g, k * 2, none⟩) hbg (.int .i64 (dAt xs k + q)))
          obtain ⟨d, hdd⟩ : ∃ d, dAt xs k = d := ⟨_, rfl⟩
          rw [hdd] at hc HST HG hr1 hr2
          have q2 : IntKind.i64.wrap (d + q) = d + q := by rw [IntKind.wrap_i64]; omega
          clear HO HB hdd
          go_wp2_with fail
          go_roundw
          case rel => exact ⟨k + 1, by omega, by omega, by go_num, HST, HG⟩
          case measure => simp [intOf]; omega
        · have i1 : ¬ (k : Int) ≤ (n : Int) + (p : Int) := by omega
          obtain rfl : k = n + p + 1 := by omega
          go_wp2_with fail
          refine (asDocument_any w.heap.size (some ⟨g, 0, none⟩) oc (shS q n (n + p + 1) xs) xs.length _ shS_len.symm HO.out (by rw [shS_len]; omega) (shS_fit HF.out) HB.out.size).mono ?_
          rintro e w4 ⟨P, m, r, rfl, hm4, own, hb⟩
          have HO4 := Lib.hid own
          have HM4 := Lib.hid hm4
          have HB4 := Lib.hid (HB.out.trans (hb.mono HB.out.size))
          clear own hb hm4
          go_wp2_with (go_ret2; exact tolb_own (ys := ckL (shS q n (n + p + 1) xs)) HO4.out HD.out.1 HM4.out (by (have h1 := ckL_len (ys := shS q n (n + p + 1) xs); rw [shS_len] at h1; omega)) (ckL_fit (shS_fit HF.out)) HD.out.2 HB4.out)
    · rw [hi]
      have HNO := Lib.hid (sh_no (show (askB xs i && inB q (-4) 4) = false by rw [hi]; simp))
      clear hd hi
      go_wp2_with (go_ret2; exact tolb_none HNO.out.1 HNO.out.2 HB.out)
  · rw [hd]
    have HNO := Lib.hid (sh_no (q := q) (show (askB xs i && inB q (-4) 4) = false by rw [hd]; rfl))
    clear hd
    go_wp2_with (go_ret2; exact tolb_none HNO.out.1 HNO.out.2 HB.out)
set_option maxHeartbeats 8000000 in
set_option maxRecDepth 100000 in
theorem sShiftSection_any (A : Option Addr) (c : Nat) (xs : List Sec) (i q : Int) (w : World) (ha : Cells w A (SectionK.row xs)) (hcc : xs.length ≤ c) (hm : xs.length ≤ 1048576) (hf : ∀ y ∈ xs, SectionK.fit y) :
    Calls Try.prog 63 #[.slice A xs.length c, .int .i64 i, .int .i64 q] w (ToLB SectionK 78 w (shL xs i q) (shB xs i q)) := by
  have H := Lib.hid ha
  have HF := Lib.hid hf
  clear ha hf
  go_enter Try.func63, Try.ntmps63
  go_wp2_with fail
  refine (l6Asked_any A c xs i _ H.out hm HF.out).mono ?_
  rintro e w1 ⟨rfl, hb⟩
  have HB := Lib.hid hb
  clear hb
  rcases Bool.eq_false_or_eq_true (askB xs i) with hd | hd
  · rw [hd]
    go_wp2_with fail
    refine (l1In_any _ _ _ _).mono ?_
    rintro e w' ⟨rfl, hw⟩
    rw [← hw]
    clear hw
    rcases Bool.eq_false_or_eq_true (inB q (-4) 4) with hi | hi
    · rw [hi]
      obtain ⟨h1, h2, n, rfl, hl⟩ := ask_at hd
      have HD := Lib.hid (sh_yes hd hi)
      have HDR := Lib.hid (fun (k : Nat) (hk : k < xs.length) => doc_range h1 hk)
      have hpl := part_le hl
      obtain ⟨hq1, hq2⟩ := inB_iff.1 hi
      obtain ⟨p, hp⟩ : ∃ p, Hid (partN xs n = p) := ⟨_, Lib.hid rfl⟩
      rw [hp.out] at HD hpl
      clear hd hi h1
      go_wp2_with (at_builtin; go_must (refine list_append_lit elSection _ rfl _ _ rfl w.heap.size _ A xs.length c (SectionK.row (xs)) rfl rfl (SectionK.row_len xs) (own_nil_lit _ _ _ _ _ (by simp) HB.out.size) ((H.out.below HB.out).alloc_ _) section_one (by have hsx := HB.out.size; simp; omega) (by omega) ?_); intro O oc w2 own hb hq; have HO := Lib.hid own; have HB2 := Lib.hid (HB.out.trans ((bmonoS hb).mono HB.out.size)); clear own hb hq)
      obtain ⟨g, cap, hv, hbg, hgl⟩ := HO.out.form (by omega)
      obtain ⟨rfl, _, rfl⟩ : O = some ⟨g, 0, none⟩ ∧ xs.length = xs.length ∧ oc = cap := (by simpa using hv)
      clear hv hgl
      have q3 : IntKind.i64.wrap ((n : Int) + (p : Int)) = (n : Int) + (p : Int) := by rw [IntKind.wrap_i64]; omega
      go_loopw [9] (fun v wr => ∃ k : Nat, n ≤ k ∧ k ≤ n + p + 1 ∧ v = .int .i64 k ∧ Hid (wr.ownsRow w.heap.size 78 2 (.slice (some ⟨g, 0, none⟩) xs.length oc) xs.length (SectionK.row (shS q n k xs))) ∧ Hid (Below w.heap.size w wr)) (fun v _ => n + p + 1 - (intOf v).toNat)
      case atStart => exact ⟨n, Nat.le_refl _, by omega, rfl, Lib.hid (by rw [shS_start]; exact HO.out), HB2⟩
      case round =>
        clear HO HB HB2
        obtain ⟨k, hk1, hk2, rfl, HO, HB⟩ := hrel
        have q1 : IntKind.i64.wrap ((k : Int) + 1) = ((k + 1 : Nat) : Int) := by rw [IntKind.wrap_i64]; omega
        go_wp2_with fail
        refine (l6Part_any A c xs n _ (H.out.below HB.out) hl (by omega)).mono ?_
        rintro e wp ⟨rfl, hm9⟩
        rw [hp.out]
        replace HO := Lib.hid (own_keep HO.out (below_drews (Below.refl wr.heap.size wr) hm9))
        replace HB := Lib.hid (below_drews HB.out hm9)
        clear hm9
        by_cases hlt : k < n + p + 1
        · have i1 : (k : Int) ≤ (n : Int) + (p : Int) := by omega
          have hkx : k < xs.length := by omega
          have i2 : (k : Int) < (xs.length : Int) := by omega
          obtain ⟨hr1, hr2⟩ := HDR.out k hkx
          obtain ⟨a, rfl, hc0, hc1⟩ := sec_cell (H.out.below HB.out) hkx
          obtain ⟨d, hdd⟩ : ∃ d, Hid (dAt xs k = d) := ⟨_, Lib.hid rfl⟩
          obtain ⟨t, htt⟩ : ∃ t, Hid (tAt xs k = t) := ⟨_, Lib.hid rfl⟩
          rw [hdd.out] at hc0 hr1 hr2
          rw [htt.out] at hc1
          have q2 : IntKind.i64.wrap (d + q) = d + q := by rw [IntKind.wrap_i64]; omega
          have hal : a.block < w.heap.size := by (obtain ⟨a9, ha9, h9, _⟩ := sec_cell H.out hkx); (obtain rfl := Option.some.inj ha9); (have h8 := World.block_lt_of_cell? _ _ h9); rw [block_add] at h8; exact h8
          go_upto_region 7 with fail
          refine wp_region_noPanic ?_
          refine wp_region_held_drew (S := (fun w' => w'.cell? (a.add (k * 2)) = some (.int .i64 d) ∧ w'.cell? ⟨(a.add (k * 2)).block, (a.add (k * 2)).off + 1, none⟩ = some (.string t))) (by kernel_rfl) ?_ (fun hHeld => ?_)
          · ((try dsimp only); exact ⟨hc0, hc1⟩)
          replace HO := Lib.hid HO.out.drew
          replace HB := Lib.hid HB.out.drew
          generalize wp.drew = ud at *
          have HT := Lib.hid (show ud.there g (k * 2) 2 from fun j hj => ⟨by (obtain ⟨u, hu⟩ := own_cell HO.out (j := k * 2 + j) (by omega)); rw [hu]; rfl, HO.out.frozenAt _⟩)
          refine take_yes (i := 0) (d := 33) (v := ?_) rfl rfl (by kernel_rfl) (by kernel_rfl) (by kernel_rfl) (fun _ _ _ h => h) (by kernel_rfl) ?_ hHeld ?_
          rotate_left
          · (intro w hSw; (try dsimp only at hSw); go_simp; try (with_reducible rfl))
          try simp only [Act.put, List.setIfInBounds_toArray, List.set_cons_zero, List.set_cons_succ]
          refine take_yes (i := 1) (d := 34) (v := ?_) rfl rfl (by kernel_rfl) (by kernel_rfl) (by kernel_rfl) (fun _ _ _ h => h) (by kernel_rfl) ?_ hHeld ?_
          rotate_left
          · (intro w hSw; (try dsimp only at hSw); go_simp; try (with_reducible rfl))
          try simp only [Act.put, List.setIfInBounds_toArray, List.set_cons_zero, List.set_cons_succ]
          refine take_yes (i := 2) (d := 35) (v := ?_) rfl rfl (by kernel_rfl) (by kernel_rfl) (by kernel_rfl) (fun _ _ _ h => h) (by kernel_rfl) ?_ hHeld ?_
          rotate_left
          · (intro w hSw; (try dsimp only at hSw); go_simp; try (with_reducible rfl))
          try simp only [Act.put, List.setIfInBounds_toArray, List.set_cons_zero, List.set_cons_succ]
          refine take_yes (i := 3) (d := 36) (v := ?_) rfl rfl (by kernel_rfl) (by kernel_rfl) (by kernel_rfl) (fun _ _ _ h => h) (by kernel_rfl) ?_ hHeld ?_
          rotate_left
          · (intro w hSw; (try dsimp only at hSw); go_simp; try (with_reducible rfl))
          try simp only [Act.put, List.setIfInBounds_toArray, List.set_cons_zero, List.set_cons_succ]
          refine take_yes (i := 4) (d := 37) (v := ?_) rfl rfl (by kernel_rfl) (by kernel_rfl) (by kernel_rfl) (fun _ _ _ h => h) (by kernel_rfl) ?_ hHeld ?_
          rotate_left
          · (intro w hSw; (try dsimp only at hSw); go_simp; try (with_reducible rfl))
          try simp only [Act.put, List.setIfInBounds_toArray, List.set_cons_zero, List.set_cons_succ]
          refine take_yes (i := 5) (d := 38) (v := ?_) rfl rfl (by kernel_rfl) (by kernel_rfl) (by kernel_rfl) (fun _ _ _ h => h) (by kernel_rfl) ?_ hHeld ?_
          rotate_left
          · (intro w hSw; (try dsimp only at hSw); go_simp; try (with_reducible rfl))
          try simp only [Act.put, List.setIfInBounds_toArray, List.set_cons_zero, List.set_cons_succ]
          refine take_yes (i := 6) (d := 39) (v := ?_) rfl rfl (by kernel_rfl) (by kernel_rfl) (by kernel_rfl) (fun _ _ _ h => h) (by kernel_rfl) ?_ hHeld ?_
          rotate_left
          · (intro w hSw; (try dsimp only at hSw); go_simp; try (with_reducible rfl))
          try simp only [Act.put, List.setIfInBounds_toArray, List.set_cons_zero, List.set_cons_succ]
          refine take_yes (i := 7) (d := 40) (v := ?_) rfl rfl (by kernel_rfl) (by kernel_rfl) (by kernel_rfl) (fun _ _ _ h => h) (by kernel_rfl) ?_ hHeld ?_
          rotate_left
          · (intro w hSw; (try dsimp only at hSw); go_simp; try (with_reducible rfl))
          try simp only [Act.put, List.setIfInBounds_toArray, List.set_cons_zero, List.set_cons_succ]
          refine take_yes (i := 8) (d := 41) (v := ?_) rfl rfl (by kernel_rfl) (by kernel_rfl) (by kernel_rfl) (fun _ _ _ h => h) (by kernel_rfl) ?_ hHeld ?_
          rotate_left
          · (intro w hSw; (try dsimp only at hSw); go_simp; try (with_reducible rfl))
          try simp only [Act.put, List.setIfInBounds_toArray, List.set_cons_zero, List.set_cons_succ]
          refine take_yes (i := 9) (d := 42) (v := ?_) rfl rfl (by kernel_rfl) (by kernel_rfl) (by kernel_rfl) (fun _ _ _ h => h) (by kernel_rfl) ?_ hHeld ?_
          rotate_left
          · (intro w hSw; (try dsimp only at hSw); go_simp; try (with_reducible rfl))
          try simp only [Act.put, List.setIfInBounds_toArray, List.set_cons_zero, List.set_cons_succ]
          refine take_yes (i := 10) (d := 43) (v := ?_) rfl rfl (by kernel_rfl) (by kernel_rfl) (by kernel_rfl) (fun _ _ _ h => h) (by kernel_rfl) ?_ hHeld ?_
          rotate_left
          · (intro w hSw; (try dsimp only at hSw); go_simp; try (with_reducible rfl))
          try simp only [Act.put, List.setIfInBounds_toArray, List.set_cons_zero, List.set_cons_succ]
          refine take_yes (i := 11) (d := 44) (v := ?_) rfl rfl (by kernel_rfl) (by kernel_rfl) (by kernel_rfl) (fun _ _ _ h => h) (by kernel_rfl) ?_ hHeld ?_
          rotate_left
          · (intro w hSw; (try dsimp only at hSw); go_simp; try (with_reducible rfl))
          try simp only [Act.put, List.setIfInBounds_toArray, List.set_cons_zero, List.set_cons_succ]
          refine take_yes (i := 12) (d := 45) (v := ?_) rfl rfl (by kernel_rfl) (by kernel_rfl) (by kernel_rfl) (fun _ _ _ h => h) (by kernel_rfl) ?_ hHeld ?_
          rotate_left
          · (intro w hSw; (try dsimp only at hSw); go_simp; try (with_reducible rfl))
          try simp only [Act.put, List.setIfInBounds_toArray, List.set_cons_zero, List.set_cons_succ]
          refine take_yes (i := 13) (d := 46) (v := ?_) rfl rfl (by kernel_rfl) (by kernel_rfl) (by kernel_rfl) (fun _ _ _ h => h) (by kernel_rfl) ?_ hHeld ?_
          rotate_left
          · (intro w hSw; (try dsimp only at hSw); go_simp; try (with_reducible rfl))
          try simp only [Act.put, List.setIfInBounds_toArray, List.set_cons_zero, List.set_cons_succ]
          refine take_yes (i := 14) (d := 47) (v := ?_) rfl rfl (by kernel_rfl) (by kernel_rfl) (by kernel_rfl) (fun _ _ _ h => h) (by kernel_rfl) ?_ hHeld ?_
          rotate_left
          · (intro w hSw; (try dsimp only at hSw); go_simp; try (with_reducible rfl))
          try simp only [Act.put, List.setIfInBounds_toArray, List.set_cons_zero, List.set_cons_succ]
          refine take_yes (i := 15) (d := 48) (v := ?_) rfl rfl (by kernel_rfl) (by kernel_rfl) (by kernel_rfl) (fun _ _ _ h => h) (by kernel_rfl) ?_ hHeld ?_
          rotate_left
          · (intro w hSw; (try dsimp only at hSw); go_simp; try (with_reducible rfl))
          try simp only [Act.put, List.setIfInBounds_toArray, List.set_cons_zero, List.set_cons_succ]
          refine wpAnyH_ready (rs := [16]) (by kernel_rfl) (by simp) ?_
          refine AllReadyH.cons rfl (fun K hK => ?_) (AllReadyH.nil)
          have hsc : ud.setCells g (k * 2) (#[.int .i64 (d + q), .string t] : Array Value).toList = (ud.setCells g (k * 2) [.int .i64 (d + q), .string t]) := rfl
          rw [if_pos (by kernel_rfl)]
          refine wp_store_mid 78 _ _ (by rfl) g (k * 2) #[.int .i64 (d + q), .string t] (by rfl) (by rfl) HT.out (by kernel_rfl) (by simp [Value.oneCell']) ?_
          rw [hsc]
          clear hsc
          (first | refine hK.out _ _ ?_ (fun hHeld1 => ?_) | (go_wp2_with fail; refine hK.out _ _ ?_ (fun hHeld1 => ?_)))
          · ((try dsimp only); exact ⟨(World.cell?_setCells_out g _ _ _ _ (fun h9 _ => absurd h9 (by show ¬ (a.add (k * 2)).block = g; rw [block_add]; omega))).trans hHeld.1, (World.cell?_setCells_out g _ _ _ _ (fun h9 _ => absurd h9 (by show ¬ (a.add (k * 2)).block = g; rw [block_add]; omega))).trans hHeld.2⟩)
          clear hK K hHeld
          have hHeld := hHeld1
          clear hHeld1
          try simp only [Act.put, List.setIfInBounds_toArray, List.set_cons_zero, List.set_cons_succ]
          have HST := Lib.hid (by have h9 := (own_setCells [.int .i64 (d + q), .string t] (k * 2) HO.out).1; rw [row_setW (by rw [shS_len]; exact hkx), ← hdd.out, ← htt.out, shS_step hk1 hkx, hdd.out, htt.out] at h9; exact h9 : (ud.setCells g (k * 2) [.int .i64 (d + q), .string t]).ownsRow w.heap.size 78 2 (.slice (some ⟨g, 0, none⟩) xs.length oc) xs.length (SectionK.row (shS q n (k + 1) xs)))
          have HG := Lib.hid (show Below w.heap.size w (ud.setCells g (k * 2) [.int .i64 (d + q), .string t]) from below_putsS HB.out hbg _ _)
          clear HO HB HT
          generalize (ud.setCells g (k * 2) [.int .i64 (d + q), .string t]) = v9 at *
          refine wpAnyH_done (by kernel_rfl) ?_ _
          refine NoPanic.normal ?_
          clear hHeld
          go_wp2_with fail
          go_roundw
          case rel => exact ⟨k + 1, by omega, by omega, by go_num, HST, HG⟩
          case measure => simp [intOf]; omega
        · have i1 : ¬ (k : Int) ≤ (n : Int) + (p : Int) := by omega
          obtain rfl : k = n + p + 1 := by omega
          go_wp2_with fail
          refine (l6Checked_any w.heap.size (some ⟨g, 0, none⟩) oc (shS q n (n + p + 1) xs) xs.length _ shS_len.symm HO.out (by rw [shS_len]; omega) (shS_fit HF.out) HB.out.size).mono ?_
          rintro e w4 ⟨P, m, r, rfl, hm4, own, hb⟩
          have HO4 := Lib.hid own
          have HM4 := Lib.hid hm4
          have HB4 := Lib.hid (HB.out.trans (hb.mono HB.out.size))
          clear own hb hm4
          go_wp2_with (go_ret2; exact tolb_own (ys := ckL (shS q n (n + p + 1) xs)) HO4.out HD.out.1 HM4.out (by (have h1 := ckL_len (ys := shS q n (n + p + 1) xs); rw [shS_len] at h1; omega)) (ckL_fit (shS_fit HF.out)) HD.out.2 HB4.out)
    · rw [hi]
      have HNO := Lib.hid (sh_no (show (askB xs i && inB q (-4) 4) = false by rw [hi]; simp))
      clear hd hi
      go_wp2_with (go_ret2; exact tolb_own (ys := []) (own_nil_lit _ _ _ _ _ rfl HB.out.size) HNO.out.1 rfl (by simp) (by simp) HNO.out.2 (HB.out.trans (((Below.refl _ _).alloc (Nat.le_refl _) _).mono HB.out.size)))
  · rw [hd]
    have HNO := Lib.hid (sh_no (q := q) (show (askB xs i && inB q (-4) 4) = false by rw [hd]; rfl))
    clear hd
    go_wp2_with (go_ret2; exact tolb_own (ys := []) (own_nil_lit _ _ _ _ _ rfl HB.out.size) HNO.out.1 rfl (by simp) (by simp) HNO.out.2 (HB.out.trans (((Below.refl _ _).alloc (Nat.le_refl _) _).mono HB.out.size)))
end Go.Proofs.Ytifahgdalgjgfaa
