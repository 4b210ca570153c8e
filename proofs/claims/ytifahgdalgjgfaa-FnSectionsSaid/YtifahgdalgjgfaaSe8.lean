/- A section added to a document, in the program and in the reference. Conditions: the ranges named. -/
import Derived.Test.YtifahgdalgjgfaaSe7
import Derived.Test.YtifahgdalgjgfaaDr0
import Derived.Test.YtifahgdalgjgfaaDk4L
import Derived.Deep.DrawnRows
import Derived.Deep.Cut
import Derived.Deep.CutBlock
import Derived.Deep.CutRange
import Derived.Deep.DeepCutAuto
namespace Go.Proofs.Ytifahgdalgjgfaa
open Go.RowKit
set_option linter.unusedVariables false
set_option linter.unusedSimpArgs false
attribute [local go_sem ↓] Go.wp_at_zero Go.wp_at_succ
def insS (xs : List Sec) (n : Nat) (x : Sec) : List Sec := xs.take n ++ x :: xs.drop n
theorem insS_len {xs : List Sec} {n : Nat} {x : Sec} (h : n ≤ xs.length) : (insS xs n x).length = xs.length + 1 := by unfold insS; simp; omega
theorem insS_fit {xs : List Sec} {n : Nat} {x : Sec} (hf : ∀ y ∈ xs, SectionK.fit y) (hx : SectionK.fit x) : ∀ y ∈ insS xs n x, SectionK.fit y := fun y hy => by
  rcases List.mem_append.1 hy with h | h
  · exact hf y (List.mem_of_mem_take h)
  · rcases List.mem_cons.1 h with h | h
    · rw [h]; exact hx
    · exact hf y (List.mem_of_mem_drop h)
theorem ckL_fit {ys : List Sec} (hf : ∀ y ∈ ys, SectionK.fit y) : ∀ y ∈ ckL ys, SectionK.fit y := fun y hy => by
  unfold ckL at hy
  split at hy
  · exact hf y hy
  · cases hy
theorem ckL_len {ys : List Sec} : (ckL ys).length ≤ ys.length := by unfold ckL; split <;> simp
def asB (xs : List Sec) (i : Int) (x : Sec) : Bool := (docB xs && inB i 0 (xs.length : Int)) && docB (insS xs i.toNat x)
def asL (xs : List Sec) (i : Int) (x : Sec) : List Sec := if (docB xs && inB i 0 (xs.length : Int)) = true then ckL (insS xs i.toNat x) else []
theorem as_no {xs : List Sec} {i : Int} {x : Sec} (h : (docB xs && inB i 0 (xs.length : Int)) = false) : asL xs i x = [] ∧ asB xs i x = false := ⟨by unfold asL; rw [h]; rfl, by unfold asB; rw [h]; rfl⟩
theorem as_yes {xs : List Sec} {i : Int} {x : Sec} (h1 : docB xs = true) (h2 : inB i 0 (xs.length : Int) = true) : xs.length ≤ 12 ∧ ∃ n : Nat, i = n ∧ n ≤ xs.length ∧ asL xs (n : Int) x = ckL (insS xs n x) ∧ asB xs (n : Int) x = docB (insS xs n x) := by
  obtain ⟨h3, h4⟩ := inB_iff.1 h2
  refine ⟨(doc_yes h1).1, i.toNat, by omega, by omega, ?_, ?_⟩
  · unfold asL; rw [show ((i.toNat : Nat) : Int) = i by omega, h1, h2]; rfl
  · unfold asB; rw [show ((i.toNat : Nat) : Int) = i by omega, h1, h2]; rfl
theorem heap_lt_ {w : World} {g : Nat} {o : Obj} (h : w.heap[g]? = some o) : g < w.heap.size := by
  rcases Nat.lt_or_ge g w.heap.size with h1 | h1
  · exact h1
  · rw [Array.getElem?_eq_none h1] at h; cases h
theorem heap_below {w w' : World} {g : Nat} {o : Obj} (h : w.heap[g]? = some o) (hb : Below w.heap.size w w') : w'.heap[g]? = some o := (hb.block g (heap_lt_ h)).trans h
theorem insSection_any (base : Nat) (O : Option Addr) (n oc i vb : Nat) (xs : List Sec) (x : Sec) (w : World) (hn : n = xs.length) (own : w.ownsRow base 78 2 (.slice O n oc) n (SectionK.row xs)) (hi : i ≤ n) (hv : w.heap[vb]? = some (.cells (SectionK.enc x).toArray 78 (0, 0))) (hne : (Value.slice O n oc).ownBlock ≠ some vb) (hm : n ≤ 1000000) (hb0 : base ≤ w.heap.size) :
    Calls Try.prog 117 #[.slice O n oc, .int .i64 i, .slice (some ⟨vb, 0, none⟩) 1 1] w (InsSection base w O n oc (xs.take i ++ x :: xs.drop i)) := by
  rcases Nat.lt_or_ge i n with h | h
  · obtain ⟨g, cap, hvv, _, _⟩ := own.form (by omega)
    obtain ⟨rfl, _, rfl⟩ : O = some ⟨g, 0, none⟩ ∧ n = n ∧ oc = cap := (by simpa using hvv)
    rcases Nat.lt_or_ge oc (n + 1) with hr | hr
    · exact insSection_grow base g n oc i vb xs x w hn own h hr hv hm hb0
    · exact insSection_shift base g n oc i vb xs x w hn own h hr hv (fun e => hne (by rw [e]; rfl)) hm
  · obtain rfl : i = n := by omega
    exact insSection_end base O i oc vb xs x w hn own (by omega) (fun j u hj => ⟨_, rfl, by rw [add_head]; exact (cell_of_row w vb j _ _ _ hv).trans (by simpa using hj)⟩) hb0
set_option maxHeartbeats 8000000 in
set_option maxRecDepth 100000 in
theorem AddSection_any (A : Option Addr) (c : Nat) (xs : List Sec) (i : Int) (x : Sec) (w : World) (ha : Cells w A (SectionK.row xs)) (hcc : xs.length ≤ c) (hm : xs.length ≤ 1048576) (hf : ∀ y ∈ xs, SectionK.fit y) (hfx : SectionK.fit x) :
    Calls Try.prog 59 #[.slice A xs.length c, .int .i64 i, .agg #[.int .i64 x.d, .string x.t]] w (ToLB SectionK 78 w (asL xs i x) (asB xs i x)) := by
  have HA := Lib.hid ha
  have HF := Lib.hid hf
  have HFX := Lib.hid hfx
  clear ha hf hfx
  have N0 := Lib.hid (BT.new w #[.int .i64 x.d, .string x.t] 78 w.heap.size rfl)
  have HB := Lib.hid (below1 w (.cells #[.int .i64 x.d, .string x.t] 78))
  have hs : w.heap.size < (w.alloc (.cells #[.int .i64 x.d, .string x.t] 78)).heap.size := by simp
  go_enter Try.func59, Try.ntmps59
  go_upto_region 1 with fail
  generalize (w.alloc (.cells #[.int .i64 x.d, .string x.t] 78)) = W at *
  go_wp2_with fail
  refine (IsDocument_any A c xs W (HA.out.below HB.out) hm HF.out).mono ?_
  rintro e w1 ⟨rfl, hb⟩
  replace N0 := Lib.hid (N0.out.call hb)
  replace HB := Lib.hid (HB.out.trans (hb.mono HB.out.size))
  replace hs := Nat.lt_of_lt_of_le hs hb.size
  clear hb
  rcases Bool.eq_false_or_eq_true (docB xs) with hv | hv
  · rw [hv]
    go_wp2_with fail
    refine (inside_any _ _ _ _).mono ?_
    rintro e w' ⟨rfl, hw⟩
    rw [← hw]
    clear hw
    rcases Bool.eq_false_or_eq_true (inB i 0 (xs.length : Int)) with hi | hi
    · rw [hi]
      obtain ⟨h12, n, rfl, hnl, has1, has2⟩ := as_yes (x := x) hv hi
      have HD := Lib.hid (And.intro has1 has2)
      clear has1 has2 hv hi
      obtain ⟨ws, hws⟩ : ∃ ws, ws = w1 := ⟨_, rfl⟩
      subst hws
      have kd1 : (n : Int) ≤ (c : Int) := by omega
      have kd2 : (n : Int) ≤ (xs.length : Int) := by omega
      have kd3 : n ≤ c := by omega
      have kd4 : (xs.length : Int) ≤ (c : Int) := by omega
      have KS2 : ∀ {w' : World}, Below ws.heap.size ws w' → (Below ws.heap.size ws w' ∧ (∀ o, w'.cell? ⟨w.heap.size, o, none⟩ = ws.cell? ⟨w.heap.size, o, none⟩)) := fun h => ⟨h, fun o => h.cell (p := ⟨w.heap.size, o, none⟩) hs⟩
      have x0 := N0.out.box.1 0 _ rfl
      have x1 := N0.out.box.1 1 _ rfl
      go_upto_region 3 with fail
      refine wp_region_noPanic ?_
      refine wp_region_held_drew (S := (fun w' => Below ws.heap.size ws w' ∧ (∀ o, w'.cell? ⟨w.heap.size, o, none⟩ = ws.cell? ⟨w.heap.size, o, none⟩))) (by kernel_rfl) ?_ (fun hHeld => ?_)
      · ((try dsimp only); exact KS2 (Below.refl _ _).drew)
      have HX := Lib.hid (show Below ws.heap.size ws ws.drew from (Below.refl _ _).drew)
      generalize ws.drew = ud at *
      refine take_yes (i := 1) (d := 19) (v := ?_) rfl rfl (by kernel_rfl) (by kernel_rfl) (by kernel_rfl) (fun _ _ _ h => h) (by kernel_rfl) ?_ hHeld ?_
      rotate_left
      · (intro w hSw; (try dsimp only at hSw); go_simp; try (with_reducible rfl))
      try simp only [Act.put, List.setIfInBounds_toArray, List.set_cons_zero, List.set_cons_succ]
      refine take_yes (i := 3) (d := 21) (v := ?_) rfl rfl (by kernel_rfl) (by kernel_rfl) (by kernel_rfl) (fun _ _ _ h => h) (by kernel_rfl) ?_ hHeld ?_
      rotate_left
      · (intro w hSw; (try dsimp only at hSw); go_simp; try (with_reducible rfl))
      try simp only [Act.put, List.setIfInBounds_toArray, List.set_cons_zero, List.set_cons_succ]
      refine take_yes (i := 4) (d := 22) (v := ?_) rfl rfl (by kernel_rfl) (by kernel_rfl) (by kernel_rfl) (fun _ _ _ h => h) (by kernel_rfl) ?_ hHeld ?_
      rotate_left
      · (intro w hSw; (try dsimp only at hSw); go_simp; try (with_reducible rfl))
      try simp only [Act.put, List.setIfInBounds_toArray, List.set_cons_zero, List.set_cons_succ]
      refine wpAnyH_ready (rs := [0, 5]) (by kernel_rfl) (by simp) ?_
      refine AllReadyH.cons rfl (fun K hK => ?_) (AllReadyH.cons rfl (fun K hK => ?_) (AllReadyH.nil))
      · try go_simp
        (first | refine hK.out _ _ ?_ (fun hHeld1 => ?_) | (go_wp2_with fail; refine hK.out _ _ ?_ (fun hHeld1 => ?_)))
        · ((try dsimp only); exact KS2 (HX.out.trans ((below1 ud _).mono HX.out.size)))
        clear hK K hHeld
        have hHeld := hHeld1
        clear hHeld1
        try simp only [Act.put, List.setIfInBounds_toArray, List.set_cons_zero, List.set_cons_succ]
        have hsz := HX.out.size
        have hb := below1 ud (.cells #[] 78)
        have HZ := Lib.hid (own_nil_lit ud ws.heap.size ud.heap.size 78 2 rfl hsz)
        replace hb := hb.mono hsz
        replace HX := Lib.hid (HX.out.trans hb)
        clear hb hsz
        generalize (ud.alloc (.cells #[] 78)) = y1 at *
        generalize ud.heap.size = gz at *
        refine wpAnyH_ready (rs := [2, 5]) (by kernel_rfl) (by simp) ?_
        refine AllReadyH.cons rfl (fun K hK => ?_) (AllReadyH.cons rfl (fun K hK => ?_) (AllReadyH.nil))
        · have hsz := HX.out.size
          refine step_append_lit elSection _ (by rfl) _ _ (by rfl) ws.heap.size gz A xs.length c (SectionK.row xs) (by rfl) (by rfl) (SectionK.row_len xs) HZ.out (HA.out.below (HB.out.trans (HX.out.mono HB.out.size))) section_one hsz (by omega) ?_
          intro O1 d1 y2 own1 hb hq1
          have HO1 := Lib.hid own1
          have HF1 := Lib.hid hb
          have HBN := Lib.hid (HX.out.trans (hb.mono hsz))
          clear own1 hb hq1
          (first | refine hK.out _ _ ?_ (fun hHeld1 => ?_) | (go_wp2_with fail; refine hK.out _ _ ?_ (fun hHeld1 => ?_)))
          · ((try dsimp only); exact KS2 HBN.out)
          clear hK K hHeld
          have hHeld := hHeld1
          clear hHeld1
          try simp only [Act.put, List.setIfInBounds_toArray, List.set_cons_zero, List.set_cons_succ]
          replace HX := Lib.hid (HX.out.trans (HF1.out.mono hsz))
          clear hsz HF1
          refine wpAnyH_ready (rs := [5]) (by kernel_rfl) (by simp) ?_
          refine AllReadyH.cons rfl (fun K hK => ?_) (AllReadyH.nil)
          try go_simp
          (first | refine hK.out _ _ ?_ (fun hHeld1 => ?_) | (go_wp2_with fail; refine hK.out _ _ ?_ (fun hHeld1 => ?_)))
          · ((try dsimp only); exact KS2 (HX.out.trans ((below1 y2 _).mono HX.out.size)))
          clear hK K hHeld
          have hHeld := hHeld1
          clear hHeld1
          try simp only [Act.put, List.setIfInBounds_toArray, List.set_cons_zero, List.set_cons_succ]
          have hsz := HX.out.size
          have hb := below1 y2 (.cells #[.int .i64 x.d, .string x.t] 78)
          have HNE := Lib.hid (show (Value.slice O1 xs.length d1).ownBlock ≠ some y2.heap.size from fun e => absurd (HO1.out.lt _ e).2 (by omega))
          replace HO1 := Lib.hid (own_keep HO1.out hb)
          have HXC := Lib.hid (show ((y2.alloc (.cells #[.int .i64 x.d, .string x.t] 78))).heap[y2.heap.size]? = some (.cells (SectionK.enc x).toArray 78 (0, 0)) from heap_alloc_new y2 _)
          replace hb := hb.mono hsz
          replace HX := Lib.hid (HX.out.trans hb)
          clear hb hsz
          generalize (y2.alloc (.cells #[.int .i64 x.d, .string x.t] 78)) = y3 at *
          generalize y2.heap.size = gx at *
          refine wpAnyH_ready (rs := [6]) (by kernel_rfl) (by simp) ?_
          refine AllReadyH.cons rfl (fun K hK => ?_) (AllReadyH.nil)
          go_simp
          (go_at_call 117; refine (insSection_any ws.heap.size O1 xs.length d1 n gx xs x _ rfl HO1.out hnl HXC.out HNE.out (by omega) HX.out.size).mono ?_; rintro e y4 ⟨O3, d3, rfl, own, hg⟩; have HO3 := Lib.hid (show _ from own); have HF1 := Lib.hid (below_of_grownBy hg HX.out.size (fun g e => (HO1.out.lt g e).1)); have HBN := Lib.hid (HX.out.trans HF1.out); clear own hg)
          (first | refine hK.out _ _ ?_ (fun hHeld1 => ?_) | (go_wp2_with fail; refine hK.out _ _ ?_ (fun hHeld1 => ?_)))
          · ((try dsimp only); exact KS2 HBN.out)
          clear hK K hHeld
          have hHeld := hHeld1
          clear hHeld1
          try simp only [Act.put, List.setIfInBounds_toArray, List.set_cons_zero, List.set_cons_succ]
          replace HX := Lib.hid (HX.out.trans HF1.out)
          clear HF1
          have hn3 := Lib.hid (show xs.length + 1 = (insS xs n x).length by rw [insS_len hnl])
          refine wpAnyH_ready (rs := [7]) (by kernel_rfl) (by simp) ?_
          refine AllReadyH.cons rfl (fun K hK => ?_) (AllReadyH.nil)
          go_simp
          (go_at_call 116; refine (asDocument_any ws.heap.size O3 d3 (insS xs n x) _ _ hn3.out HO3.out (by rw [insS_len hnl]; omega) (insS_fit HF.out HFX.out) HX.out.size).mono ?_; rintro e y5 ⟨P, m, q, rfl, hm4, own, hb⟩; have HO4 := Lib.hid own; have HM4 := Lib.hid hm4; have HBN := Lib.hid (HX.out.trans (hb.mono HX.out.size)); clear own hb hm4)
          (first | refine hK.out _ _ ?_ (fun hHeld1 => ?_) | (go_wp2_with fail; refine hK.out _ _ ?_ (fun hHeld1 => ?_)))
          · ((try dsimp only); exact KS2 HBN.out)
          clear hK K hHeld
          have hHeld := hHeld1
          clear hHeld1
          try simp only [Act.put, List.setIfInBounds_toArray, List.set_cons_zero, List.set_cons_succ]
          replace HX := HBN
          refine take_yes (i := 8) (d := 26) (v := ?_) rfl rfl (by kernel_rfl) (by kernel_rfl) (by kernel_rfl) (fun _ _ _ h => h) (by kernel_rfl) ?_ hHeld ?_
          rotate_left
          · (intro w hSw; (try dsimp only at hSw); go_simp; try (with_reducible rfl))
          try simp only [Act.put, List.setIfInBounds_toArray, List.set_cons_zero, List.set_cons_succ]
          refine take_yes (i := 9) (d := 27) (v := ?_) rfl rfl (by kernel_rfl) (by kernel_rfl) (by kernel_rfl) (fun _ _ _ h => h) (by kernel_rfl) ?_ hHeld ?_
          rotate_left
          · (intro w hSw; (try dsimp only at hSw); go_simp; try (with_reducible rfl))
          try simp only [Act.put, List.setIfInBounds_toArray, List.set_cons_zero, List.set_cons_succ]
          refine take_yes (i := 10) (d := 6) (v := ?_) rfl rfl (by kernel_rfl) (by kernel_rfl) (by kernel_rfl) (fun _ _ _ h => h) (by kernel_rfl) ?_ hHeld ?_
          rotate_left
          · (intro w hSw; (try dsimp only at hSw); go_simp; try (with_reducible rfl))
          try simp only [Act.put, List.setIfInBounds_toArray, List.set_cons_zero, List.set_cons_succ]
          refine take_yes (i := 11) (d := 7) (v := ?_) rfl rfl (by kernel_rfl) (by kernel_rfl) (by kernel_rfl) (fun _ _ _ h => h) (by kernel_rfl) ?_ hHeld ?_
          rotate_left
          · (intro w hSw; (try dsimp only at hSw); go_simp; try (with_reducible rfl))
          try simp only [Act.put, List.setIfInBounds_toArray, List.set_cons_zero, List.set_cons_succ]
          refine wpAnyH_done (by kernel_rfl) ?_ _
          refine NoPanic.normal ?_
          clear hHeld x0 x1 kd1 kd2 kd3 kd4
          have hBs := HB.out.size
          go_wp2_with (go_ret2; exact tolb_own (ys := ckL (insS xs n x)) (own_mono HO4.out hBs) HD.out.1 HM4.out (by (have h1 := ckL_len (ys := insS xs n x); rw [insS_len hnl] at h1; omega)) (ckL_fit (insS_fit HF.out HFX.out)) HD.out.2 (HB.out.trans (HX.out.mono hBs)))
        · try go_simp
          (first | refine hK.out _ _ ?_ (fun hHeld1 => ?_) | (go_wp2_with fail; refine hK.out _ _ ?_ (fun hHeld1 => ?_)))
          · ((try dsimp only); exact KS2 (HX.out.trans ((below1 y1 _).mono HX.out.size)))
          clear hK K hHeld
          have hHeld := hHeld1
          clear hHeld1
          try simp only [Act.put, List.setIfInBounds_toArray, List.set_cons_zero, List.set_cons_succ]
          have hsz := HX.out.size
          have hb := below1 y1 (.cells #[.int .i64 x.d, .string x.t] 78)
          have HGE := Lib.hid (show y1.heap.size ≠ gz from fun e => absurd (HZ.out.lt gz rfl).2 (by omega))
          replace HZ := Lib.hid (own_keep HZ.out hb)
          have HXC := Lib.hid (show ((y1.alloc (.cells #[.int .i64 x.d, .string x.t] 78))).heap[y1.heap.size]? = some (.cells (SectionK.enc x).toArray 78 (0, 0)) from heap_alloc_new y1 _)
          replace hb := hb.mono hsz
          replace HX := Lib.hid (HX.out.trans hb)
          clear hb hsz
          generalize (y1.alloc (.cells #[.int .i64 x.d, .string x.t] 78)) = y2 at *
          generalize y1.heap.size = gx at *
          refine wpAnyH_ready (rs := [2]) (by kernel_rfl) (by simp) ?_
          refine AllReadyH.cons rfl (fun K hK => ?_) (AllReadyH.nil)
          have hsz := HX.out.size
          refine step_append_lit elSection _ (by rfl) _ _ (by rfl) ws.heap.size gz A xs.length c (SectionK.row xs) (by rfl) (by rfl) (SectionK.row_len xs) HZ.out (HA.out.below (HB.out.trans (HX.out.mono HB.out.size))) section_one hsz (by omega) ?_
          intro O1 d1 y3 own1 hb hq1
          have HO1 := Lib.hid own1
          have HNE := Lib.hid (hq1 gx HGE.out (heap_lt_ HXC.out))
          have HF1 := Lib.hid hb
          have HBN := Lib.hid (HX.out.trans (hb.mono hsz))
          clear own1 hb hq1
          (first | refine hK.out _ _ ?_ (fun hHeld1 => ?_) | (go_wp2_with fail; refine hK.out _ _ ?_ (fun hHeld1 => ?_)))
          · ((try dsimp only); exact KS2 HBN.out)
          clear hK K hHeld
          have hHeld := hHeld1
          clear hHeld1
          try simp only [Act.put, List.setIfInBounds_toArray, List.set_cons_zero, List.set_cons_succ]
          replace HXC := Lib.hid (heap_below HXC.out HF1.out)
          replace HX := Lib.hid (HX.out.trans (HF1.out.mono hsz))
          clear hsz HF1
          refine wpAnyH_ready (rs := [6]) (by kernel_rfl) (by simp) ?_
          refine AllReadyH.cons rfl (fun K hK => ?_) (AllReadyH.nil)
          go_simp
          (go_at_call 117; refine (insSection_any ws.heap.size O1 xs.length d1 n gx xs x _ rfl HO1.out hnl HXC.out HNE.out (by omega) HX.out.size).mono ?_; rintro e y4 ⟨O3, d3, rfl, own, hg⟩; have HO3 := Lib.hid (show _ from own); have HF1 := Lib.hid (below_of_grownBy hg HX.out.size (fun g e => (HO1.out.lt g e).1)); have HBN := Lib.hid (HX.out.trans HF1.out); clear own hg)
          (first | refine hK.out _ _ ?_ (fun hHeld1 => ?_) | (go_wp2_with fail; refine hK.out _ _ ?_ (fun hHeld1 => ?_)))
          · ((try dsimp only); exact KS2 HBN.out)
          clear hK K hHeld
          have hHeld := hHeld1
          clear hHeld1
          try simp only [Act.put, List.setIfInBounds_toArray, List.set_cons_zero, List.set_cons_succ]
          replace HX := Lib.hid (HX.out.trans HF1.out)
          clear HF1
          have hn3 := Lib.hid (show xs.length + 1 = (insS xs n x).length by rw [insS_len hnl])
          refine wpAnyH_ready (rs := [7]) (by kernel_rfl) (by simp) ?_
          refine AllReadyH.cons rfl (fun K hK => ?_) (AllReadyH.nil)
          go_simp
          (go_at_call 116; refine (asDocument_any ws.heap.size O3 d3 (insS xs n x) _ _ hn3.out HO3.out (by rw [insS_len hnl]; omega) (insS_fit HF.out HFX.out) HX.out.size).mono ?_; rintro e y5 ⟨P, m, q, rfl, hm4, own, hb⟩; have HO4 := Lib.hid own; have HM4 := Lib.hid hm4; have HBN := Lib.hid (HX.out.trans (hb.mono HX.out.size)); clear own hb hm4)
          (first | refine hK.out _ _ ?_ (fun hHeld1 => ?_) | (go_wp2_with fail; refine hK.out _ _ ?_ (fun hHeld1 => ?_)))
          · ((try dsimp only); exact KS2 HBN.out)
          clear hK K hHeld
          have hHeld := hHeld1
          clear hHeld1
          try simp only [Act.put, List.setIfInBounds_toArray, List.set_cons_zero, List.set_cons_succ]
          replace HX := HBN
          refine take_yes (i := 8) (d := 26) (v := ?_) rfl rfl (by kernel_rfl) (by kernel_rfl) (by kernel_rfl) (fun _ _ _ h => h) (by kernel_rfl) ?_ hHeld ?_
          rotate_left
          · (intro w hSw; (try dsimp only at hSw); go_simp; try (with_reducible rfl))
          try simp only [Act.put, List.setIfInBounds_toArray, List.set_cons_zero, List.set_cons_succ]
          refine take_yes (i := 9) (d := 27) (v := ?_) rfl rfl (by kernel_rfl) (by kernel_rfl) (by kernel_rfl) (fun _ _ _ h => h) (by kernel_rfl) ?_ hHeld ?_
          rotate_left
          · (intro w hSw; (try dsimp only at hSw); go_simp; try (with_reducible rfl))
          try simp only [Act.put, List.setIfInBounds_toArray, List.set_cons_zero, List.set_cons_succ]
          refine take_yes (i := 10) (d := 6) (v := ?_) rfl rfl (by kernel_rfl) (by kernel_rfl) (by kernel_rfl) (fun _ _ _ h => h) (by kernel_rfl) ?_ hHeld ?_
          rotate_left
          · (intro w hSw; (try dsimp only at hSw); go_simp; try (with_reducible rfl))
          try simp only [Act.put, List.setIfInBounds_toArray, List.set_cons_zero, List.set_cons_succ]
          refine take_yes (i := 11) (d := 7) (v := ?_) rfl rfl (by kernel_rfl) (by kernel_rfl) (by kernel_rfl) (fun _ _ _ h => h) (by kernel_rfl) ?_ hHeld ?_
          rotate_left
          · (intro w hSw; (try dsimp only at hSw); go_simp; try (with_reducible rfl))
          try simp only [Act.put, List.setIfInBounds_toArray, List.set_cons_zero, List.set_cons_succ]
          refine wpAnyH_done (by kernel_rfl) ?_ _
          refine NoPanic.normal ?_
          clear hHeld x0 x1 kd1 kd2 kd3 kd4
          have hBs := HB.out.size
          go_wp2_with (go_ret2; exact tolb_own (ys := ckL (insS xs n x)) (own_mono HO4.out hBs) HD.out.1 HM4.out (by (have h1 := ckL_len (ys := insS xs n x); rw [insS_len hnl] at h1; omega)) (ckL_fit (insS_fit HF.out HFX.out)) HD.out.2 (HB.out.trans (HX.out.mono hBs)))
      · try go_simp
        (first | refine hK.out _ _ ?_ (fun hHeld1 => ?_) | (go_wp2_with fail; refine hK.out _ _ ?_ (fun hHeld1 => ?_)))
        · ((try dsimp only); exact KS2 (HX.out.trans ((below1 ud _).mono HX.out.size)))
        clear hK K hHeld
        have hHeld := hHeld1
        clear hHeld1
        try simp only [Act.put, List.setIfInBounds_toArray, List.set_cons_zero, List.set_cons_succ]
        have hsz := HX.out.size
        have hb := below1 ud (.cells #[.int .i64 x.d, .string x.t] 78)
        have HXC := Lib.hid (show ((ud.alloc (.cells #[.int .i64 x.d, .string x.t] 78))).heap[ud.heap.size]? = some (.cells (SectionK.enc x).toArray 78 (0, 0)) from heap_alloc_new ud _)
        replace hb := hb.mono hsz
        replace HX := Lib.hid (HX.out.trans hb)
        clear hb hsz
        generalize (ud.alloc (.cells #[.int .i64 x.d, .string x.t] 78)) = y1 at *
        generalize ud.heap.size = gx at *
        refine wpAnyH_ready (rs := [0]) (by kernel_rfl) (by simp) ?_
        refine AllReadyH.cons rfl (fun K hK => ?_) (AllReadyH.nil)
        try go_simp
        (first | refine hK.out _ _ ?_ (fun hHeld1 => ?_) | (go_wp2_with fail; refine hK.out _ _ ?_ (fun hHeld1 => ?_)))
        · ((try dsimp only); exact KS2 (HX.out.trans ((below1 y1 _).mono HX.out.size)))
        clear hK K hHeld
        have hHeld := hHeld1
        clear hHeld1
        try simp only [Act.put, List.setIfInBounds_toArray, List.set_cons_zero, List.set_cons_succ]
        have hsz := HX.out.size
        have hb := below1 y1 (.cells #[] 78)
        have HGE := Lib.hid (show gx ≠ y1.heap.size from Nat.ne_of_lt (heap_lt_ HXC.out))
        replace HXC := Lib.hid (heap_below HXC.out hb)
        have HZ := Lib.hid (own_nil_lit y1 ws.heap.size y1.heap.size 78 2 rfl hsz)
        replace hb := hb.mono hsz
        replace HX := Lib.hid (HX.out.trans hb)
        clear hb hsz
        generalize (y1.alloc (.cells #[] 78)) = y2 at *
        generalize y1.heap.size = gz at *
        refine wpAnyH_ready (rs := [2]) (by kernel_rfl) (by simp) ?_
        refine AllReadyH.cons rfl (fun K hK => ?_) (AllReadyH.nil)
        have hsz := HX.out.size
        refine step_append_lit elSection _ (by rfl) _ _ (by rfl) ws.heap.size gz A xs.length c (SectionK.row xs) (by rfl) (by rfl) (SectionK.row_len xs) HZ.out (HA.out.below (HB.out.trans (HX.out.mono HB.out.size))) section_one hsz (by omega) ?_
        intro O1 d1 y3 own1 hb hq1
        have HO1 := Lib.hid own1
        have HNE := Lib.hid (hq1 gx HGE.out (heap_lt_ HXC.out))
        have HF1 := Lib.hid hb
        have HBN := Lib.hid (HX.out.trans (hb.mono hsz))
        clear own1 hb hq1
        (first | refine hK.out _ _ ?_ (fun hHeld1 => ?_) | (go_wp2_with fail; refine hK.out _ _ ?_ (fun hHeld1 => ?_)))
        · ((try dsimp only); exact KS2 HBN.out)
        clear hK K hHeld
        have hHeld := hHeld1
        clear hHeld1
        try simp only [Act.put, List.setIfInBounds_toArray, List.set_cons_zero, List.set_cons_succ]
        replace HXC := Lib.hid (heap_below HXC.out HF1.out)
        replace HX := Lib.hid (HX.out.trans (HF1.out.mono hsz))
        clear hsz HF1
        refine wpAnyH_ready (rs := [6]) (by kernel_rfl) (by simp) ?_
        refine AllReadyH.cons rfl (fun K hK => ?_) (AllReadyH.nil)
        go_simp
        (go_at_call 117; refine (insSection_any ws.heap.size O1 xs.length d1 n gx xs x _ rfl HO1.out hnl HXC.out HNE.out (by omega) HX.out.size).mono ?_; rintro e y4 ⟨O3, d3, rfl, own, hg⟩; have HO3 := Lib.hid (show _ from own); have HF1 := Lib.hid (below_of_grownBy hg HX.out.size (fun g e => (HO1.out.lt g e).1)); have HBN := Lib.hid (HX.out.trans HF1.out); clear own hg)
        (first | refine hK.out _ _ ?_ (fun hHeld1 => ?_) | (go_wp2_with fail; refine hK.out _ _ ?_ (fun hHeld1 => ?_)))
        · ((try dsimp only); exact KS2 HBN.out)
        clear hK K hHeld
        have hHeld := hHeld1
        clear hHeld1
        try simp only [Act.put, List.setIfInBounds_toArray, List.set_cons_zero, List.set_cons_succ]
        replace HX := Lib.hid (HX.out.trans HF1.out)
        clear HF1
        have hn3 := Lib.hid (show xs.length + 1 = (insS xs n x).length by rw [insS_len hnl])
        refine wpAnyH_ready (rs := [7]) (by kernel_rfl) (by simp) ?_
        refine AllReadyH.cons rfl (fun K hK => ?_) (AllReadyH.nil)
        go_simp
        (go_at_call 116; refine (asDocument_any ws.heap.size O3 d3 (insS xs n x) _ _ hn3.out HO3.out (by rw [insS_len hnl]; omega) (insS_fit HF.out HFX.out) HX.out.size).mono ?_; rintro e y5 ⟨P, m, q, rfl, hm4, own, hb⟩; have HO4 := Lib.hid own; have HM4 := Lib.hid hm4; have HBN := Lib.hid (HX.out.trans (hb.mono HX.out.size)); clear own hb hm4)
        (first | refine hK.out _ _ ?_ (fun hHeld1 => ?_) | (go_wp2_with fail; refine hK.out _ _ ?_ (fun hHeld1 => ?_)))
        · ((try dsimp only); exact KS2 HBN.out)
        clear hK K hHeld
        have hHeld := hHeld1
        clear hHeld1
        try simp only [Act.put, List.setIfInBounds_toArray, List.set_cons_zero, List.set_cons_succ]
        replace HX := HBN
        refine take_yes (i := 8) (d := 26) (v := ?_) rfl rfl (by kernel_rfl) (by kernel_rfl) (by kernel_rfl) (fun _ _ _ h => h) (by kernel_rfl) ?_ hHeld ?_
        rotate_left
        · (intro w hSw; (try dsimp only at hSw); go_simp; try (with_reducible rfl))
        try simp only [Act.put, List.setIfInBounds_toArray, List.set_cons_zero, List.set_cons_succ]
        refine take_yes (i := 9) (d := 27) (v := ?_) rfl rfl (by kernel_rfl) (by kernel_rfl) (by kernel_rfl) (fun _ _ _ h => h) (by kernel_rfl) ?_ hHeld ?_
        rotate_left
        · (intro w hSw; (try dsimp only at hSw); go_simp; try (with_reducible rfl))
        try simp only [Act.put, List.setIfInBounds_toArray, List.set_cons_zero, List.set_cons_succ]
        refine take_yes (i := 10) (d := 6) (v := ?_) rfl rfl (by kernel_rfl) (by kernel_rfl) (by kernel_rfl) (fun _ _ _ h => h) (by kernel_rfl) ?_ hHeld ?_
        rotate_left
        · (intro w hSw; (try dsimp only at hSw); go_simp; try (with_reducible rfl))
        try simp only [Act.put, List.setIfInBounds_toArray, List.set_cons_zero, List.set_cons_succ]
        refine take_yes (i := 11) (d := 7) (v := ?_) rfl rfl (by kernel_rfl) (by kernel_rfl) (by kernel_rfl) (fun _ _ _ h => h) (by kernel_rfl) ?_ hHeld ?_
        rotate_left
        · (intro w hSw; (try dsimp only at hSw); go_simp; try (with_reducible rfl))
        try simp only [Act.put, List.setIfInBounds_toArray, List.set_cons_zero, List.set_cons_succ]
        refine wpAnyH_done (by kernel_rfl) ?_ _
        refine NoPanic.normal ?_
        clear hHeld x0 x1 kd1 kd2 kd3 kd4
        have hBs := HB.out.size
        go_wp2_with (go_ret2; exact tolb_own (ys := ckL (insS xs n x)) (own_mono HO4.out hBs) HD.out.1 HM4.out (by (have h1 := ckL_len (ys := insS xs n x); rw [insS_len hnl] at h1; omega)) (ckL_fit (insS_fit HF.out HFX.out)) HD.out.2 (HB.out.trans (HX.out.mono hBs)))
    · rw [hi]
      have HNO := Lib.hid (as_no (x := x) (show (docB xs && inB i 0 (xs.length : Int)) = false by rw [hi]; simp))
      clear hv hi
      go_wp2_with (go_ret2; exact tolb_none HNO.out.1 HNO.out.2 HB.out)
  · rw [hv]
    have HNO := Lib.hid (as_no (i := i) (x := x) (show (docB xs && inB i 0 (xs.length : Int)) = false by rw [hv]; rfl))
    clear hv
    go_wp2_with (go_ret2; exact tolb_none HNO.out.1 HNO.out.2 HB.out)
set_option maxHeartbeats 8000000 in
set_option maxRecDepth 100000 in
theorem sAddSection_any (A : Option Addr) (c : Nat) (xs : List Sec) (i : Int) (x : Sec) (w : World) (ha : Cells w A (SectionK.row xs)) (hcc : xs.length ≤ c) (hm : xs.length ≤ 1048576) (hf : ∀ y ∈ xs, SectionK.fit y) (hfx : SectionK.fit x) :
    Calls Try.prog 60 #[.slice A xs.length c, .int .i64 i, .agg #[.int .i64 x.d, .string x.t]] w (ToLB SectionK 78 w (asL xs i x) (asB xs i x)) := by
  have HA := Lib.hid ha
  have HF := Lib.hid hf
  have HFX := Lib.hid hfx
  clear ha hf hfx
  have N0 := Lib.hid (BT.new w #[.int .i64 x.d, .string x.t] 78 w.heap.size rfl)
  have HB := Lib.hid (below1 w (.cells #[.int .i64 x.d, .string x.t] 78))
  have hs : w.heap.size < (w.alloc (.cells #[.int .i64 x.d, .string x.t] 78)).heap.size := by simp
  go_enter Try.func60, Try.ntmps60
  go_upto_region 1 with fail
  generalize (w.alloc (.cells #[.int .i64 x.d, .string x.t] 78)) = W at *
  go_wp2_with fail
  refine (l6Good_any A c xs W (HA.out.below HB.out) hm HF.out).mono ?_
  rintro e w1 ⟨rfl, hb⟩
  have hb := below_drews (Below.refl W.heap.size W) hb
  replace N0 := Lib.hid (N0.out.call hb)
  replace HB := Lib.hid (HB.out.trans (hb.mono HB.out.size))
  replace hs := Nat.lt_of_lt_of_le hs hb.size
  clear hb
  rcases Bool.eq_false_or_eq_true (docB xs) with hv | hv
  · rw [hv]
    go_wp2_with fail
    refine (l1In_any _ _ _ _).mono ?_
    rintro e w' ⟨rfl, hw⟩
    rw [← hw]
    clear hw
    rcases Bool.eq_false_or_eq_true (inB i 0 (xs.length : Int)) with hi | hi
    · rw [hi]
      obtain ⟨h12, n, rfl, hnl, has1, has2⟩ := as_yes (x := x) hv hi
      have HD := Lib.hid (And.intro has1 has2)
      clear has1 has2 hv hi
      obtain ⟨ws, hws⟩ : ∃ ws, ws = w1 := ⟨_, rfl⟩
      subst hws
      have kd1 : (n : Int) ≤ (c : Int) := by omega
      have kd2 : (n : Int) ≤ (xs.length : Int) := by omega
      have kd3 : n ≤ c := by omega
      have kd4 : (xs.length : Int) ≤ (c : Int) := by omega
      obtain ⟨Q, e2⟩ : ∃ Q, (if c = n then A else A.map (·.add (n * 2))) = Q := ⟨_, rfl⟩
      have HQ := Lib.hid (show n < xs.length → Q = A.map (·.add (n * SectionK.sz)) from fun h => by rw [← e2, if_neg (by omega)]; rfl)
      have KS2 : ∀ {w' : World}, Below ws.heap.size ws w' → (Below ws.heap.size ws w' ∧ (∀ o, w'.cell? ⟨w.heap.size, o, none⟩ = ws.cell? ⟨w.heap.size, o, none⟩)) := fun h => ⟨h, fun o => h.cell (p := ⟨w.heap.size, o, none⟩) hs⟩
      have x0 := N0.out.box.1 0 _ rfl
      have x1 := N0.out.box.1 1 _ rfl
      go_upto_region 3 with fail
      refine wp_region_noPanic ?_
      refine wp_region_held_drew (S := (fun w' => Below ws.heap.size ws w' ∧ (∀ o, w'.cell? ⟨w.heap.size, o, none⟩ = ws.cell? ⟨w.heap.size, o, none⟩))) (by kernel_rfl) ?_ (fun hHeld => ?_)
      · ((try dsimp only); exact KS2 (Below.refl _ _).drew)
      have HX := Lib.hid (show Below ws.heap.size ws ws.drew from (Below.refl _ _).drew)
      generalize ws.drew = ud at *
      refine take_yes (i := 1) (d := 20) (v := ?_) rfl rfl (by kernel_rfl) (by kernel_rfl) (by kernel_rfl) (fun _ _ _ h => h) (by kernel_rfl) ?_ hHeld ?_
      rotate_left
      · (intro w hSw; (try dsimp only at hSw); go_simp; try (with_reducible rfl))
      try simp only [Act.put, List.setIfInBounds_toArray, List.set_cons_zero, List.set_cons_succ]
      refine take_yes (i := 2) (d := 21) (v := ?_) rfl rfl (by kernel_rfl) (by kernel_rfl) (by kernel_rfl) (fun _ _ _ h => h) (by kernel_rfl) ?_ hHeld ?_
      rotate_left
      · (intro w hSw; (try dsimp only at hSw); go_simp; try (with_reducible rfl))
      try simp only [Act.put, List.setIfInBounds_toArray, List.set_cons_zero, List.set_cons_succ]
      refine take_yes (i := 3) (d := 22) (v := ?_) rfl rfl (by kernel_rfl) (by kernel_rfl) (by kernel_rfl) (fun _ _ _ h => h) (by kernel_rfl) ?_ hHeld ?_
      rotate_left
      · (intro w hSw; (try dsimp only at hSw); go_simp; try (with_reducible rfl))
      try simp only [Act.put, List.setIfInBounds_toArray, List.set_cons_zero, List.set_cons_succ]
      refine take_yes (i := 5) (d := 24) (v := ?_) rfl rfl (by kernel_rfl) (by kernel_rfl) (by kernel_rfl) (fun _ _ _ h => h) (by kernel_rfl) ?_ hHeld ?_
      rotate_left
      · (intro w hSw; (try dsimp only at hSw); go_simp; try (with_reducible rfl))
      try simp only [Act.put, List.setIfInBounds_toArray, List.set_cons_zero, List.set_cons_succ]
      refine take_yes (i := 8) (d := 27) (v := ?_) rfl rfl (by kernel_rfl) (by kernel_rfl) (by kernel_rfl) (fun _ _ _ h => h) (by kernel_rfl) ?_ hHeld ?_
      rotate_left
      · (intro w hSw; (try dsimp only at hSw); go_simp; try (with_reducible rfl))
      try simp only [Act.put, List.setIfInBounds_toArray, List.set_cons_zero, List.set_cons_succ]
      refine take_yes (i := 9) (d := 28) (v := ?_) rfl rfl (by kernel_rfl) (by kernel_rfl) (by kernel_rfl) (fun _ _ _ h => h) (by kernel_rfl) ?_ hHeld ?_
      rotate_left
      · (intro w hSw; (try dsimp only at hSw); go_simp; try (with_reducible rfl))
      try simp only [Act.put, List.setIfInBounds_toArray, List.set_cons_zero, List.set_cons_succ]
      refine take_yes (i := 10) (d := 29) (v := ?_) rfl rfl (by kernel_rfl) (by kernel_rfl) (by kernel_rfl) (fun _ _ _ h => h) (by kernel_rfl) ?_ hHeld ?_
      rotate_left
      · (intro w hSw; (try dsimp only at hSw); go_simp; try (with_reducible rfl))
      try simp only [Act.put, List.setIfInBounds_toArray, List.set_cons_zero, List.set_cons_succ]
      refine wpAnyH_ready (rs := [0, 6]) (by kernel_rfl) (by simp) ?_
      refine AllReadyH.cons rfl (fun K hK => ?_) (AllReadyH.cons rfl (fun K hK => ?_) (AllReadyH.nil))
      · try go_simp
        (first | refine hK.out _ _ ?_ (fun hHeld1 => ?_) | (go_wp2_with fail; refine hK.out _ _ ?_ (fun hHeld1 => ?_)))
        · ((try dsimp only); exact KS2 (HX.out.trans ((below1 ud _).mono HX.out.size)))
        clear hK K hHeld
        have hHeld := hHeld1
        clear hHeld1
        try simp only [Act.put, List.setIfInBounds_toArray, List.set_cons_zero, List.set_cons_succ]
        have hsz := HX.out.size
        have hb := below1 ud (.cells #[] 78)
        have HZ := Lib.hid (own_nil_lit ud ws.heap.size ud.heap.size 78 2 rfl hsz)
        replace hb := hb.mono hsz
        replace HX := Lib.hid (HX.out.trans hb)
        clear hb hsz
        generalize (ud.alloc (.cells #[] 78)) = y1 at *
        generalize ud.heap.size = gz at *
        refine wpAnyH_ready (rs := [4, 6]) (by kernel_rfl) (by simp) ?_
        refine AllReadyH.cons rfl (fun K hK => ?_) (AllReadyH.cons rfl (fun K hK => ?_) (AllReadyH.nil))
        · have hsz := HX.out.size
          refine step_append_lit elSection _ (by rfl) _ _ (by rfl) ws.heap.size gz A n c (SectionK.row (xs.take n)) (by rfl) (by rfl) (by rw [Kd.row_len, List.length_take, Nat.min_eq_left (by omega)]; rfl) HZ.out (takeS SectionK (HA.out.below (HB.out.trans (HX.out.mono HB.out.size)))) section_one hsz (by omega) ?_
          intro O1 d1 y2 own1 hb hq1
          have HO1 := Lib.hid own1
          have HF1 := Lib.hid hb
          have HBN := Lib.hid (HX.out.trans (hb.mono hsz))
          clear own1 hb hq1
          (first | refine hK.out _ _ ?_ (fun hHeld1 => ?_) | (go_wp2_with fail; refine hK.out _ _ ?_ (fun hHeld1 => ?_)))
          · ((try dsimp only); exact KS2 HBN.out)
          clear hK K hHeld
          have hHeld := hHeld1
          clear hHeld1
          try simp only [Act.put, List.setIfInBounds_toArray, List.set_cons_zero, List.set_cons_succ]
          replace HX := Lib.hid (HX.out.trans (HF1.out.mono hsz))
          clear hsz HF1
          refine wpAnyH_ready (rs := [6]) (by kernel_rfl) (by simp) ?_
          refine AllReadyH.cons rfl (fun K hK => ?_) (AllReadyH.nil)
          try go_simp
          (first | refine hK.out _ _ ?_ (fun hHeld1 => ?_) | (go_wp2_with fail; refine hK.out _ _ ?_ (fun hHeld1 => ?_)))
          · ((try dsimp only); exact KS2 (HX.out.trans ((below1 y2 _).mono HX.out.size)))
          clear hK K hHeld
          have hHeld := hHeld1
          clear hHeld1
          try simp only [Act.put, List.setIfInBounds_toArray, List.set_cons_zero, List.set_cons_succ]
          have hsz := HX.out.size
          have hb := below1 y2 (.cells #[.int .i64 x.d, .string x.t] 78)
          have HNE := Lib.hid (show (Value.slice O1 n d1).ownBlock ≠ some y2.heap.size from fun e => absurd (HO1.out.lt _ e).2 (by omega))
          replace HO1 := Lib.hid (own_keep HO1.out hb)
          have HXC := Lib.hid (show ((y2.alloc (.cells #[.int .i64 x.d, .string x.t] 78))).heap[y2.heap.size]? = some (.cells (SectionK.enc x).toArray 78 (0, 0)) from heap_alloc_new y2 _)
          replace hb := hb.mono hsz
          replace HX := Lib.hid (HX.out.trans hb)
          clear hb hsz
          generalize (y2.alloc (.cells #[.int .i64 x.d, .string x.t] 78)) = y3 at *
          generalize y2.heap.size = gx at *
          refine wpAnyH_ready (rs := [7]) (by kernel_rfl) (by simp) ?_
          refine AllReadyH.cons rfl (fun K hK => ?_) (AllReadyH.nil)
          have hsz := HX.out.size
          refine step_append elSection _ (by rfl) _ _ (by rfl) ws.heap.size O1 (some ⟨gx, 0, none⟩) d1 n 1 1 (SectionK.row (xs.take n)) (SectionK.row [x]) (by rfl) (by rfl) rfl HO1.out (fun j u hj => ⟨_, rfl, by rw [add_head]; exact (cell_of_row _ gx j _ _ _ HXC.out).trans (by simpa [Kd.row] using hj)⟩) section_one hsz (by omega) ?_
          intro O2 d2 y4 own1 hb
          have HO2 := Lib.hid own1
          have HF1 := Lib.hid hb
          have HBN := Lib.hid (HX.out.trans hb)
          clear own1 hb
          (first | refine hK.out _ _ ?_ (fun hHeld1 => ?_) | (go_wp2_with fail; refine hK.out _ _ ?_ (fun hHeld1 => ?_)))
          · ((try dsimp only); exact KS2 HBN.out)
          clear hK K hHeld
          have hHeld := hHeld1
          clear hHeld1
          try simp only [Act.put, List.setIfInBounds_toArray, List.set_cons_zero, List.set_cons_succ]
          replace HX := Lib.hid (HX.out.trans HF1.out)
          clear hsz HF1
          refine wpAnyH_ready (rs := [11]) (by kernel_rfl) (by simp) ?_
          refine AllReadyH.cons rfl (fun K hK => ?_) (AllReadyH.nil)
          have hsz := HX.out.size
          refine step_append elSection _ (by rfl) _ _ (by rfl) ws.heap.size O2 Q d2 (n + 1) (xs.length - n) (c - n) (SectionK.row (xs.take n) ++ SectionK.row [x]) (SectionK.row (xs.drop n)) (by rfl) (by rfl) (by rw [Kd.row_len, List.length_drop]; rfl) HO2.out (dropS SectionK (HA.out.below (HB.out.trans (HX.out.mono HB.out.size))) HQ.out) section_one hsz (by omega) ?_
          intro O3 d3 y5 own1 hb
          have HO3 := Lib.hid own1
          have HF1 := Lib.hid hb
          have HBN := Lib.hid (HX.out.trans hb)
          clear own1 hb
          (first | refine hK.out _ _ ?_ (fun hHeld1 => ?_) | (go_wp2_with fail; refine hK.out _ _ ?_ (fun hHeld1 => ?_)))
          · ((try dsimp only); exact KS2 HBN.out)
          clear hK K hHeld
          have hHeld := hHeld1
          clear hHeld1
          try simp only [Act.put, List.setIfInBounds_toArray, List.set_cons_zero, List.set_cons_succ]
          replace HX := Lib.hid (HX.out.trans HF1.out)
          clear hsz HF1
          have HR3 := Lib.hid (show SectionK.row (xs.take n) ++ SectionK.row [x] ++ SectionK.row (xs.drop n) = SectionK.row (insS xs n x) by unfold insS; rw [Kd.row_append, show x :: xs.drop n = [x] ++ xs.drop n from rfl, Kd.row_append, List.append_assoc])
          rw [HR3.out] at HO3
          have hn3 := Lib.hid (show n + 1 + (xs.length - n) = (insS xs n x).length by rw [insS_len hnl]; omega)
          refine wpAnyH_ready (rs := [12]) (by kernel_rfl) (by simp) ?_
          refine AllReadyH.cons rfl (fun K hK => ?_) (AllReadyH.nil)
          go_simp
          (go_at_call 119; refine (l6Checked_any ws.heap.size O3 d3 (insS xs n x) _ _ hn3.out HO3.out (by rw [insS_len hnl]; omega) (insS_fit HF.out HFX.out) HX.out.size).mono ?_; rintro e y6 ⟨P, m, q, rfl, hm4, own, hb⟩; have HO4 := Lib.hid own; have HM4 := Lib.hid hm4; have HBN := Lib.hid (HX.out.trans (hb.mono HX.out.size)); clear own hb hm4)
          (first | refine hK.out _ _ ?_ (fun hHeld1 => ?_) | (go_wp2_with fail; refine hK.out _ _ ?_ (fun hHeld1 => ?_)))
          · ((try dsimp only); exact KS2 HBN.out)
          clear hK K hHeld
          have hHeld := hHeld1
          clear hHeld1
          try simp only [Act.put, List.setIfInBounds_toArray, List.set_cons_zero, List.set_cons_succ]
          replace HX := HBN
          refine take_yes (i := 13) (d := 32) (v := ?_) rfl rfl (by kernel_rfl) (by kernel_rfl) (by kernel_rfl) (fun _ _ _ h => h) (by kernel_rfl) ?_ hHeld ?_
          rotate_left
          · (intro w hSw; (try dsimp only at hSw); go_simp; try (with_reducible rfl))
          try simp only [Act.put, List.setIfInBounds_toArray, List.set_cons_zero, List.set_cons_succ]
          refine take_yes (i := 14) (d := 33) (v := ?_) rfl rfl (by kernel_rfl) (by kernel_rfl) (by kernel_rfl) (fun _ _ _ h => h) (by kernel_rfl) ?_ hHeld ?_
          rotate_left
          · (intro w hSw; (try dsimp only at hSw); go_simp; try (with_reducible rfl))
          try simp only [Act.put, List.setIfInBounds_toArray, List.set_cons_zero, List.set_cons_succ]
          refine take_yes (i := 15) (d := 6) (v := ?_) rfl rfl (by kernel_rfl) (by kernel_rfl) (by kernel_rfl) (fun _ _ _ h => h) (by kernel_rfl) ?_ hHeld ?_
          rotate_left
          · (intro w hSw; (try dsimp only at hSw); go_simp; try (with_reducible rfl))
          try simp only [Act.put, List.setIfInBounds_toArray, List.set_cons_zero, List.set_cons_succ]
          refine take_yes (i := 16) (d := 7) (v := ?_) rfl rfl (by kernel_rfl) (by kernel_rfl) (by kernel_rfl) (fun _ _ _ h => h) (by kernel_rfl) ?_ hHeld ?_
          rotate_left
          · (intro w hSw; (try dsimp only at hSw); go_simp; try (with_reducible rfl))
          try simp only [Act.put, List.setIfInBounds_toArray, List.set_cons_zero, List.set_cons_succ]
          refine wpAnyH_done (by kernel_rfl) ?_ _
          refine NoPanic.normal ?_
          clear hHeld x0 x1 kd1 kd2 kd3 kd4
          have hBs := HB.out.size
          go_wp2_with (go_ret2; exact tolb_own (ys := ckL (insS xs n x)) (own_mono HO4.out hBs) HD.out.1 HM4.out (by (have h1 := ckL_len (ys := insS xs n x); rw [insS_len hnl] at h1; omega)) (ckL_fit (insS_fit HF.out HFX.out)) HD.out.2 (HB.out.trans (HX.out.mono hBs)))
        · try go_simp
          (first | refine hK.out _ _ ?_ (fun hHeld1 => ?_) | (go_wp2_with fail; refine hK.out _ _ ?_ (fun hHeld1 => ?_)))
          · ((try dsimp only); exact KS2 (HX.out.trans ((below1 y1 _).mono HX.out.size)))
          clear hK K hHeld
          have hHeld := hHeld1
          clear hHeld1
          try simp only [Act.put, List.setIfInBounds_toArray, List.set_cons_zero, List.set_cons_succ]
          have hsz := HX.out.size
          have hb := below1 y1 (.cells #[.int .i64 x.d, .string x.t] 78)
          have HGE := Lib.hid (show y1.heap.size ≠ gz from fun e => absurd (HZ.out.lt gz rfl).2 (by omega))
          replace HZ := Lib.hid (own_keep HZ.out hb)
          have HXC := Lib.hid (show ((y1.alloc (.cells #[.int .i64 x.d, .string x.t] 78))).heap[y1.heap.size]? = some (.cells (SectionK.enc x).toArray 78 (0, 0)) from heap_alloc_new y1 _)
          replace hb := hb.mono hsz
          replace HX := Lib.hid (HX.out.trans hb)
          clear hb hsz
          generalize (y1.alloc (.cells #[.int .i64 x.d, .string x.t] 78)) = y2 at *
          generalize y1.heap.size = gx at *
          refine wpAnyH_ready (rs := [4]) (by kernel_rfl) (by simp) ?_
          refine AllReadyH.cons rfl (fun K hK => ?_) (AllReadyH.nil)
          have hsz := HX.out.size
          refine step_append_lit elSection _ (by rfl) _ _ (by rfl) ws.heap.size gz A n c (SectionK.row (xs.take n)) (by rfl) (by rfl) (by rw [Kd.row_len, List.length_take, Nat.min_eq_left (by omega)]; rfl) HZ.out (takeS SectionK (HA.out.below (HB.out.trans (HX.out.mono HB.out.size)))) section_one hsz (by omega) ?_
          intro O1 d1 y3 own1 hb hq1
          have HO1 := Lib.hid own1
          have HNE := Lib.hid (hq1 gx HGE.out (heap_lt_ HXC.out))
          have HF1 := Lib.hid hb
          have HBN := Lib.hid (HX.out.trans (hb.mono hsz))
          clear own1 hb hq1
          (first | refine hK.out _ _ ?_ (fun hHeld1 => ?_) | (go_wp2_with fail; refine hK.out _ _ ?_ (fun hHeld1 => ?_)))
          · ((try dsimp only); exact KS2 HBN.out)
          clear hK K hHeld
          have hHeld := hHeld1
          clear hHeld1
          try simp only [Act.put, List.setIfInBounds_toArray, List.set_cons_zero, List.set_cons_succ]
          replace HXC := Lib.hid (heap_below HXC.out HF1.out)
          replace HX := Lib.hid (HX.out.trans (HF1.out.mono hsz))
          clear hsz HF1
          refine wpAnyH_ready (rs := [7]) (by kernel_rfl) (by simp) ?_
          refine AllReadyH.cons rfl (fun K hK => ?_) (AllReadyH.nil)
          have hsz := HX.out.size
          refine step_append elSection _ (by rfl) _ _ (by rfl) ws.heap.size O1 (some ⟨gx, 0, none⟩) d1 n 1 1 (SectionK.row (xs.take n)) (SectionK.row [x]) (by rfl) (by rfl) rfl HO1.out (fun j u hj => ⟨_, rfl, by rw [add_head]; exact (cell_of_row _ gx j _ _ _ HXC.out).trans (by simpa [Kd.row] using hj)⟩) section_one hsz (by omega) ?_
          intro O2 d2 y4 own1 hb
          have HO2 := Lib.hid own1
          have HF1 := Lib.hid hb
          have HBN := Lib.hid (HX.out.trans hb)
          clear own1 hb
          (first | refine hK.out _ _ ?_ (fun hHeld1 => ?_) | (go_wp2_with fail; refine hK.out _ _ ?_ (fun hHeld1 => ?_)))
          · ((try dsimp only); exact KS2 HBN.out)
          clear hK K hHeld
          have hHeld := hHeld1
          clear hHeld1
          try simp only [Act.put, List.setIfInBounds_toArray, List.set_cons_zero, List.set_cons_succ]
          replace HX := Lib.hid (HX.out.trans HF1.out)
          clear hsz HF1
          refine wpAnyH_ready (rs := [11]) (by kernel_rfl) (by simp) ?_
          refine AllReadyH.cons rfl (fun K hK => ?_) (AllReadyH.nil)
          have hsz := HX.out.size
          refine step_append elSection _ (by rfl) _ _ (by rfl) ws.heap.size O2 Q d2 (n + 1) (xs.length - n) (c - n) (SectionK.row (xs.take n) ++ SectionK.row [x]) (SectionK.row (xs.drop n)) (by rfl) (by rfl) (by rw [Kd.row_len, List.length_drop]; rfl) HO2.out (dropS SectionK (HA.out.below (HB.out.trans (HX.out.mono HB.out.size))) HQ.out) section_one hsz (by omega) ?_
          intro O3 d3 y5 own1 hb
          have HO3 := Lib.hid own1
          have HF1 := Lib.hid hb
          have HBN := Lib.hid (HX.out.trans hb)
          clear own1 hb
          (first | refine hK.out _ _ ?_ (fun hHeld1 => ?_) | (go_wp2_with fail; refine hK.out _ _ ?_ (fun hHeld1 => ?_)))
          · ((try dsimp only); exact KS2 HBN.out)
          clear hK K hHeld
          have hHeld := hHeld1
          clear hHeld1
          try simp only [Act.put, List.setIfInBounds_toArray, List.set_cons_zero, List.set_cons_succ]
          replace HX := Lib.hid (HX.out.trans HF1.out)
          clear hsz HF1
          have HR3 := Lib.hid (show SectionK.row (xs.take n) ++ SectionK.row [x] ++ SectionK.row (xs.drop n) = SectionK.row (insS xs n x) by unfold insS; rw [Kd.row_append, show x :: xs.drop n = [x] ++ xs.drop n from rfl, Kd.row_append, List.append_assoc])
          rw [HR3.out] at HO3
          have hn3 := Lib.hid (show n + 1 + (xs.length - n) = (insS xs n x).length by rw [insS_len hnl]; omega)
          refine wpAnyH_ready (rs := [12]) (by kernel_rfl) (by simp) ?_
          refine AllReadyH.cons rfl (fun K hK => ?_) (AllReadyH.nil)
          go_simp
          (go_at_call 119; refine (l6Checked_any ws.heap.size O3 d3 (insS xs n x) _ _ hn3.out HO3.out (by rw [insS_len hnl]; omega) (insS_fit HF.out HFX.out) HX.out.size).mono ?_; rintro e y6 ⟨P, m, q, rfl, hm4, own, hb⟩; have HO4 := Lib.hid own; have HM4 := Lib.hid hm4; have HBN := Lib.hid (HX.out.trans (hb.mono HX.out.size)); clear own hb hm4)
          (first | refine hK.out _ _ ?_ (fun hHeld1 => ?_) | (go_wp2_with fail; refine hK.out _ _ ?_ (fun hHeld1 => ?_)))
          · ((try dsimp only); exact KS2 HBN.out)
          clear hK K hHeld
          have hHeld := hHeld1
          clear hHeld1
          try simp only [Act.put, List.setIfInBounds_toArray, List.set_cons_zero, List.set_cons_succ]
          replace HX := HBN
          refine take_yes (i := 13) (d := 32) (v := ?_) rfl rfl (by kernel_rfl) (by kernel_rfl) (by kernel_rfl) (fun _ _ _ h => h) (by kernel_rfl) ?_ hHeld ?_
          rotate_left
          · (intro w hSw; (try dsimp only at hSw); go_simp; try (with_reducible rfl))
          try simp only [Act.put, List.setIfInBounds_toArray, List.set_cons_zero, List.set_cons_succ]
          refine take_yes (i := 14) (d := 33) (v := ?_) rfl rfl (by kernel_rfl) (by kernel_rfl) (by kernel_rfl) (fun _ _ _ h => h) (by kernel_rfl) ?_ hHeld ?_
          rotate_left
          · (intro w hSw; (try dsimp only at hSw); go_simp; try (with_reducible rfl))
          try simp only [Act.put, List.setIfInBounds_toArray, List.set_cons_zero, List.set_cons_succ]
          refine take_yes (i := 15) (d := 6) (v := ?_) rfl rfl (by kernel_rfl) (by kernel_rfl) (by kernel_rfl) (fun _ _ _ h => h) (by kernel_rfl) ?_ hHeld ?_
          rotate_left
          · (intro w hSw; (try dsimp only at hSw); go_simp; try (with_reducible rfl))
          try simp only [Act.put, List.setIfInBounds_toArray, List.set_cons_zero, List.set_cons_succ]
          refine take_yes (i := 16) (d := 7) (v := ?_) rfl rfl (by kernel_rfl) (by kernel_rfl) (by kernel_rfl) (fun _ _ _ h => h) (by kernel_rfl) ?_ hHeld ?_
          rotate_left
          · (intro w hSw; (try dsimp only at hSw); go_simp; try (with_reducible rfl))
          try simp only [Act.put, List.setIfInBounds_toArray, List.set_cons_zero, List.set_cons_succ]
          refine wpAnyH_done (by kernel_rfl) ?_ _
          refine NoPanic.normal ?_
          clear hHeld x0 x1 kd1 kd2 kd3 kd4
          have hBs := HB.out.size
          go_wp2_with (go_ret2; exact tolb_own (ys := ckL (insS xs n x)) (own_mono HO4.out hBs) HD.out.1 HM4.out (by (have h1 := ckL_len (ys := insS xs n x); rw [insS_len hnl] at h1; omega)) (ckL_fit (insS_fit HF.out HFX.out)) HD.out.2 (HB.out.trans (HX.out.mono hBs)))
      · try go_simp
        (first | refine hK.out _ _ ?_ (fun hHeld1 => ?_) | (go_wp2_with fail; refine hK.out _ _ ?_ (fun hHeld1 => ?_)))
        · ((try dsimp only); exact KS2 (HX.out.trans ((below1 ud _).mono HX.out.size)))
        clear hK K hHeld
        have hHeld := hHeld1
        clear hHeld1
        try simp only [Act.put, List.setIfInBounds_toArray, List.set_cons_zero, List.set_cons_succ]
        have hsz := HX.out.size
        have hb := below1 ud (.cells #[.int .i64 x.d, .string x.t] 78)
        have HXC := Lib.hid (show ((ud.alloc (.cells #[.int .i64 x.d, .string x.t] 78))).heap[ud.heap.size]? = some (.cells (SectionK.enc x).toArray 78 (0, 0)) from heap_alloc_new ud _)
        replace hb := hb.mono hsz
        replace HX := Lib.hid (HX.out.trans hb)
        clear hb hsz
        generalize (ud.alloc (.cells #[.int .i64 x.d, .string x.t] 78)) = y1 at *
        generalize ud.heap.size = gx at *
        refine wpAnyH_ready (rs := [0]) (by kernel_rfl) (by simp) ?_
        refine AllReadyH.cons rfl (fun K hK => ?_) (AllReadyH.nil)
        try go_simp
        (first | refine hK.out _ _ ?_ (fun hHeld1 => ?_) | (go_wp2_with fail; refine hK.out _ _ ?_ (fun hHeld1 => ?_)))
        · ((try dsimp only); exact KS2 (HX.out.trans ((below1 y1 _).mono HX.out.size)))
        clear hK K hHeld
        have hHeld := hHeld1
        clear hHeld1
        try simp only [Act.put, List.setIfInBounds_toArray, List.set_cons_zero, List.set_cons_succ]
        have hsz := HX.out.size
        have hb := below1 y1 (.cells #[] 78)
        have HGE := Lib.hid (show gx ≠ y1.heap.size from Nat.ne_of_lt (heap_lt_ HXC.out))
        replace HXC := Lib.hid (heap_below HXC.out hb)
        have HZ := Lib.hid (own_nil_lit y1 ws.heap.size y1.heap.size 78 2 rfl hsz)
        replace hb := hb.mono hsz
        replace HX := Lib.hid (HX.out.trans hb)
        clear hb hsz
        generalize (y1.alloc (.cells #[] 78)) = y2 at *
        generalize y1.heap.size = gz at *
        refine wpAnyH_ready (rs := [4]) (by kernel_rfl) (by simp) ?_
        refine AllReadyH.cons rfl (fun K hK => ?_) (AllReadyH.nil)
        have hsz := HX.out.size
        refine step_append_lit elSection _ (by rfl) _ _ (by rfl) ws.heap.size gz A n c (SectionK.row (xs.take n)) (by rfl) (by rfl) (by rw [Kd.row_len, List.length_take, Nat.min_eq_left (by omega)]; rfl) HZ.out (takeS SectionK (HA.out.below (HB.out.trans (HX.out.mono HB.out.size)))) section_one hsz (by omega) ?_
        intro O1 d1 y3 own1 hb hq1
        have HO1 := Lib.hid own1
        have HNE := Lib.hid (hq1 gx HGE.out (heap_lt_ HXC.out))
        have HF1 := Lib.hid hb
        have HBN := Lib.hid (HX.out.trans (hb.mono hsz))
        clear own1 hb hq1
        (first | refine hK.out _ _ ?_ (fun hHeld1 => ?_) | (go_wp2_with fail; refine hK.out _ _ ?_ (fun hHeld1 => ?_)))
        · ((try dsimp only); exact KS2 HBN.out)
        clear hK K hHeld
        have hHeld := hHeld1
        clear hHeld1
        try simp only [Act.put, List.setIfInBounds_toArray, List.set_cons_zero, List.set_cons_succ]
        replace HXC := Lib.hid (heap_below HXC.out HF1.out)
        replace HX := Lib.hid (HX.out.trans (HF1.out.mono hsz))
        clear hsz HF1
        refine wpAnyH_ready (rs := [7]) (by kernel_rfl) (by simp) ?_
        refine AllReadyH.cons rfl (fun K hK => ?_) (AllReadyH.nil)
        have hsz := HX.out.size
        refine step_append elSection _ (by rfl) _ _ (by rfl) ws.heap.size O1 (some ⟨gx, 0, none⟩) d1 n 1 1 (SectionK.row (xs.take n)) (SectionK.row [x]) (by rfl) (by rfl) rfl HO1.out (fun j u hj => ⟨_, rfl, by rw [add_head]; exact (cell_of_row _ gx j _ _ _ HXC.out).trans (by simpa [Kd.row] using hj)⟩) section_one hsz (by omega) ?_
        intro O2 d2 y4 own1 hb
        have HO2 := Lib.hid own1
        have HF1 := Lib.hid hb
        have HBN := Lib.hid (HX.out.trans hb)
        clear own1 hb
        (first | refine hK.out _ _ ?_ (fun hHeld1 => ?_) | (go_wp2_with fail; refine hK.out _ _ ?_ (fun hHeld1 => ?_)))
        · ((try dsimp only); exact KS2 HBN.out)
        clear hK K hHeld
        have hHeld := hHeld1
        clear hHeld1
        try simp only [Act.put, List.setIfInBounds_toArray, List.set_cons_zero, List.set_cons_succ]
        replace HX := Lib.hid (HX.out.trans HF1.out)
        clear hsz HF1
        refine wpAnyH_ready (rs := [11]) (by kernel_rfl) (by simp) ?_
        refine AllReadyH.cons rfl (fun K hK => ?_) (AllReadyH.nil)
        have hsz := HX.out.size
        refine step_append elSection _ (by rfl) _ _ (by rfl) ws.heap.size O2 Q d2 (n + 1) (xs.length - n) (c - n) (SectionK.row (xs.take n) ++ SectionK.row [x]) (SectionK.row (xs.drop n)) (by rfl) (by rfl) (by rw [Kd.row_len, List.length_drop]; rfl) HO2.out (dropS SectionK (HA.out.below (HB.out.trans (HX.out.mono HB.out.size))) HQ.out) section_one hsz (by omega) ?_
        intro O3 d3 y5 own1 hb
        have HO3 := Lib.hid own1
        have HF1 := Lib.hid hb
        have HBN := Lib.hid (HX.out.trans hb)
        clear own1 hb
        (first | refine hK.out _ _ ?_ (fun hHeld1 => ?_) | (go_wp2_with fail; refine hK.out _ _ ?_ (fun hHeld1 => ?_)))
        · ((try dsimp only); exact KS2 HBN.out)
        clear hK K hHeld
        have hHeld := hHeld1
        clear hHeld1
        try simp only [Act.put, List.setIfInBounds_toArray, List.set_cons_zero, List.set_cons_succ]
        replace HX := Lib.hid (HX.out.trans HF1.out)
        clear hsz HF1
        have HR3 := Lib.hid (show SectionK.row (xs.take n) ++ SectionK.row [x] ++ SectionK.row (xs.drop n) = SectionK.row (insS xs n x) by unfold insS; rw [Kd.row_append, show x :: xs.drop n = [x] ++ xs.drop n from rfl, Kd.row_append, List.append_assoc])
        rw [HR3.out] at HO3
        have hn3 := Lib.hid (show n + 1 + (xs.length - n) = (insS xs n x).length by rw [insS_len hnl]; omega)
        refine wpAnyH_ready (rs := [12]) (by kernel_rfl) (by simp) ?_
        refine AllReadyH.cons rfl (fun K hK => ?_) (AllReadyH.nil)
        go_simp
        (go_at_call 119; refine (l6Checked_any ws.heap.size O3 d3 (insS xs n x) _ _ hn3.out HO3.out (by rw [insS_len hnl]; omega) (insS_fit HF.out HFX.out) HX.out.size).mono ?_; rintro e y6 ⟨P, m, q, rfl, hm4, own, hb⟩; have HO4 := Lib.hid own; have HM4 := Lib.hid hm4; have HBN := Lib.hid (HX.out.trans (hb.mono HX.out.size)); clear own hb hm4)
        (first | refine hK.out _ _ ?_ (fun hHeld1 => ?_) | (go_wp2_with fail; refine hK.out _ _ ?_ (fun hHeld1 => ?_)))
        · ((try dsimp only); exact KS2 HBN.out)
        clear hK K hHeld
        have hHeld := hHeld1
        clear hHeld1
        try simp only [Act.put, List.setIfInBounds_toArray, List.set_cons_zero, List.set_cons_succ]
        replace HX := HBN
        refine take_yes (i := 13) (d := 32) (v := ?_) rfl rfl (by kernel_rfl) (by kernel_rfl) (by kernel_rfl) (fun _ _ _ h => h) (by kernel_rfl) ?_ hHeld ?_
        rotate_left
        · (intro w hSw; (try dsimp only at hSw); go_simp; try (with_reducible rfl))
        try simp only [Act.put, List.setIfInBounds_toArray, List.set_cons_zero, List.set_cons_succ]
        refine take_yes (i := 14) (d := 33) (v := ?_) rfl rfl (by kernel_rfl) (by kernel_rfl) (by kernel_rfl) (fun _ _ _ h => h) (by kernel_rfl) ?_ hHeld ?_
        rotate_left
        · (intro w hSw; (try dsimp only at hSw); go_simp; try (with_reducible rfl))
        try simp only [Act.put, List.setIfInBounds_toArray, List.set_cons_zero, List.set_cons_succ]
        refine take_yes (i := 15) (d := 6) (v := ?_) rfl rfl (by kernel_rfl) (by kernel_rfl) (by kernel_rfl) (fun _ _ _ h => h) (by kernel_rfl) ?_ hHeld ?_
        rotate_left
        · (intro w hSw; (try dsimp only at hSw); go_simp; try (with_reducible rfl))
        try simp only [Act.put, List.setIfInBounds_toArray, List.set_cons_zero, List.set_cons_succ]
        refine take_yes (i := 16) (d := 7) (v := ?_) rfl rfl (by kernel_rfl) (by kernel_rfl) (by kernel_rfl) (fun _ _ _ h => h) (by kernel_rfl) ?_ hHeld ?_
        rotate_left
        · (intro w hSw; (try dsimp only at hSw); go_simp; try (with_reducible rfl))
        try simp only [Act.put, List.setIfInBounds_toArray, List.set_cons_zero, List.set_cons_succ]
        refine wpAnyH_done (by kernel_rfl) ?_ _
        refine NoPanic.normal ?_
        clear hHeld x0 x1 kd1 kd2 kd3 kd4
        have hBs := HB.out.size
        go_wp2_with (go_ret2; exact tolb_own (ys := ckL (insS xs n x)) (own_mono HO4.out hBs) HD.out.1 HM4.out (by (have h1 := ckL_len (ys := insS xs n x); rw [insS_len hnl] at h1; omega)) (ckL_fit (insS_fit HF.out HFX.out)) HD.out.2 (HB.out.trans (HX.out.mono hBs)))
    · rw [hi]
      have HNO := Lib.hid (as_no (x := x) (show (docB xs && inB i 0 (xs.length : Int)) = false by rw [hi]; simp))
      clear hv hi
      go_wp2_with (go_ret2; exact tolb_own (ys := []) (own_nil_lit _ _ _ _ _ rfl HB.out.size) HNO.out.1 rfl (by simp) (by simp) HNO.out.2 (HB.out.trans (((Below.refl _ _).alloc (Nat.le_refl _) _).mono HB.out.size)))
  · rw [hv]
    have HNO := Lib.hid (as_no (i := i) (x := x) (show (docB xs && inB i 0 (xs.length : Int)) = false by rw [hv]; rfl))
    clear hv
    go_wp2_with (go_ret2; exact tolb_own (ys := []) (own_nil_lit _ _ _ _ _ rfl HB.out.size) HNO.out.1 rfl (by simp) (by simp) HNO.out.2 (HB.out.trans (((Below.refl _ _).alloc (Nat.le_refl _) _).mono HB.out.size)))
end Go.Proofs.Ytifahgdalgjgfaa
