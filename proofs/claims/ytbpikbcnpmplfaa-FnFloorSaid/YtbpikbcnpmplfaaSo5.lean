/- SpeakingOrder, in the program and in the reference. Conditions: the ranges named. -/
import Derived.Test.YtbpikbcnpmplfaaSo4
namespace Go.Proofs.Ytbpikbcnpmplfaa
open Go.RowKit
set_option linter.unusedVariables false
set_option linter.unusedSimpArgs false
attribute [local go_sem ↓] Go.wp_at_zero Go.wp_at_succ
/-- k is the place of the first least one of the first i. -/
def FM (t : Int → Int) (xs : List Int) (i k : Nat) : Prop := k < i ∧ i ≤ xs.length ∧ (∀ j, j < k → t (xs.getD k 0) < t (xs.getD j 0)) ∧ ∀ j, j < i → t (xs.getD k 0) ≤ t (xs.getD j 0)
theorem FM.start {t : Int → Int} {xs : List Int} (h : 0 < xs.length) : FM t xs 1 0 := ⟨by omega, h, fun j hj => by omega, fun j hj => by (obtain rfl : j = 0 := (by omega)); exact Int.le_refl _⟩
theorem FM.yes {t : Int → Int} {xs : List Int} {i k : Nat} (h : FM t xs i k) (hi : i < xs.length) (hl : t (xs.getD i 0) < t (xs.getD k 0)) : FM t xs (i + 1) i := by
  obtain ⟨h1, h2, h3, h4⟩ := h
  refine ⟨by omega, by omega, fun j hj => by have := h4 j hj; omega, fun j hj => ?_⟩
  rcases Nat.lt_or_ge j i with h5 | h5
  · have := h4 j h5; omega
  · obtain rfl : j = i := by omega
    omega
theorem FM.no {t : Int → Int} {xs : List Int} {i k : Nat} (h : FM t xs i k) (hi : i < xs.length) (hl : ¬ t (xs.getD i 0) < t (xs.getD k 0)) : FM t xs (i + 1) k := by
  obtain ⟨h1, h2, h3, h4⟩ := h
  refine ⟨by omega, by omega, h3, fun j hj => ?_⟩
  rcases Nat.lt_or_ge j i with h5 | h5
  · exact h4 j h5
  · obtain rfl : j = i := by omega
    omega
theorem getD_at {xs : List Int} {i : Nat} (h : i < xs.length) : xs.getD i 0 = xs[i] := by rw [List.getD_eq_getElem?_getD, List.getElem?_eq_getElem h]; rfl
theorem FM.fin {t : Int → Int} {xs : List Int} {i k : Nat} (h : FM t xs i k) (hi : xs.length ≤ i) : FirstMin t xs k := by
  obtain ⟨h1, h2, h3, h4⟩ := h
  have hk : k < xs.length := by omega
  refine ⟨hk, fun j hj => ?_, fun j hj => ?_⟩
  · have h5 := h3 j hj
    rwa [getD_at hk, getD_at (show j < xs.length by omega)] at h5
  · have h5 := h4 j (by omega)
    rwa [getD_at hk, getD_at hj] at h5
/-! ### append, and what it leaves alone -/
def NotIn (O : Option Addr) (b : Nat) : Prop := ∀ a, O = some a → a.block ≠ b
theorem NotIn.own {O : Option Addr} {n d b : Nat} (h : NotIn O b) : (Value.slice O n d).ownBlock ≠ some b := by
  cases O with
  | none => simp [Value.ownBlock]
  | some a => simp only [Value.ownBlock, ne_eq, Option.some.injEq]; exact h a rfl
theorem append_sep {P : Program} {T E : TypeId} {size bytes : Nat} (el : ElT P T E size bytes) (w : World) (ty : TypeId) (base : Nat) (O : Option Addr) (ad : Addr) (oc n m c : Nat) (xs news : List Value) (hown : w.ownsRow base E size (.slice O n oc) n xs) (hl : news.length = m * size) (hx : Cells w (some ad) news) (h1 : ∀ u ∈ news, u.oneCell' = true) (hb : base ≤ w.heap.size) (h63 : n + m ≤ 1100000) :
    ∃ (O' : Option Addr) (d : Nat) (w' : World), (Builtin.append_ #[T, T] ty #[.slice O n oc, .slice (some ad) m c]).run P w = .ok (.slice O' (n + m) d) w' ∧ w'.ownsRow base E size (.slice O' (n + m) d) (n + m) (xs ++ news) ∧ Below base w w' ∧ w.heap.size ≤ w'.heap.size ∧ ∀ b, b < w.heap.size → NotIn O b → w'.heap[b]? = w.heap[b]? ∧ NotIn O' b := by
  obtain ⟨ht, ⟨i, z, hi, hz0, hz1, hz2, hzc⟩, hp, hs⟩ := el
  have hby : (n + m) * bytes ≤ 140737488355328 := by
    have h2 : (n + m) * bytes ≤ 1100000 * 1000 := Nat.mul_le_mul h63 hs
    omega
  obtain ⟨v', w', hrun, h2, h3, _, h5⟩ := run_append_own_at (P := P) w base T ty E i _ size bytes ht hi hz0 hz1 hz2 hzc hp _ n xs hown ad m c news hl (fun j u hj => by
    obtain ⟨ad', h, hc⟩ := hx j u hj
    cases h; exact hc) h1 (by unfold maxLen; omega) hby hb
  have hv : ∃ O' d, v' = .slice O' (n + m) d := by
    rcases h2.2 with ⟨h6, h7⟩ | ⟨g, cap, cur, h6, _⟩
    · exact ⟨none, 0, by rw [h6, h7]⟩
    · exact ⟨_, _, h6⟩
  obtain ⟨O', d, rfl⟩ := hv
  refine ⟨O', d, w', hrun, h2, below_of_grownBy h3 hb (fun g hg => (hown.lt g hg).1), h3.size, fun b hlt hno => ⟨h3.block b hlt hno.own.symm, fun a ha e => ?_⟩⟩
  subst ha
  have e1 : (Value.slice (some a) (n + m) d).ownBlock = some b := by simp [Value.ownBlock, e]
  rw [e1] at h5
  rcases h5 with h5 | h5
  · exact hno.own h5.symm
  · simp only [Option.some.injEq] at h5; omega
theorem list_append_sep {P : Program} {T E : TypeId} {size bytes : Nat} (el : ElT P T E size bytes) (w : World) {ops : Array Oper} {rest : List Oper} {o : Oper} {a : Act} {Q : Exit → Act → World → Prop} (hgd : o.guard = none) (s x : Operand)
    (ho : o.op = .call { callee := .builtin .append, args := #[s, x], argTypes := #[T, T] }) (base : Nat) (O : Option Addr) (ad : Addr) (oc n m c : Nat) (xs news : List Value) (hs : a.eval s = .slice O n oc) (hx : a.eval x = .slice (some ad) m c) (hl : news.length = m * size) (hown : w.ownsRow base E size (.slice O n oc) n xs) (hc : Cells w (some ad) news) (h1 : ∀ u ∈ news, u.oneCell' = true) (hb : base ≤ w.heap.size) (h63 : n + m ≤ 1100000)
    (h : ∀ (O' : Option Addr) (d : Nat) (w' : World), w'.ownsRow base E size (.slice O' (n + m) d) (n + m) (xs ++ news) → Below base w w' → w.heap.size ≤ w'.heap.size → (∀ b, b < w.heap.size → NotIn O b → w'.heap[b]? = w.heap[b]? ∧ NotIn O' b) → wpList P ops Q rest (a.put o.dst (.slice O' (n + m) d)) w') :
    wpList P ops Q (o :: rest) a w := by
  obtain ⟨O', d, w', hrun, g1, g2, g3, g4⟩ := append_sep el w o.type base O ad oc n m c xs news hown hl hc h1 hb h63
  exact Lib.wpList_append_run w hgd s x _ _ ho _ _ hs hx _ _ hrun (h O' d w' g1 g2 g3 g4)
theorem BoxF.block {w w' : World} {b : Nat} {vs : List Value} (h : BoxF w b vs) (hb : w'.heap[b]? = w.heap[b]?) : BoxF w' b vs :=
  ⟨fun i v hi => (World.cell?_of_block (a := ⟨b, i, none⟩) hb).trans (h.1 i v hi), fun i => (World.frozen?_of_block (a := ⟨b, i, none⟩) hb).trans (h.2 i)⟩
theorem Cells.block {w w' : World} {A : Option Addr} {xs : List Value} (h : Cells w A xs) (hb : ∀ a, A = some a → a.block < w.heap.size → w'.heap[a.block]? = w.heap[a.block]?) : Cells w' A xs := fun i u hi => by
  obtain ⟨ad, hA, hc⟩ := h i u hi
  have hl := World.block_lt_of_cell? _ _ hc
  rw [block_add] at hl
  exact ⟨ad, hA, (World.cell?_of_block (a := ad.add i) (by rw [block_add]; exact hb ad hA hl)).trans hc⟩
theorem own_other {w : World} {b k base n d E size : Nat} {O : Option Addr} {xs : List Value} (h : w.ownsRow base E size (.slice O n d) n xs) (hq : NotIn O b) (v : Value) : (w.setCell ⟨b, k, none⟩ v).ownsRow base E size (.slice O n d) n xs := ownsRow_setCell_other h hq.own v
/-- What holds at the head of each round of the reference's loop. -/
structure SoI (w0 w : World) (q : Nat) (f : Flr) (O : Option Addr) (oc : Nat) (don rest : List Int) (A1 : Option Addr) (c1 : Nat) (D1 : Option Addr) (d1 : Nat) : Prop where
  own : w.ownsRow w0.heap.size 3 1 (.slice O don.length oc) don.length (IntK.row don)
  box : BoxF w q [.int .i64 f.t, .int .i64 f.s, .int .i64 f.sp, .slice A1 rest.length c1, .slice D1 f.sh.length d1]
  lo : w0.heap.size ≤ q
  hi : q < w.heap.size
  ra : Cells w A1 (IntK.row rest)
  rd : Cells w D1 (ShareK.row f.sh)
  cap : rest.length ≤ c1
  len : don.length + rest.length = f.wt.length
  few : f.wt.length ≤ 10
  sq : NotIn O q
  sa : ∀ a, A1 = some a → 0 < rest.length → NotIn O a.block ∧ a.block ≠ q
  sd : ∀ a, D1 = some a → 0 < f.sh.length → NotIn O a.block ∧ a.block ≠ q
  bel : Below w0.heap.size w0 w
  res : isortT (trn f) f.wt = don ++ isortT (trn f) rest
theorem SoI.call {w0 w w' : World} {q : Nat} {f : Flr} {O : Option Addr} {oc : Nat} {don rest : List Int} {A1 : Option Addr} {c1 : Nat} {D1 : Option Addr} {d1 : Nat} (h : SoI w0 w q f O oc don rest A1 c1 D1 d1) (hb : Below w.heap.size w w') : SoI w0 w' q f O oc don rest A1 c1 D1 d1 :=
  { h with own := own_keep h.own hb, box := h.box.below hb h.hi, hi := Nat.lt_of_lt_of_le h.hi hb.size, ra := h.ra.below hb, rd := h.rd.below hb, bel := h.bel.trans (hb.mono h.bel.size) }
/-- The number at place k is put at the end of the list, then taken out of those that wait. -/
theorem SoI.next {w0 w w2 w3 w4 : World} {q k : Nat} {f : Flr} {O O2 A2 : Option Addr} {oc oc2 c2 : Nat} {don rest : List Int} {A1 : Option Addr} {c1 : Nat} {D1 : Option Addr} {d1 : Nat} {x : Int} (h : SoI w0 w q f O oc don rest A1 c1 D1 d1) (hm : FirstMin (trn f) rest k) (hx : rest.getD k 0 = x)
    (ho : w2.ownsRow w0.heap.size 3 1 (.slice O2 (don.length + 1) oc2) (don.length + 1) (IntK.row don ++ IntK.row [x])) (hb : Below w0.heap.size w w2) (hs : w.heap.size ≤ w2.heap.size) (hk : ∀ b, b < w.heap.size → NotIn O b → w2.heap[b]? = w.heap[b]? ∧ NotIn O2 b)
    (hb3 : Below w2.heap.size w2 w3) (ha : w3.ownsRow w2.heap.size 3 1 (.slice A2 (cutAt k rest).length c2) (cutAt k rest).length (IntK.row (cutAt k rest))) (e4 : w4 = w3.setCell ⟨q, 3, none⟩ (.slice A2 (cutAt k rest).length c2)) :
    SoI w0 w4 q f O2 oc2 (don ++ [x]) (cutAt k rest) A2 c2 D1 d1 := by
  subst e4
  have hkl : k < rest.length := hm.1
  have hcl := cutAt_len hkl
  have hq2 := (hk q h.hi h.sq)
  have hO2 : Under w2.heap.size O2 := Under.own ho
  have hbx : BoxF w3 q [.int .i64 f.t, .int .i64 f.s, .int .i64 f.sp, .slice A1 rest.length c1, .slice D1 f.sh.length d1] := (h.box.block hq2.1).below hb3 (Nat.lt_of_lt_of_le h.hi hs)
  have hA2 : ∀ a, A2 = some a → w2.heap.size ≤ a.block := fun a e => by subst e; exact (ha.lt a.block rfl).1
  have hll : (don ++ [x]).length = don.length + 1 := by simp
  have hqs : q < w3.heap.size := Nat.lt_of_lt_of_le (Nat.lt_of_lt_of_le h.hi hs) hb3.size
  have ho3 : w3.ownsRow w0.heap.size 3 1 (.slice O2 (don.length + 1) oc2) (don.length + 1) (IntK.row (don ++ [x])) := by rw [IntK.row_append]; exact own_keep ho hb3
  refine ⟨by rw [hll]; exact own_other ho3 hq2.2 _, hbx.set (k := 3) (by simp) _, h.lo, by simpa using hqs, ?_, ?_, own_cap ha, by rw [hll]; have := h.len; omega, h.few, hq2.2, fun a e h0 => ⟨fun a' e' => ?_, ?_⟩, fun a e h0 => ?_, ?_, ?_⟩
  · refine (Cells.of_own ha).block fun a e hl => Below.heap_setCell _ _ _ _ ?_
    have := hA2 a e
    have := h.hi
    show a.block ≠ q
    omega
  · have hd2 : Cells w2 D1 (ShareK.row f.sh) := by
      rcases Nat.eq_zero_or_pos f.sh.length with h0 | h0
      · rw [List.eq_nil_of_length_eq_zero h0]; exact Cells.nil_
      · exact h.rd.block fun a e hl => (hk a.block hl (h.sd a e h0).1).1
    rcases Nat.eq_zero_or_pos f.sh.length with h0 | h0
    · rw [List.eq_nil_of_length_eq_zero h0]; exact Cells.nil_
    · exact (hd2.below hb3).block fun a e hl => Below.heap_setCell _ _ _ _ (h.sd a e h0).2
  · have := hA2 a e
    have := hO2 a' e'
    omega
  · have := hA2 a e
    have := h.hi
    omega
  · refine ⟨?_, (h.sd a e h0).2⟩
    have hl : a.block < w.heap.size := by
      obtain ⟨ad, e1, hc⟩ := share_at h.rd h0
      rw [e] at e1
      obtain rfl := Option.some.inj e1
      have := World.block_lt_of_cell? _ _ hc.1
      rwa [block_add] at this
    exact (hk a.block hl (h.sd a e h0).1).2
  · exact ((h.bel.trans hb).trans (hb3.mono (Nat.le_trans h.bel.size hs))).setCell h.lo _
  · rw [h.res, isortT_cut hm, ← hx, getD_at hkl, List.append_assoc]; rfl
/-- How long a slice is. -/
def lenV : Value → Nat
  | .slice _ n _ => n
  | _ => 0
set_option maxHeartbeats 4000000 in
set_option maxRecDepth 100000 in
theorem l8Next_any (A D : Option Addr) (c d : Nat) (f : Flr) (w : World) (ha : Cells w A (IntK.row f.wt)) (h0 : 0 < f.wt.length) (hm : f.wt.length ≤ 1000000) (hd : Cells w D (ShareK.row f.sh)) (hn : f.sh.length ≤ 1048576) :
    Calls Try.prog 79 #[.agg #[.int .i64 f.t, .int .i64 f.s, .int .i64 f.sp, .slice A f.wt.length c, .slice D f.sh.length d]] w fun e w' => (∃ k : Nat, e = .returned (.int .i64 k) ∧ FirstMin (trn f) f.wt k) ∧ Below w.heap.size w w' := by
  have HA := Lib.hid (ha.alloc_ (.cells #[.int .i64 f.t, .int .i64 f.s, .int .i64 f.sp, .slice A f.wt.length c, .slice D f.sh.length d] 29))
  have HD := Lib.hid (hd.alloc_ (.cells #[.int .i64 f.t, .int .i64 f.s, .int .i64 f.sp, .slice A f.wt.length c, .slice D f.sh.length d] 29))
  have HQ := Lib.hid (show FBox (w.alloc (.cells #[.int .i64 f.t, .int .i64 f.s, .int .i64 f.sp, .slice A f.wt.length c, .slice D f.sh.length d] 29)) w.heap.size A D c d f from BoxF.new5 w (.int .i64 f.t) (.int .i64 f.s) (.int .i64 f.sp) (.slice A f.wt.length c) (.slice D f.sh.length d) 29 w.heap.size rfl)
  have HB := Lib.hid (below1 w (.cells #[.int .i64 f.t, .int .i64 f.s, .int .i64 f.sp, .slice A f.wt.length c, .slice D f.sh.length d] 29))
  have hsz : w.heap.size < (w.alloc (.cells #[.int .i64 f.t, .int .i64 f.s, .int .i64 f.sp, .slice A f.wt.length c, .slice D f.sh.length d] 29)).heap.size := by simp
  have hfl := fld_t
  clear ha hd
  go_enter Try.func79, Try.ntmps79
  go_wp2_with fail
  generalize (w.alloc (.cells #[.int .i64 f.t, .int .i64 f.s, .int .i64 f.sp, .slice A f.wt.length c, .slice D f.sh.length d] 29)) = W at *
  go_loopw [3, 4] (fun vb vi wr => ∃ k i : Nat, vb = .int .i64 k ∧ vi = .int .i64 i ∧ Hid (FM (trn f) f.wt i k) ∧ Hid (Below W.heap.size W wr)) (fun vb vi _ => f.wt.length - (intOf vi).toNat)
  case atStart => exact ⟨0, 1, rfl, rfl, Lib.hid (FM.start h0), Lib.hid (Below.refl _ _)⟩
  case round =>
    obtain ⟨k, i, rfl, rfl, HF, HBr⟩ := hrel
    have hk1 := HF.out.1
    have hi1 := HF.out.2.1
    have hqr := Nat.lt_of_lt_of_le hsz HBr.out.size
    have HQr := Lib.hid (HQ.out.below HBr.out hsz)
    have z3 := HQr.out.1 3 _ rfl
    by_cases hlt : i < f.wt.length
    · have i1 : (i : Int) < (f.wt.length : Int) := by omega
      have i2 : (k : Int) < (f.wt.length : Int) := by omega
      have e0 : ∀ w', Below wr.heap.size wr w' → w'.cell? ⟨w.heap.size, 0, none⟩ = some (.int .i64 f.t) := fun w' h => (HQr.out.below h hqr).1 0 _ rfl
      have e1 : ∀ w', Below wr.heap.size wr w' → w'.cell? ⟨w.heap.size, 1, none⟩ = some (.int .i64 f.s) := fun w' h => (HQr.out.below h hqr).1 1 _ rfl
      have e2 : ∀ w', Below wr.heap.size wr w' → w'.cell? ⟨w.heap.size, 2, none⟩ = some (.int .i64 f.sp) := fun w' h => (HQr.out.below h hqr).1 2 _ rfl
      have e3 : ∀ w', Below wr.heap.size wr w' → w'.cell? ⟨w.heap.size, 3, none⟩ = some (.slice A f.wt.length c) := fun w' h => (HQr.out.below h hqr).1 3 _ rfl
      have e4 : ∀ w', Below wr.heap.size wr w' → w'.cell? ⟨w.heap.size, 4, none⟩ = some (.slice D f.sh.length d) := fun w' h => (HQr.out.below h hqr).1 4 _ rfl
      obtain ⟨a, hAa, hci⟩ := int_at (HA.out.below HBr.out) hlt
      obtain ⟨a', hAa', hck⟩ := int_at (HA.out.below HBr.out) (show k < f.wt.length by omega)
      rw [← getD_at hlt] at hci
      rw [← getD_at (show k < f.wt.length by omega)] at hck
      subst hAa
      obtain rfl := Option.some.inj hAa'
      have HY := Lib.hid (fun (hyes : trn f (f.wt.getD i 0) < trn f (f.wt.getD k 0)) => HF.out.yes hlt hyes)
      have HN := Lib.hid (fun (hno : ¬ trn f (f.wt.getD i 0) < trn f (f.wt.getD k 0)) => HF.out.no hlt hno)
      obtain ⟨x, hx⟩ : ∃ x, Hid (f.wt.getD i 0 = x) := ⟨_, Lib.hid rfl⟩
      obtain ⟨y, hy⟩ : ∃ y, Hid (f.wt.getD k 0 = y) := ⟨_, Lib.hid rfl⟩
      rw [hx.out] at hci HY HN
      rw [hy.out] at hck HY HN
      have hcX : ∀ w', Below wr.heap.size wr w' → w'.cell? (a.add i) = some (.int .i64 x) := fun w' h => (h.cell (World.block_lt_of_cell? _ _ hci)).trans hci
      have hcY : ∀ w', Below wr.heap.size wr w' → w'.cell? (a.add k) = some (.int .i64 y) := fun w' h => (h.cell (World.block_lt_of_cell? _ _ hck)).trans hck
      clear hci hck HF hx hy
      cases hcv : decide ((shOf x f.sh).t < (shOf y f.sh).t) with
      | true =>
        have HY := Lib.hid (HY.out (of_decide_eq_true hcv))
        clear HN
        go_wp2_with fail
        refine wp_region_noPanic ?_
        refine wp_region_held_drew (S := (fun w' => Below wr.heap.size wr w')) (by kernel_rfl) ?_ (fun hHeld => ?_)
        · ((try dsimp only); exact (Below.refl _ _).drew)
        refine take_yes (i := 0) (d := 12) (v := (.agg #[.int .i64 f.t, .int .i64 f.s, .int .i64 f.sp, .slice (some a) f.wt.length c, .slice D f.sh.length d])) rfl rfl (by kernel_rfl) (by kernel_rfl) (by kernel_rfl) (fun _ _ _ h => h) (by kernel_rfl) ?_ hHeld ?_
        · (intro w hSw; (try dsimp only at hSw); have c0 := e0 w hSw; have c1 := e1 w hSw; have c2 := e2 w hSw; have c3 := e3 w hSw; have c4 := e4 w hSw; go_simp; try (with_reducible rfl))
        try simp only [Act.put, List.setIfInBounds_toArray, List.set_cons_zero, List.set_cons_succ]
        refine take_yes (i := 1) (d := 13) (v := ?_) rfl rfl (by kernel_rfl) (by kernel_rfl) (by kernel_rfl) (fun _ _ _ h => h) (by kernel_rfl) ?_ hHeld ?_
        rotate_left
        · (intro w hSw; (try dsimp only at hSw); go_simp; try (with_reducible rfl))
        try simp only [Act.put, List.setIfInBounds_toArray, List.set_cons_zero, List.set_cons_succ]
        refine take_yes (i := 2) (d := 14) (v := (.slice (some a) f.wt.length c)) rfl rfl (by kernel_rfl) (by kernel_rfl) (by kernel_rfl) (fun _ _ _ h => h) (by kernel_rfl) ?_ hHeld ?_
        · (intro w hSw; (try dsimp only at hSw); have c3 := e3 w hSw; go_simp; try (with_reducible rfl))
        try simp only [Act.put, List.setIfInBounds_toArray, List.set_cons_zero, List.set_cons_succ]
        refine take_yes (i := 3) (d := 15) (v := ?_) rfl rfl (by kernel_rfl) (by kernel_rfl) (by kernel_rfl) (fun _ _ _ h => h) (by kernel_rfl) ?_ hHeld ?_
        rotate_left
        · (intro w hSw; (try dsimp only at hSw); go_simp; try (with_reducible rfl))
        try simp only [Act.put, List.setIfInBounds_toArray, List.set_cons_zero, List.set_cons_succ]
        refine take_yes (i := 4) (d := 16) (v := ?_) rfl rfl (by kernel_rfl) (by kernel_rfl) (by kernel_rfl) (fun _ _ _ h => h) (by kernel_rfl) ?_ hHeld ?_
        rotate_left
        · (intro w hSw; (try dsimp only at hSw); go_simp; try (with_reducible rfl))
        try simp only [Act.put, List.setIfInBounds_toArray, List.set_cons_zero, List.set_cons_succ]
        refine take_yes (i := 5) (d := 17) (v := (.int .i64 x)) rfl rfl (by kernel_rfl) (by kernel_rfl) (by kernel_rfl) (fun _ _ _ h => h) (by kernel_rfl) ?_ hHeld ?_
        · (intro w hSw; (try dsimp only at hSw); have k1 := hcX w hSw; go_simp; try (with_reducible rfl))
        try simp only [Act.put, List.setIfInBounds_toArray, List.set_cons_zero, List.set_cons_succ]
        refine take_yes (i := 8) (d := 20) (v := (.agg #[.int .i64 f.t, .int .i64 f.s, .int .i64 f.sp, .slice (some a) f.wt.length c, .slice D f.sh.length d])) rfl rfl (by kernel_rfl) (by kernel_rfl) (by kernel_rfl) (fun _ _ _ h => h) (by kernel_rfl) ?_ hHeld ?_
        · (intro w hSw; (try dsimp only at hSw); have c0 := e0 w hSw; have c1 := e1 w hSw; have c2 := e2 w hSw; have c3 := e3 w hSw; have c4 := e4 w hSw; go_simp; try (with_reducible rfl))
        try simp only [Act.put, List.setIfInBounds_toArray, List.set_cons_zero, List.set_cons_succ]
        refine take_yes (i := 9) (d := 21) (v := ?_) rfl rfl (by kernel_rfl) (by kernel_rfl) (by kernel_rfl) (fun _ _ _ h => h) (by kernel_rfl) ?_ hHeld ?_
        rotate_left
        · (intro w hSw; (try dsimp only at hSw); go_simp; try (with_reducible rfl))
        try simp only [Act.put, List.setIfInBounds_toArray, List.set_cons_zero, List.set_cons_succ]
        refine take_yes (i := 10) (d := 22) (v := (.slice (some a) f.wt.length c)) rfl rfl (by kernel_rfl) (by kernel_rfl) (by kernel_rfl) (fun _ _ _ h => h) (by kernel_rfl) ?_ hHeld ?_
        · (intro w hSw; (try dsimp only at hSw); have c3 := e3 w hSw; go_simp; try (with_reducible rfl))
        try simp only [Act.put, List.setIfInBounds_toArray, List.set_cons_zero, List.set_cons_succ]
        refine take_yes (i := 11) (d := 23) (v := ?_) rfl rfl (by kernel_rfl) (by kernel_rfl) (by kernel_rfl) (fun _ _ _ h => h) (by kernel_rfl) ?_ hHeld ?_
        rotate_left
        · (intro w hSw; (try dsimp only at hSw); go_simp; try (with_reducible rfl))
        try simp only [Act.put, List.setIfInBounds_toArray, List.set_cons_zero, List.set_cons_succ]
        refine take_yes (i := 12) (d := 24) (v := ?_) rfl rfl (by kernel_rfl) (by kernel_rfl) (by kernel_rfl) (fun _ _ _ h => h) (by kernel_rfl) ?_ hHeld ?_
        rotate_left
        · (intro w hSw; (try dsimp only at hSw); go_simp; try (with_reducible rfl))
        try simp only [Act.put, List.setIfInBounds_toArray, List.set_cons_zero, List.set_cons_succ]
        refine take_yes (i := 13) (d := 25) (v := (.int .i64 y)) rfl rfl (by kernel_rfl) (by kernel_rfl) (by kernel_rfl) (fun _ _ _ h => h) (by kernel_rfl) ?_ hHeld ?_
        · (intro w hSw; (try dsimp only at hSw); have k1 := hcY w hSw; go_simp; try (with_reducible rfl))
        try simp only [Act.put, List.setIfInBounds_toArray, List.set_cons_zero, List.set_cons_succ]
        refine wpAnyH_ready (rs := [6]) (by kernel_rfl) (by simp) ?_
        refine AllReadyH.cons rfl (fun K hK => ?_) AllReadyH.nil
        go_simp
        refine (l8Share_any (some a) D c d f x _ ((HD.out.below HBr.out).below hHeld) hn).mono ?_
        rintro e w1 ⟨rfl, hb⟩
        have HBk := Lib.hid (after hHeld hb)
        clear hb
        (first | refine hK.out _ _ ?_ (fun hHeld1 => ?_) | (go_wp2_with fail; refine hK.out _ _ ?_ (fun hHeld1 => ?_)))
        · ((try dsimp only); exact HBk.out)
        clear hK K hHeld
        have hHeld := hHeld1
        clear hHeld1
        try simp only [Act.put, List.setIfInBounds_toArray, List.set_cons_zero, List.set_cons_succ]
        clear HBk
        refine take_yes (i := 7) (d := 19) (v := ?_) rfl rfl (by kernel_rfl) (by kernel_rfl) (by kernel_rfl) (fun _ _ _ h => h) (by kernel_rfl) ?_ hHeld ?_
        rotate_left
        · (intro w hSw; (try dsimp only at hSw); go_simp; try (with_reducible rfl))
        try simp only [Act.put, List.setIfInBounds_toArray, List.set_cons_zero, List.set_cons_succ]
        refine wpAnyH_ready (rs := [14]) (by kernel_rfl) (by simp) ?_
        refine AllReadyH.cons rfl (fun K hK => ?_) AllReadyH.nil
        go_simp
        refine (l8Share_any (some a) D c d f y _ ((HD.out.below HBr.out).below hHeld) hn).mono ?_
        rintro e w1 ⟨rfl, hb⟩
        have HBk := Lib.hid (after hHeld hb)
        clear hb
        (first | refine hK.out _ _ ?_ (fun hHeld1 => ?_) | (go_wp2_with fail; refine hK.out _ _ ?_ (fun hHeld1 => ?_)))
        · ((try dsimp only); exact HBk.out)
        clear hK K hHeld
        have hHeld := hHeld1
        clear hHeld1
        try simp only [Act.put, List.setIfInBounds_toArray, List.set_cons_zero, List.set_cons_succ]
        clear HBk
        refine take_yes (i := 15) (d := 27) (v := ?_) rfl rfl (by kernel_rfl) (by kernel_rfl) (by kernel_rfl) (fun _ _ _ h => h) (by kernel_rfl) ?_ hHeld ?_
        rotate_left
        · (intro w hSw; (try dsimp only at hSw); go_simp; try (with_reducible rfl))
        try simp only [Act.put, List.setIfInBounds_toArray, List.set_cons_zero, List.set_cons_succ]
        refine take_yes (i := 16) (d := 28) (v := (.bool true)) rfl rfl (by kernel_rfl) (by kernel_rfl) (by kernel_rfl) (fun _ _ _ h => h) (by kernel_rfl) ?_ hHeld ?_
        · (intro w hSw; (try dsimp only at hSw); go_simp; try (with_reducible rfl))
        try simp only [Act.put, List.setIfInBounds_toArray, List.set_cons_zero, List.set_cons_succ]
        refine wpAnyH_done (by kernel_rfl) ?_ _
        refine NoPanic.normal ?_
        have HB2 := Lib.hid (HBr.out.trans (hHeld.mono HBr.out.size))
        clear hHeld e0 e1 e2 e3 e4 hcX hcY z3
        go_wp2
        go_roundw
        case rel => exact ⟨i, i + 1, rfl, by go_num, HY, HB2⟩
        case measure => simp [intOf]; try omega
      | false =>
        have HN2 := Lib.hid (HN.out (of_decide_eq_false hcv))
        clear HY HN
        go_wp2_with fail
        refine wp_region_noPanic ?_
        refine wp_region_held_drew (S := (fun w' => Below wr.heap.size wr w')) (by kernel_rfl) ?_ (fun hHeld => ?_)
        · ((try dsimp only); exact (Below.refl _ _).drew)
        refine take_yes (i := 0) (d := 12) (v := (.agg #[.int .i64 f.t, .int .i64 f.s, .int .i64 f.sp, .slice (some a) f.wt.length c, .slice D f.sh.length d])) rfl rfl (by kernel_rfl) (by kernel_rfl) (by kernel_rfl) (fun _ _ _ h => h) (by kernel_rfl) ?_ hHeld ?_
        · (intro w hSw; (try dsimp only at hSw); have c0 := e0 w hSw; have c1 := e1 w hSw; have c2 := e2 w hSw; have c3 := e3 w hSw; have c4 := e4 w hSw; go_simp; try (with_reducible rfl))
        try simp only [Act.put, List.setIfInBounds_toArray, List.set_cons_zero, List.set_cons_succ]
        refine take_yes (i := 1) (d := 13) (v := ?_) rfl rfl (by kernel_rfl) (by kernel_rfl) (by kernel_rfl) (fun _ _ _ h => h) (by kernel_rfl) ?_ hHeld ?_
        rotate_left
        · (intro w hSw; (try dsimp only at hSw); go_simp; try (with_reducible rfl))
        try simp only [Act.put, List.setIfInBounds_toArray, List.set_cons_zero, List.set_cons_succ]
        refine take_yes (i := 2) (d := 14) (v := (.slice (some a) f.wt.length c)) rfl rfl (by kernel_rfl) (by kernel_rfl) (by kernel_rfl) (fun _ _ _ h => h) (by kernel_rfl) ?_ hHeld ?_
        · (intro w hSw; (try dsimp only at hSw); have c3 := e3 w hSw; go_simp; try (with_reducible rfl))
        try simp only [Act.put, List.setIfInBounds_toArray, List.set_cons_zero, List.set_cons_succ]
        refine take_yes (i := 3) (d := 15) (v := ?_) rfl rfl (by kernel_rfl) (by kernel_rfl) (by kernel_rfl) (fun _ _ _ h => h) (by kernel_rfl) ?_ hHeld ?_
        rotate_left
        · (intro w hSw; (try dsimp only at hSw); go_simp; try (with_reducible rfl))
        try simp only [Act.put, List.setIfInBounds_toArray, List.set_cons_zero, List.set_cons_succ]
        refine take_yes (i := 4) (d := 16) (v := ?_) rfl rfl (by kernel_rfl) (by kernel_rfl) (by kernel_rfl) (fun _ _ _ h => h) (by kernel_rfl) ?_ hHeld ?_
        rotate_left
        · (intro w hSw; (try dsimp only at hSw); go_simp; try (with_reducible rfl))
        try simp only [Act.put, List.setIfInBounds_toArray, List.set_cons_zero, List.set_cons_succ]
        refine take_yes (i := 5) (d := 17) (v := (.int .i64 x)) rfl rfl (by kernel_rfl) (by kernel_rfl) (by kernel_rfl) (fun _ _ _ h => h) (by kernel_rfl) ?_ hHeld ?_
        · (intro w hSw; (try dsimp only at hSw); have k1 := hcX w hSw; go_simp; try (with_reducible rfl))
        try simp only [Act.put, List.setIfInBounds_toArray, List.set_cons_zero, List.set_cons_succ]
        refine take_yes (i := 8) (d := 20) (v := (.agg #[.int .i64 f.t, .int .i64 f.s, .int .i64 f.sp, .slice (some a) f.wt.length c, .slice D f.sh.length d])) rfl rfl (by kernel_rfl) (by kernel_rfl) (by kernel_rfl) (fun _ _ _ h => h) (by kernel_rfl) ?_ hHeld ?_
        · (intro w hSw; (try dsimp only at hSw); have c0 := e0 w hSw; have c1 := e1 w hSw; have c2 := e2 w hSw; have c3 := e3 w hSw; have c4 := e4 w hSw; go_simp; try (with_reducible rfl))
        try simp only [Act.put, List.setIfInBounds_toArray, List.set_cons_zero, List.set_cons_succ]
        refine take_yes (i := 9) (d := 21) (v := ?_) rfl rfl (by kernel_rfl) (by kernel_rfl) (by kernel_rfl) (fun _ _ _ h => h) (by kernel_rfl) ?_ hHeld ?_
        rotate_left
        · (intro w hSw; (try dsimp only at hSw); go_simp; try (with_reducible rfl))
        try simp only [Act.put, List.setIfInBounds_toArray, List.set_cons_zero, List.set_cons_succ]
        refine take_yes (i := 10) (d := 22) (v := (.slice (some a) f.wt.length c)) rfl rfl (by kernel_rfl) (by kernel_rfl) (by kernel_rfl) (fun _ _ _ h => h) (by kernel_rfl) ?_ hHeld ?_
        · (intro w hSw; (try dsimp only at hSw); have c3 := e3 w hSw; go_simp; try (with_reducible rfl))
        try simp only [Act.put, List.setIfInBounds_toArray, List.set_cons_zero, List.set_cons_succ]
        refine take_yes (i := 11) (d := 23) (v := ?_) rfl rfl (by kernel_rfl) (by kernel_rfl) (by kernel_rfl) (fun _ _ _ h => h) (by kernel_rfl) ?_ hHeld ?_
        rotate_left
        · (intro w hSw; (try dsimp only at hSw); go_simp; try (with_reducible rfl))
        try simp only [Act.put, List.setIfInBounds_toArray, List.set_cons_zero, List.set_cons_succ]
        refine take_yes (i := 12) (d := 24) (v := ?_) rfl rfl (by kernel_rfl) (by kernel_rfl) (by kernel_rfl) (fun _ _ _ h => h) (by kernel_rfl) ?_ hHeld ?_
        rotate_left
        · (intro w hSw; (try dsimp only at hSw); go_simp; try (with_reducible rfl))
        try simp only [Act.put, List.setIfInBounds_toArray, List.set_cons_zero, List.set_cons_succ]
        refine take_yes (i := 13) (d := 25) (v := (.int .i64 y)) rfl rfl (by kernel_rfl) (by kernel_rfl) (by kernel_rfl) (fun _ _ _ h => h) (by kernel_rfl) ?_ hHeld ?_
        · (intro w hSw; (try dsimp only at hSw); have k1 := hcY w hSw; go_simp; try (with_reducible rfl))
        try simp only [Act.put, List.setIfInBounds_toArray, List.set_cons_zero, List.set_cons_succ]
        refine wpAnyH_ready (rs := [6]) (by kernel_rfl) (by simp) ?_
        refine AllReadyH.cons rfl (fun K hK => ?_) AllReadyH.nil
        go_simp
        refine (l8Share_any (some a) D c d f x _ ((HD.out.below HBr.out).below hHeld) hn).mono ?_
        rintro e w1 ⟨rfl, hb⟩
        have HBk := Lib.hid (after hHeld hb)
        clear hb
        (first | refine hK.out _ _ ?_ (fun hHeld1 => ?_) | (go_wp2_with fail; refine hK.out _ _ ?_ (fun hHeld1 => ?_)))
        · ((try dsimp only); exact HBk.out)
        clear hK K hHeld
        have hHeld := hHeld1
        clear hHeld1
        try simp only [Act.put, List.setIfInBounds_toArray, List.set_cons_zero, List.set_cons_succ]
        clear HBk
        refine take_yes (i := 7) (d := 19) (v := ?_) rfl rfl (by kernel_rfl) (by kernel_rfl) (by kernel_rfl) (fun _ _ _ h => h) (by kernel_rfl) ?_ hHeld ?_
        rotate_left
        · (intro w hSw; (try dsimp only at hSw); go_simp; try (with_reducible rfl))
        try simp only [Act.put, List.setIfInBounds_toArray, List.set_cons_zero, List.set_cons_succ]
        refine wpAnyH_ready (rs := [14]) (by kernel_rfl) (by simp) ?_
        refine AllReadyH.cons rfl (fun K hK => ?_) AllReadyH.nil
        go_simp
        refine (l8Share_any (some a) D c d f y _ ((HD.out.below HBr.out).below hHeld) hn).mono ?_
        rintro e w1 ⟨rfl, hb⟩
        have HBk := Lib.hid (after hHeld hb)
        clear hb
        (first | refine hK.out _ _ ?_ (fun hHeld1 => ?_) | (go_wp2_with fail; refine hK.out _ _ ?_ (fun hHeld1 => ?_)))
        · ((try dsimp only); exact HBk.out)
        clear hK K hHeld
        have hHeld := hHeld1
        clear hHeld1
        try simp only [Act.put, List.setIfInBounds_toArray, List.set_cons_zero, List.set_cons_succ]
        clear HBk
        refine take_yes (i := 15) (d := 27) (v := ?_) rfl rfl (by kernel_rfl) (by kernel_rfl) (by kernel_rfl) (fun _ _ _ h => h) (by kernel_rfl) ?_ hHeld ?_
        rotate_left
        · (intro w hSw; (try dsimp only at hSw); go_simp; try (with_reducible rfl))
        try simp only [Act.put, List.setIfInBounds_toArray, List.set_cons_zero, List.set_cons_succ]
        refine take_yes (i := 16) (d := 28) (v := (.bool false)) rfl rfl (by kernel_rfl) (by kernel_rfl) (by kernel_rfl) (fun _ _ _ h => h) (by kernel_rfl) ?_ hHeld ?_
        · (intro w hSw; (try dsimp only at hSw); go_simp; try (with_reducible rfl))
        try simp only [Act.put, List.setIfInBounds_toArray, List.set_cons_zero, List.set_cons_succ]
        refine wpAnyH_done (by kernel_rfl) ?_ _
        refine NoPanic.normal ?_
        have HB2 := Lib.hid (HBr.out.trans (hHeld.mono HBr.out.size))
        clear hHeld e0 e1 e2 e3 e4 hcX hcY z3
        go_wp2
        go_roundw
        case rel => exact ⟨k, i + 1, rfl, by go_num, HN2, HB2⟩
        case measure => simp [intOf]; try omega
    · have i1 : ¬ (i : Int) < (f.wt.length : Int) := by omega
      go_wp2
      go_ret
      exact ⟨⟨k, rfl, HF.out.fin (by omega)⟩, HB.out.trans (HBr.out.mono HB.out.size)⟩
/-- The order of speaking, if the floor is valid. -/
def soL (f : Flr) : List Int := if vldF f = true then isortT (trn f) f.wt else []
theorem soL_yes {f : Flr} (h : vldF f = true) : soL f = isortT (trn f) f.wt := if_pos h
theorem soL_no {f : Flr} (h : vldF f = false) : soL f = [] := if_neg (by simp [h])
set_option maxHeartbeats 4000000 in
set_option maxRecDepth 100000 in
theorem sSpeakingOrder_any (A D : Option Addr) (c d : Nat) (f : Flr) (w : World) (ha : Cells w A (IntK.row f.wt)) (hm0 : f.wt.length ≤ 1048576) (hcc : f.wt.length ≤ c) (hd : Cells w D (ShareK.row f.sh)) (hn : f.sh.length ≤ 1048576) :
    Calls Try.prog 38 #[.agg #[.int .i64 f.t, .int .i64 f.s, .int .i64 f.sp, .slice A f.wt.length c, .slice D f.sh.length d]] w (ToLB IntK 3 w (soL f) (vldF f)) := by
  have HA := Lib.hid ha
  have HD := Lib.hid hd
  have HQ := Lib.hid ((show FBox (w.alloc (.cells #[.int .i64 f.t, .int .i64 f.s, .int .i64 f.sp, .slice A f.wt.length c, .slice D f.sh.length d] 29)) w.heap.size A D c d f from BoxF.new5 w (.int .i64 f.t) (.int .i64 f.s) (.int .i64 f.sp) (.slice A f.wt.length c) (.slice D f.sh.length d) 29 w.heap.size rfl).below (below1 (w.alloc (.cells #[.int .i64 f.t, .int .i64 f.s, .int .i64 f.sp, .slice A f.wt.length c, .slice D f.sh.length d] 29)) (.cells #[] 3)) (by simp))
  have HL := Lib.hid (own_nil_lit (w.alloc (.cells #[.int .i64 f.t, .int .i64 f.s, .int .i64 f.sp, .slice A f.wt.length c, .slice D f.sh.length d] 29)) w.heap.size (w.heap.size + 1) 3 1 (by simp) (by simp))
  have HB := Lib.hid (below2 w (.cells #[.int .i64 f.t, .int .i64 f.s, .int .i64 f.sp, .slice A f.wt.length c, .slice D f.sh.length d] 29) (.cells #[] 3))
  have hsz : w.heap.size + 2 ≤ ((w.alloc (.cells #[.int .i64 f.t, .int .i64 f.s, .int .i64 f.sp, .slice A f.wt.length c, .slice D f.sh.length d] 29)).alloc (.cells #[] 3)).heap.size := by simp
  clear ha hd
  go_enter Try.func38, Try.ntmps38
  go_wp2_with fail
  generalize ((w.alloc (.cells #[.int .i64 f.t, .int .i64 f.s, .int .i64 f.sp, .slice A f.wt.length c, .slice D f.sh.length d] 29)).alloc (.cells #[] 3)) = W at *
  refine (l8Good_any A D c d f W (HA.out.below HB.out) hm0 hcc (HD.out.below HB.out) hn).mono ?_
  rintro e w1 ⟨rfl, hb⟩
  have HQ := Lib.hid (HQ.out.below hb (by omega))
  have HL := Lib.hid (own_keep HL.out hb)
  have HB := Lib.hid (HB.out.trans (hb.mono HB.out.size))
  have hsz := Nat.le_trans hsz hb.size
  clear hb
  rcases Bool.eq_false_or_eq_true (vldF f) with hv | hv
  · have HV := Lib.hid hv
    rw [hv]
    obtain ⟨_, _, _, h10, _⟩ := vldF_parts hv
    clear hv
    have m0 := HQ.out.1 0 _ rfl
    have m1 := HQ.out.1 1 _ rfl
    have m2 := HQ.out.1 2 _ rfl
    have m3 := HQ.out.1 3 _ rfl
    have m4 := HQ.out.1 4 _ rfl
    go_wp2_with fail
    refine (l8Own_any A D c d f _ (HA.out.below HB.out) hm0 (HD.out.below HB.out) hn).mono ?_
    rintro e w2 ⟨A1, c1, D1, d1, rfl, o1, o2, hb⟩
    have HI := Lib.hid (show SoI w (w2.alloc (.cells #[.int .i64 f.t, .int .i64 f.s, .int .i64 f.sp, .slice A1 f.wt.length c1, .slice D1 f.sh.length d1] 29)) w2.heap.size f (some ⟨w.heap.size + 1, 0, none⟩) 0 [] f.wt A1 c1 D1 d1 from
      { own := own_alloc (own_keep HL.out hb) _
        box := BoxF.new5 w2 (.int .i64 f.t) (.int .i64 f.s) (.int .i64 f.sp) (.slice A1 f.wt.length c1) (.slice D1 f.sh.length d1) 29 w2.heap.size rfl
        lo := Nat.le_trans HB.out.size hb.size
        hi := by simp
        ra := (Cells.of_own o1.1).alloc_ _
        rd := (Cells.of_own o2.1).alloc_ _
        cap := own_cap o1.1
        len := by simp
        few := h10
        sq := fun a e => by
          obtain rfl := Option.some.inj e
          have := hb.size
          show w.heap.size + 1 ≠ _
          omega
        sa := fun a e _ => ⟨fun a' e' => by
          obtain rfl := Option.some.inj e'
          subst e
          have h9 := (o1.1.lt a.block rfl).1
          show w.heap.size + 1 ≠ _
          omega, by
          have := o1.2.1 a e
          omega⟩
        sd := fun a e _ => ⟨fun a' e' => by
          obtain rfl := Option.some.inj e'
          subst e
          have h9 := (o2.1.lt a.block rfl).1
          show w.heap.size + 1 ≠ _
          omega, by
          have := o2.2.1 a e
          omega⟩
        bel := (HB.out.trans (hb.mono HB.out.size)).alloc (Nat.le_trans HB.out.size hb.size) _
        res := rfl })
    clear o1 o2 hb m0 m1 m2 m3 m4
    go_wp2_with fail
    generalize w2.alloc (.cells #[.int .i64 f.t, .int .i64 f.s, .int .i64 f.sp, .slice A1 f.wt.length c1, .slice D1 f.sh.length d1] 29) = V at *
    generalize w2.heap.size = q at *
    go_loopw [4] (fun vi wr => ∃ (O : Option Addr) (oc : Nat) (don rest : List Int) (A1 : Option Addr) (c1 : Nat), vi = .slice O don.length oc ∧ Hid (SoI w wr q f O oc don rest A1 c1 D1 d1)) (fun vi _ => f.wt.length - lenV vi)
    case atStart => exact ⟨_, 0, [], f.wt, A1, c1, rfl, HI⟩
    case round =>
      clear HI
      obtain ⟨O, oc, don, rest, A1, c1, rfl, HI⟩ := hrel
      have n3 := HI.out.box.1 3 _ rfl
      have hlen := HI.out.len
      have hcap := HI.out.cap
      by_cases h0 : 0 < rest.length
      · have i0 : (0 : Int) < (rest.length : Int) := by omega
        have n0 := HI.out.box.1 0 _ rfl
        have n1 := HI.out.box.1 1 _ rfl
        have n2 := HI.out.box.1 2 _ rfl
        have n4 := HI.out.box.1 4 _ rfl
        go_wp2_with fail
        refine (l8Next_any A1 D1 c1 d1 ⟨f.t, f.s, f.sp, rest, f.sh⟩ wr HI.out.ra h0 (by show rest.length ≤ _; omega) HI.out.rd hn).mono ?_
        rintro e w3 ⟨⟨k, rfl, hfm⟩, hb⟩
        have HI := Lib.hid (HI.out.call hb)
        have HFM := Lib.hid (show FirstMin (trn f) rest k from hfm)
        have hk : k < rest.length := hfm.1
        clear hb hfm n0 n1 n2 n3 n4
        have n3 := HI.out.box.1 3 _ rfl
        obtain ⟨a, hAa, hck⟩ := int_at HI.out.ra hk
        rw [← getD_at hk] at hck
        obtain ⟨x, hx⟩ : ∃ x, Hid (rest.getD k 0 = x) := ⟨_, Lib.hid rfl⟩
        rw [hx.out] at hck
        have HA1 := Lib.hid hAa
        subst hAa
        have i1 : (k : Int) < (rest.length : Int) := by omega
        have HI2 := Lib.hid (HI.out.call (below1 w3 (.cells #[.int .i64 x] 3)))
        go_wp2_with (at_builtin; go_must (refine list_append_sep elInt _ rfl _ _ rfl w.heap.size O _ oc don.length 1 1 (IntK.row don) (IntK.row [x]) rfl rfl rfl HI2.out.own (cells_one _ _ _ _ rfl) int_one HI2.out.bel.size (by omega) ?_); intro O2 oc2 w4 o2 b2 s2 k2; have HO2 := Lib.hid o2; have HB2 := Lib.hid b2; have HK2 := Lib.hid k2; have HN3 := Lib.hid (show w4.cell? ⟨q, 3, none⟩ = some (.slice (some a) rest.length c1) from (HI2.out.box.block (HK2.out q HI2.out.hi HI2.out.sq).1).1 3 _ rfl); have HRA := Lib.hid (show Cells w4 (some a) (IntK.row rest) from HI2.out.ra.block fun a' e hl => (HK2.out a'.block hl (HI2.out.sa a' e h0).1).1); have n3' := HN3.out; have hfz : w4.frozen? ⟨q, 3, none⟩ = false := (HI2.out.box.block (HK2.out q HI2.out.hi HI2.out.sq).1).2 3; clear o2 b2 k2 n3 hck)
        refine (l8Without_any (some a) c1 k rest w4 HRA.out (by omega) hcap hk).mono ?_
        rintro e w5 ⟨A2, c2, rfl, o5, b5⟩
        have hq5 : q < w4.heap.size := Nat.lt_of_lt_of_le HI2.out.hi s2
        have n3 := (b5.cell (p := ⟨q, 3, none⟩) hq5).trans n3'
        have hfz5 := (b5.frozen (p := ⟨q, 3, none⟩) hq5).trans hfz
        have HNX := Lib.hid (HI2.out.next HFM.out hx.out HO2.out HB2.out s2 HK2.out b5 o5.1 rfl)
        clear o5 b5 n3' hfz
        go_wp2
        generalize w5.setCell ⟨q, 3, none⟩ (.slice A2 (cutAt k rest).length c2) = V2 at *
        go_roundw
        case rel => exact ⟨O2, oc2, don ++ [x], cutAt k rest, A2, c2, by simp, HNX⟩
        case measure => simp [lenV]; try omega
      · have i0 : rest = [] := List.eq_nil_of_length_eq_zero (by omega)
        subst i0
        go_wp2
        go_ret2
        have hr := HI.out.res
        rw [isortT_nil, List.append_nil] at hr
        rw [soL_yes HV.out, hr, HV.out]
        exact ⟨O, oc, (by first | rfl | (simp; done) | (simp [Array.getD]; done)), Ow.mk (K := IntK) HI.out.own (by have := HI.out.few; have := HI.out.len; simp at this; omega) (fun _ _ => trivial), HI.out.bel⟩
  · have HV := Lib.hid hv
    rw [hv]
    clear hv
    go_wp2
    go_ret2
    rw [soL_no HV.out, HV.out]
    exact ⟨some ⟨w.heap.size + 1, 0, none⟩, 0, (by first | rfl | (simp; done) | (simp [Array.getD]; done)), Ow.mk (K := IntK) HL.out (by simp) (fun _ h => by cases h), HB.out⟩
set_option maxHeartbeats 2000000 in
theorem SpeakingOrder_any (A D : Option Addr) (c d : Nat) (f : Flr) (w : World) (ha : Cells w A (IntK.row f.wt)) (hm0 : f.wt.length ≤ 1048576) (hcc : f.wt.length ≤ c) (hd : Cells w D (ShareK.row f.sh)) (hn : f.sh.length ≤ 1048576) :
    Calls Try.prog 22 #[.agg #[.int .i64 f.t, .int .i64 f.s, .int .i64 f.sp, .slice A f.wt.length c, .slice D f.sh.length d]] w (ToLB IntK 3 w (soL f) (vldF f)) := by
  have HA := Lib.hid ha
  have HD := Lib.hid hd
  have HQ := Lib.hid (show FBox (w.alloc (.cells #[.int .i64 f.t, .int .i64 f.s, .int .i64 f.sp, .slice A f.wt.length c, .slice D f.sh.length d] 29)) w.heap.size A D c d f from BoxF.new5 w (.int .i64 f.t) (.int .i64 f.s) (.int .i64 f.sp) (.slice A f.wt.length c) (.slice D f.sh.length d) 29 w.heap.size rfl)
  have HB := Lib.hid (below1 w (.cells #[.int .i64 f.t, .int .i64 f.s, .int .i64 f.sp, .slice A f.wt.length c, .slice D f.sh.length d] 29))
  have hsz : w.heap.size < (w.alloc (.cells #[.int .i64 f.t, .int .i64 f.s, .int .i64 f.sp, .slice A f.wt.length c, .slice D f.sh.length d] 29)).heap.size := by simp
  clear ha hd
  go_enter Try.func22, Try.ntmps22
  go_wp2_with fail
  generalize (w.alloc (.cells #[.int .i64 f.t, .int .i64 f.s, .int .i64 f.sp, .slice A f.wt.length c, .slice D f.sh.length d] 29)) = W at *
  refine (IsValidFloor_any A D c d f W (HA.out.below HB.out) hm0 hcc (HD.out.below HB.out) hn).mono ?_
  rintro e w1 ⟨rfl, hb⟩
  have HQ := Lib.hid (HQ.out.below hb (by omega))
  have HB := Lib.hid (HB.out.trans (hb.mono HB.out.size))
  clear hb
  rcases Bool.eq_false_or_eq_true (vldF f) with hv | hv
  · have HV := Lib.hid hv
    rw [hv]
    obtain ⟨_, _, _, h10, _⟩ := vldF_parts hv
    clear hv
    have m0 := HQ.out.1 0 _ rfl
    have m1 := HQ.out.1 1 _ rfl
    have m2 := HQ.out.1 2 _ rfl
    have m3 := HQ.out.1 3 _ rfl
    have m4 := HQ.out.1 4 _ rfl
    go_wp2_with fail
    refine (speakingOrder_any A D c d f _ (HA.out.below HB.out) (by omega) (HD.out.below HB.out) hn).mono ?_
    rintro e w2 ⟨O, oc, rfl, ow, hb⟩
    have HO := Lib.hid ow
    have HB2 := Lib.hid hb
    clear ow hb
    go_wp2
    go_ret2
    rw [soL_yes HV.out, HV.out]
    exact ⟨O, oc, (by first | rfl | (simp; done) | (simp [Array.getD]; done)), HO.out.low HB.out.size, HB.out.trans (HB2.out.mono HB.out.size)⟩
  · have HV := Lib.hid hv
    rw [hv]
    clear hv
    go_wp2
    go_ret2
    rw [soL_no HV.out, HV.out]
    refine ⟨none, 0, (by first | rfl | (simp; done) | (simp [Array.getD]; done)), Ow.mk (K := IntK) ⟨by simp [IntK.row_nil], .inl ⟨rfl, rfl⟩⟩ (by simp) (fun _ h => by cases h), HB.out⟩
end Go.Proofs.Ytbpikbcnpmplfaa
