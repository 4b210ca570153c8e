/- The draws of FnHistories. Conditions: the ranges named. -/
import Derived.Test.YtnnphhhjkhoglaaGreatDoorMHi2
import Derived.Lib.SplitLaws
import Derived.Lib.SmallJoins
import Derived.Lib.SlicesS
import Derived.Deep.DrawnRows
import Derived.Deep.Cut
import Derived.Deep.CutRange
import Derived.Deep.DeepCutAuto
import Derived.Deep.MidRow
import Derived.Test.YtnnphhhjkhoglaaGreatDoorCu1
namespace Go.Proofs.YtnnphhhjkhoglaaGreatDoor
open Go.RowKit
set_option linter.unusedVariables false
set_option linter.unusedSimpArgs false
theorem piece_len {c : UInt8} : ∀ {l cur x : List UInt8}, x ∈ spF c cur l → x.length ≤ cur.length + l.length
  | [], cur, x, h => by
    rw [spF] at h
    have := List.mem_singleton.1 h
    subst this
    simp
  | b :: t, cur, x, h => by
    rw [spF] at h
    split at h
    · rcases List.mem_cons.1 h with rfl | h
      · omega
      · have := piece_len h; simp at this ⊢; omega
    · have := piece_len h; simp at this ⊢; omega
theorem spl_mem {c : UInt8} {l x : List UInt8} (h : x ∈ spl c l) : x.length ≤ l.length := by
  have := piece_len h
  simpa using this
theorem spl_pos (c : UInt8) (l : List UInt8) : 1 ≤ (spl c l).length := by
  have := spl_ne (c := c) (l := l) (cur := [])
  rcases Nat.eq_zero_or_pos (spl c l).length with h0 | h0
  · exact absurd (List.eq_nil_of_length_eq_zero h0) this
  · exact h0
theorem bar_list (l : List UInt8) : (bar l).data.toList = l := by simp [bar]
theorem bar_size (l : List UInt8) : (bar l).size = l.length := by unfold bar ByteArray.size; simp
theorem getD_bar {ls : List (List UInt8)} (i : Nat) : (ls.map bar).getD i ByteArray.empty = bar (ls.getD i []) := by
  rw [List.getD_eq_getElem?_getD, List.getElem?_map, List.getD_eq_getElem?_getD]
  cases ls[i]? <;> rfl
theorem keep_cell {w w' : World} {a : Addr} {v : Value} (hb : Below w.heap.size w w') (h : w.cell? a = some v) : w'.cell? a = some v := (hb.cell (World.block_lt_of_cell? w a h)).trans h
/-- What the library's searches read: MaxLen. -/
def Mx (w : World) : Prop := ∃ m : Int, w.cell? ⟨1, 0, none⟩ = some (.int .i64 m)
theorem Mx.below {w w' : World} (h : Mx w) (hb : Below w.heap.size w w') : Mx w' := by
  obtain ⟨m, hm⟩ := h
  exact ⟨m, keep_cell hb hm⟩
theorem data_inj {xs ys : List ByteArray} (h : xs.map (·.data.toList) = ys.map (·.data.toList)) : xs = ys := by
  induction xs generalizing ys with
  | nil => cases ys with
    | nil => rfl
    | cons y ys => simp at h
  | cons x xs ih => cases ys with
    | nil => simp at h
    | cons y ys =>
      simp only [List.map_cons, List.cons.injEq] at h
      rw [ih h.2, ByteArray.ext (Array.ext' h.1)]
theorem splitB_pcs (c : UInt8) (s : ByteArray) : Go.Lib.splitB ⟨#[c]⟩ 0 (Go.Lib.countB s ⟨#[c]⟩) s = pcs c s := by
  apply data_inj
  rw [Go.Lib.splitB_data]
  show Go.Lib.splitK [c] 0 (Go.Lib.count s.data.toList [c]) s.data.toList = _
  rw [splitK_spl c _ _ (Nat.le_refl _)]
  unfold pcs
  rw [List.map_map]
  conv => lhs; rw [← List.map_id (spl c s.data.toList)]
  apply List.map_congr_left
  intro l _
  simp [bar]
theorem own_lit (w : World) (xs : List ByteArray) (hx : xs.length ≤ maxLen) : (w.alloc (.cells (xs.map Value.string).toArray 9)).ownsRow w.heap.size 9 1 (.slice (some ⟨w.heap.size, 0, none⟩) xs.length xs.length) xs.length (StrK.row xs) := by
  have h := World.ownsRow_lit w (xs.map Value.string).toArray (e := 9) (size := 1) (base := w.heap.size) xs.length (Nat.le_refl _) hx (by simp)
  rw [strK_row]
  simpa using h
/-- A row of texts of a call's own, however long. -/
def OwP (lo : Nat) (w : World) (O : Option Addr) (oc : Nat) (ps : List ByteArray) : Prop := w.ownsRow lo 9 1 (.slice O ps.length oc) ps.length (StrK.row ps) ∧ ∀ x ∈ ps, x.size ≤ maxLen
theorem OwP.call {lo : Nat} {w w' : World} {O : Option Addr} {oc : Nat} {ps : List ByteArray} (h : OwP lo w O oc ps) (hb : Below w.heap.size w w') : OwP lo w' O oc ps := ⟨own_keep h.1 hb, h.2⟩
theorem OwP.owd {lo : Nat} {w : World} {O : Option Addr} {oc : Nat} {ps : List ByteArray} (h : OwP lo w O oc ps) (hl : ps.length ≤ 1048576) : OwD StrK 9 lo w O oc ps := Ow.mk h.1 hl h.2
/-- A list of texts that a call hands back: a row of its own. -/
def PcsL (w : World) (ls : List (List UInt8)) : Ending → World → Prop := fun e w' => ∃ (O : Option Addr) (oc : Nat) (ps : List ByteArray), e = .returned (.slice O ps.length oc) ∧ ps = ls.map bar ∧ OwP w.heap.size w' O oc ps ∧ Below w.heap.size w w'
theorem pcsL_of {w : World} {c : UInt8} {s : ByteArray} (hs : s.size ≤ 1048576) {f : FuncId} {args : Array Value} (h : Calls Tryz.prog f args w (Pcs w (pcs c s))) : Calls Tryz.prog f args w (PcsL w (spl c s.data.toList)) := by
  have hl : s.data.toList.length = s.size := Array.length_toList
  refine h.mono fun e w' ⟨O, oc, he, own, hb⟩ => ⟨O, oc, pcs c s, he, rfl, ⟨own, fun x hx => ?_⟩, hb⟩
  unfold pcs at hx
  obtain ⟨l, hm, rfl⟩ := List.mem_map.1 hx
  have := spl_mem hm
  rw [bar_size]
  unfold maxLen
  omega
theorem splitL_any (c : UInt8) (s : ByteArray) (w : World) (hs : s.size ≤ 1048576) (h : Mx w) : Calls Tryz.prog 31 #[.string s, .string ⟨#[c]⟩] w (PcsL w (spl c s.data.toList)) := by
  refine pcsL_of hs ?_
  obtain ⟨m, hm⟩ := h
  refine (Tryz.strings_Split s ⟨#[c]⟩ m w (by omega) hm (by show 1 ≤ 1; omega)).mono ?_
  rintro e w' ⟨rfl, rfl⟩
  have hl : Go.Lib.countB s ⟨#[c]⟩ + 1 = (pcs c s).length := by
    rw [← splitB_pcs, Go.Lib.splitB_all ⟨#[c]⟩ (by show 1 ≤ 1; omega) 0 _ s rfl]
  rw [splitB_pcs, hl]
  exact ⟨_, _, rfl, own_lit w _ (by have h1 := spl_len c s.data.toList []; have h2 : s.data.toList.length = s.size := Array.length_toList; unfold pcs maxLen; rw [List.length_map]; unfold spl; omega), below1 _ _⟩
theorem spl_len_count (c : UInt8) : ∀ (l cur : List UInt8), (spF c cur l).length = l.count c + 1
  | [], cur => by simp [spF]
  | b :: t, cur => by
    rw [spF]
    by_cases h : b = c
    · rw [if_pos h, List.length_cons, spl_len_count c t [], List.count_cons, h]; simp
    · rw [if_neg h, spl_len_count c t _, List.count_cons]; simp [h]
/-- The cells of a list of texts. -/
theorem str_cell {w : World} {O : Option Addr} {oc lo : Nat} {ps : List ByteArray} {ls : List (List UInt8)} (h : OwP lo w O oc ps) (hp : ps = ls.map bar) {k : Nat} (hk : k < ls.length) : ∃ g, O = some ⟨g, 0, none⟩ ∧ w.cell? ⟨g, k, none⟩ = some (.string (bar ls[k])) := by
  have hk2 : k < ps.length := by rw [hp, List.length_map]; exact hk
  obtain ⟨ad, hA, hc⟩ := str_at (Cells.of_own h.1) hk2
  have he : ps[k] = bar ls[k] := by subst hp; simp
  rw [he] at hc
  rcases h.1.2 with ⟨h1, h2⟩ | ⟨g, cap, cur, h1, _⟩
  · omega
  · injection h1 with h1
    subst h1
    cases hA
    rw [add_head] at hc
    exact ⟨g, rfl, hc⟩
end Go.Proofs.YtnnphhhjkhoglaaGreatDoor
namespace Go.Proofs.YtnnphhhjkhoglaaGreatDoor
open Go.RowKit
set_option linter.unusedVariables false
set_option linter.unusedSimpArgs false
theorem bar_eq {l : List UInt8} {s : ByteArray} : bar l = s ↔ l = s.data.toList := by
  constructor
  · intro h; subst h; simp [bar]
  · intro h; subst h; unfold bar; rw [Array.toArray_toList]
theorem l1NumZ (v : Int) (w : World) (h : -999999 ≤ v ∧ v ≤ 999999) : Calls Tryz.prog 59 #[.int .i64 v] w fun e w' => e = .returned (.string (bar (Go.Lib.itoa v))) ∧ ∃ m, w' = w.drewN m := by
  by_cases hv : 0 ≤ v
  · obtain ⟨n, rfl⟩ := Int.eq_ofNat_of_zero_le hv
    rw [Go.Lib.itoa_nonneg]
    exact l1Num_all n w (by omega)
  · obtain ⟨n, hn⟩ : ∃ n : Nat, v = -(n : Int) := ⟨v.natAbs, by omega⟩
    subst hn
    have h1 : 1 ≤ n := by omega
    have h2 : n ≤ 999999 := by omega
    rw [Go.Lib.itoa_neg n h1]
    have HD : Hid ((⟨#[45]⟩ : ByteArray) ++ dec n = bar (45 :: Go.Lib.decDigits n)) := Lib.hid (by apply ByteArray.ext; apply Array.ext'; simp [bar, dec])
    have i1 : -(n : Int) < 0 := by omega
    have q1 : IntKind.i64.wrap (- -(n : Int)) = (n : Int) := by rw [IntKind.wrap_i64]; omega
    have q2 : IntKind.i64.wrap (n : Int) = (n : Int) := by rw [IntKind.wrap_i64]; omega
    have hsz := dec_size (i := n)
    have y1 : ¬ 9223372036854775807 < 1 + (dec n).size := by omega
    clear hv h
    go_enter Tryz.func59, Tryz.ntmps59
    go_wp2_with (go_at_call 59; refine (l1Num_all n _ (by omega)).mono ?_; rintro e w' ⟨rfl, m, rfl⟩)
    go_ret
    exact ⟨ret_val (congrArg Value.string HD.out), _, rfl⟩
theorem rd_step {l : List UInt8} {k u : Nat} {b : UInt8} (h : k < l.length) (hb : l[k] = b) : rdV u (l.drop k) = if 48 ≤ b.toNat ∧ b.toNat ≤ 57 then rdV (10 * u + (b.toNat - 48)) (l.drop (k + 1)) else none := by
  rw [List.drop_eq_getElem_cons h, hb, rdV]
theorem lr_none_rd {l : List UInt8} (h : rdV 0 (tlV l) = none) : lrV l = none := by
  unfold lrV
  rw [h]
  simp
theorem lr_none_len {l : List UInt8} (h : ¬ (1 ≤ (tlV l).length ∧ (tlV l).length ≤ 6)) : lrV l = none := by
  unfold lrV
  rw [if_neg h]
theorem lr_val {l : List UInt8} {u : Nat} {v : Int} (h1 : 1 ≤ (tlV l).length) (h6 : (tlV l).length ≤ 6) (h : rdV 0 (tlV l) = some u) (hv : (if (tlV l).length < l.length then -(u : Int) else (u : Int)) = v) : lrV l = if Go.Lib.itoa v = l then some v else none := by
  unfold lrV
  rw [if_pos ⟨h1, h6⟩, h]
  simp only
  rw [hv]
/-- A number that may be missing. -/
def optI : Option Int → Value
  | some v => .tuple #[.int .i64 v, .bool true]
  | none => .tuple #[.int .i64 0, .bool false]
end Go.Proofs.YtnnphhhjkhoglaaGreatDoor
namespace Go.Proofs.YtnnphhhjkhoglaaGreatDoor
open Go.RowKit
set_option linter.unusedVariables false
set_option linter.unusedSimpArgs false
/-- What the library reads of its own variables. -/
structure Cx (w : World) : Prop where
  tab : Tab w
  mx : ∃ m : Int, w.cell? ⟨1, 0, none⟩ = some (.int .i64 m)
  es : ∃ ev, w.cell? ⟨2, 0, none⟩ = some ev ∧ (ev = .nilIface ∨ ∃ te pe, ev = .iface te pe)
  er : ∃ ev, w.cell? ⟨3, 0, none⟩ = some ev ∧ (ev = .nilIface ∨ ∃ te pe, ev = .iface te pe)
theorem Cx.below {w w' : World} (h : Cx w) (hb : Below w.heap.size w w') : Cx w' := by
  obtain ⟨h1, ⟨m, h2⟩, ⟨e, h3, h3'⟩, ⟨e2, h4, h4'⟩⟩ := h
  exact ⟨h1.below hb, ⟨m, keep_cell hb h2⟩, ⟨e, keep_cell hb h3, h3'⟩, ⟨e2, keep_cell hb h4, h4'⟩⟩
theorem Cx.lib {w : World} (h : Cx w) : Mx w := h.mx
theorem itoa_z (v : Int) (h0 : -999999 ≤ v) (h1 : v ≤ 999999) (w : World) (h : Cx w) : Calls Tryz.prog 53 #[.int .i64 v] w fun e w' => e = .returned (.string (bar (Go.Lib.itoa v))) ∧ Below w.heap.size w w' := by
  refine (Tryz.strconv_Itoa v (by omega) (by omega) w h.tab.here).mono ?_
  rintro e w' ⟨rfl, k, os, rfl⟩
  exact ⟨rfl, (below_drewN (Below.refl _ _) k).trans (grow_below (w.drewN k) os)⟩
theorem atoi_z (s : ByteArray) (hs : s.size ≤ 7) (w : World) (h : Cx w) : Calls Tryz.prog 57 #[.string s] w fun e w' => (∀ v, Go.Lib.atoiAll s.data.toList = .ok v → e = .returned (.tuple #[.int .i64 v, .nilIface])) ∧ ((∀ v, Go.Lib.atoiAll s.data.toList ≠ .ok v) → ∃ (v : Int) (t : TypeId) (p : Value), e = .returned (.tuple #[.int .i64 v, .iface t p])) ∧ Below w.heap.size w w' := by
  rcases ha : Go.Lib.atoiAll s.data.toList with v | _ | _
  ·
    refine (Tryz.strconv_Atoi_ok s (by omega) v ha w).mono ?_
    rintro e w' ⟨rfl, hw⟩
    refine ⟨fun u hu => by injection hu with hu; rw [hu], fun hn => absurd rfl (hn v), ?_⟩
    rcases hw with rfl | ⟨t, rfl⟩
    · exact Below.refl _ _
    · exact Go.Lib.bytesWorld_below _ _ _
  ·
    obtain ⟨ev, hv, hev⟩ := h.es
    refine (Tryz.strconv_Atoi_syntax s (by omega) ha ev w hv hev).mono ?_
    rintro e w' ⟨N, rfl, _, _, hb⟩
    exact ⟨fun u hu => by (cases hu), fun _ => ⟨_, _, _, rfl⟩, hb⟩
  ·
    obtain ⟨ev, hv, hev⟩ := h.er
    refine (Tryz.strconv_Atoi_range s (by omega) ha ev w hv hev).mono ?_
    rintro e w' ⟨N, rfl, _, _, hb⟩
    exact ⟨fun u hu => by (cases hu), fun _ => ⟨_, _, _, rfl⟩, hb⟩
theorem pi_long {l : List UInt8} (h : ¬ l.length ≤ 7) : piV l = none := by unfold piV; rw [if_neg h]
theorem pi_ok {l : List UInt8} {v : Int} (h : l.length ≤ 7) (hv : Go.Lib.atoiAll l = .ok v) : piV l = if (-999999 ≤ v ∧ v ≤ 999999) ∧ Go.Lib.itoa v = l then some v else none := by unfold piV; rw [if_pos h, hv]
theorem pi_bad {l : List UInt8} (h : ∀ v, Go.Lib.atoiAll l ≠ .ok v) : piV l = none := by
  unfold piV
  split
  · rcases ha : Go.Lib.atoiAll l with v | _ | _
    · exact absurd ha (h v)
    · rfl
    · rfl
  · rfl
set_option maxHeartbeats 2000000 in
theorem ParseInt_any (s : ByteArray) (w : World) (hs : s.size ≤ maxLen) (h : Cx w) : Calls Tryz.prog 32 #[.string s] w fun e w' => e = .returned (optI (piV s.data.toList)) ∧ Below w.heap.size w w' := by
  unfold maxLen at hs
  have hsl : s.data.toList.length = s.size := Array.length_toList
  have HC := Lib.hid h
  clear h
  by_cases h7 : s.size ≤ 7
  · have i1 : ¬ (7 : Int) < (s.size : Int) := by omega
    by_cases hok : ∃ v, Go.Lib.atoiAll s.data.toList = .ok v
    · obtain ⟨v, hv⟩ := hok
      have HP := Lib.hid (pi_ok (by rw [hsl]; exact h7) hv)
      have HV := Lib.hid hv
      clear hv
      rcases Bool.eq_false_or_eq_true (inB v (-999999) 999999) with hin | hin
      · have hv2 := inB_iff.1 hin
        by_cases ht : Go.Lib.itoa v = s.data.toList
        · have HQ := Lib.hid (bar_eq.2 ht)
          rw [if_pos ⟨hv2, ht⟩] at HP
          clear ht
          go_enter Tryz.func32, Tryz.ntmps32
          go_wp2_with (first
            | (go_at_call 57; refine (atoi_z s h7 _ HC.out).mono ?_; rintro e w1 ⟨he, -, hb⟩; rw [he v HV.out]; have HB := Lib.hid hb; clear he hb)
            | (go_at_call 51; refine (inside_any _ _ _ _).mono ?_; rintro e w' ⟨rfl, rfl⟩; rw [hin])
            | (go_at_call 53; refine (itoa_z v hv2.1 hv2.2 _ (HC.out.below HB.out)).mono ?_; rintro e w2 ⟨rfl, hb⟩; rw [HQ.out]; have HB2 := Lib.hid (HB.out.trans (hb.mono HB.out.size)); clear hb))
          go_ret2
          exact ⟨by rw [HP.out]; rfl, HB2.out⟩
        · obtain ⟨x, hx⟩ : ∃ x, Hid (bar (Go.Lib.itoa v) = x) := ⟨_, Lib.hid rfl⟩
          have hxs : (!x.toList == s.toList) = true := same_no (fun h => ht (bar_eq.1 (hx.out.trans h)))
          rw [if_neg (fun h => ht h.2)] at HP
          clear ht
          go_enter Tryz.func32, Tryz.ntmps32
          go_wp2_with (first
            | (go_at_call 57; refine (atoi_z s h7 _ HC.out).mono ?_; rintro e w1 ⟨he, -, hb⟩; rw [he v HV.out]; have HB := Lib.hid hb; clear he hb)
            | (go_at_call 51; refine (inside_any _ _ _ _).mono ?_; rintro e w' ⟨rfl, rfl⟩; rw [hin])
            | (go_at_call 53; refine (itoa_z v hv2.1 hv2.2 _ (HC.out.below HB.out)).mono ?_; rintro e w2 ⟨rfl, hb⟩; rw [hx.out]; have HB2 := Lib.hid (HB.out.trans (hb.mono HB.out.size)); clear hb))
          go_ret2
          exact ⟨by rw [HP.out]; rfl, HB2.out⟩
      · rw [if_neg (fun h => by rw [inB_iff.2 h.1] at hin; cases hin)] at HP
        go_enter Tryz.func32, Tryz.ntmps32
        go_wp2_with (first
          | (go_at_call 57; refine (atoi_z s h7 _ HC.out).mono ?_; rintro e w1 ⟨he, -, hb⟩; rw [he v HV.out]; have HB := Lib.hid hb; clear he hb)
          | (go_at_call 51; refine (inside_any _ _ _ _).mono ?_; rintro e w' ⟨rfl, rfl⟩; rw [hin]))
        go_ret2
        exact ⟨by rw [HP.out]; rfl, HB.out⟩
    · have HN := Lib.hid (fun v h => hok ⟨v, h⟩ : ∀ v, Go.Lib.atoiAll s.data.toList ≠ .ok v)
      have HP := Lib.hid (pi_bad HN.out)
      clear hok
      go_enter Tryz.func32, Tryz.ntmps32
      go_wp2_with (go_at_call 57; refine (atoi_z s h7 _ HC.out).mono ?_; rintro e w1 ⟨-, he, hb⟩; obtain ⟨v, t, p, rfl⟩ := he HN.out; have HB := Lib.hid hb; clear he hb)
      go_ret2
      exact ⟨by rw [HP.out]; rfl, HB.out⟩
  · have i1 : (7 : Int) < (s.size : Int) := by omega
    have HP := Lib.hid (pi_long (l := s.data.toList) (by rw [hsl]; exact h7))
    go_enter Tryz.func32, Tryz.ntmps32
    go_wp2
    go_ret2
    exact ⟨by rw [HP.out]; rfl, Below.refl _ _⟩
end Go.Proofs.YtnnphhhjkhoglaaGreatDoor
namespace Go.Proofs.YtnnphhhjkhoglaaGreatDoor
open Go.RowKit
set_option linter.unusedVariables false
/-! ### What the walk of a law on draws carries -/
structure Lst (w0 w : World) (A : Option Addr) (n : Nat) : Prop where
  on : Below w0.heap.size w0 w
  by0 : BytesC w0 A n
section
variable {w0 w w' : World} {A : Option Addr} {n q : Nat}
theorem Lst.sz (h : Lst w0 w A n) : w0.heap.size ≤ w.heap.size := h.on.size
theorem Lst.call (h : Lst w0 w A n) (hb : Below w.heap.size w w') : Lst w0 w' A n := ⟨h.on.trans (hb.mono h.sz), h.by0⟩
theorem Lst.bytes (h : Lst w0 w A n) : BytesC w A n := h.by0.block fun a _ hl => h.on.block _ hl
theorem below_puts_ {B : Nat} (h : Below B w0 w) (hq : B ≤ q) : ∀ (o : Nat) (vs : List Value), Below B w0 (w.setCells q o vs) := by
  intro o vs
  induction vs generalizing o w with
  | nil => exact h
  | cons v vs ih => exact ih (h.setCell (p := ⟨q, o, none⟩) hq v) (o + 1)
theorem Lst.puts (h : Lst w0 w A n) (hq : w0.heap.size ≤ q) (o : Nat) (vs : List Value) : Lst w0 (w.setCells q o vs) A n := ⟨below_puts_ h.on hq o vs, h.by0⟩
end
end Go.Proofs.YtnnphhhjkhoglaaGreatDoor
namespace Go.Proofs.YtnnphhhjkhoglaaGreatDoor
open Go.RowKit
set_option linter.unusedVariables false
set_option linter.unusedSimpArgs false
def nI (o : Option Int) : Int := o.getD 0
def bI (o : Option Int) : Bool := o.isSome
theorem optI_eq (o : Option Int) : optI o = .tuple #[.int .i64 (nI o), .bool (bI o)] := by cases o <;> rfl
theorem cut2_any (s : ByteArray) (w : World) (hs : s.size ≤ 1048576) (h : Mx w) : Calls Tryz.prog 30 #[.string s, .string ⟨#[58, 32]⟩] w fun e w' => e = .returned (.tuple #[.string (bar (Go.Lib.cut s.data.toList [58, 32]).1), .string (bar (Go.Lib.cut s.data.toList [58, 32]).2.1), .bool (Go.Lib.cut s.data.toList [58, 32]).2.2]) ∧ Below w.heap.size w w' := by
  obtain ⟨m, hm⟩ := h
  refine (Tryz.strings_Cut s ⟨#[58, 32]⟩ m w (by omega) hm).mono ?_
  rintro e w' ⟨rfl, n, rfl⟩
  exact ⟨rfl, below_drewN (Below.refl _ _) _⟩
theorem cut_len (l : List UInt8) : (Go.Lib.cut l [58, 32]).1.length ≤ l.length ∧ (Go.Lib.cut l [58, 32]).2.1.length ≤ l.length - 1 := by
  unfold Go.Lib.cut
  split
  · refine ⟨by simp; omega, by simp; omega⟩
  · exact ⟨Nat.le_refl _, by simp⟩
/-- What the table of words holds, the empty word too. -/
def Wds4 (w : World) : Prop := Wds w ∧ w.cell? ⟨0, 0, none⟩ = some (.string ⟨#[]⟩)
theorem Wds4.below {w w' : World} (h : Wds4 w) (hb : Below w.heap.size w w') : Wds4 w' := ⟨h.1.below hb, keep_cell hb h.2⟩
def wd4 : List ByteArray := [⟨#[]⟩, ⟨#[105, 110, 115, 101, 114, 116]⟩, ⟨#[115, 116, 114, 105, 107, 101]⟩, ⟨#[114, 101, 112, 108, 97, 99, 101]⟩]
theorem bar_ne {l m : List UInt8} (h : l ≠ m) : bar l ≠ bar m := fun e => h (by rw [← bar_list l, e, bar_list])
theorem idx4 (x : List UInt8) : Go.Lib.idxOfS wd4 (bar x) = kdI x := by
  have e0 : (⟨#[]⟩ : ByteArray) = bar [] := rfl
  have e1 : (⟨#[105, 110, 115, 101, 114, 116]⟩ : ByteArray) = bar insL := rfl
  have e2 : (⟨#[115, 116, 114, 105, 107, 101]⟩ : ByteArray) = bar stkL := rfl
  have e3 : (⟨#[114, 101, 112, 108, 97, 99, 101]⟩ : ByteArray) = bar repL := rfl
  unfold Go.Lib.idxOfS wd4
  rw [e0, e1, e2, e3]
  unfold kdI
  by_cases h0 : x = []
  · subst h0; rw [if_pos rfl]; simp [Go.Lib.idxFromS]
  have n0 := bar_ne (Ne.symm h0)
  rw [if_neg h0]
  by_cases h1 : x = insL
  · subst h1; rw [if_pos rfl]; simp [Go.Lib.idxFromS, n0]
  have n1 := bar_ne (Ne.symm h1)
  rw [if_neg h1]
  by_cases h2 : x = stkL
  · subst h2; rw [if_pos rfl]; simp [Go.Lib.idxFromS, n0, n1]
  have n2 := bar_ne (Ne.symm h2)
  rw [if_neg h2]
  by_cases h3 : x = repL
  · subst h3; rw [if_pos rfl]; simp [Go.Lib.idxFromS, n0, n1, n2]
  have n3 := bar_ne (Ne.symm h3)
  rw [if_neg h3]
  simp [Go.Lib.idxFromS, n0, n1, n2, n3]
theorem index4_any (x : List UInt8) (w : World) (h : Wds4 w) : Calls Tryz.prog 33 #[.slice (some ⟨0, 0, none⟩) 4 4, .string (bar x)] w fun e w' => e = .returned (.int .i64 (kdI x)) ∧ w = w' := by
  refine (Tryz.slices_Index_string 0 0 4 4 wd4 (bar x) w (by decide) (by decide) (fun j hj => ?_)).mono ?_
  · obtain ⟨⟨_, h1, h2, h3⟩, h0⟩ := h
    have hj4 : j < 4 := hj
    rcases (show j = 0 ∨ j = 1 ∨ j = 2 ∨ j = 3 by omega) with rfl | rfl | rfl | rfl
    · exact h0
    · exact h1
    · exact h2
    · exact h3
  · rintro e w' ⟨rfl, rfl⟩
    have e4 : wd4.take 4 = wd4 := rfl
    rw [e4, idx4]
    exact ⟨rfl, rfl⟩
theorem line_any {lo hi : Nat} (A : Option Addr) (c : Nat) (a : Amd) (w : World) (h : OwS lo hi w A c a.ws) (hv : vldA a = true) (hW : Wds w) : Calls Tryz.prog 29 #[.agg #[.int .i64 a.k, .int .i64 a.p, .int .i64 a.n, .slice A a.ws.length c]] w fun e w' => e = .returned (.string (aline a)) ∧ Below w.heap.size w w' := by
  obtain ⟨k, p, n, ws⟩ := a
  obtain ⟨p0, p1, hk, h5, h10⟩ := vldA_parts hv
  simp only at p0 p1 hk h5 h10 h ⊢
  obtain ⟨pn, rfl⟩ : ∃ x : Nat, p = (x : Int) := ⟨p.toNat, by omega⟩
  obtain ⟨nn, rfl⟩ : ∃ x : Nat, n = (x : Int) := ⟨n.toNat, by omega⟩
  have e : ∀ k : Int, aline ⟨k, (pn : Int), (nn : Int), ws⟩ = headS k nn ++ atB ++ dec pn ++ wlF ws ws.length := fun k => rfl
  rw [e]
  rcases hk with ⟨rfl, _, hl⟩ | ⟨rfl, _, _, hl⟩ | ⟨rfl, _, _, hl⟩
  · exact amendmentLine_1 A c pn nn ws w (by omega) (by omega) h.rd (fun h0 => own_form h h0) (by omega) h5 h10 hW
  · exact amendmentLine_2 A c pn nn ws w (by omega) (by omega) h.rd (fun h0 => own_form h h0) (by omega) h5 h10 hW
  · exact amendmentLine_3 A c pn nn ws w (by omega) (by omega) h.rd (fun h0 => own_form h h0) (by omega) h5 h10 hW
theorem sline_any {lo hi : Nat} (A : Option Addr) (c : Nat) (a : Amd) (w : World) (h : OwS lo hi w A c a.ws) (hv : vldA a = true) : Calls Tryz.prog 35 #[.agg #[.int .i64 a.k, .int .i64 a.p, .int .i64 a.n, .slice A a.ws.length c]] w fun e w' => e = .returned (.string (aline a)) ∧ Below w.heap.size w w' := by
  obtain ⟨k, p, n, ws⟩ := a
  obtain ⟨p0, p1, hk, h5, h10⟩ := vldA_parts hv
  simp only at p0 p1 hk h5 h10 h ⊢
  obtain ⟨pn, rfl⟩ : ∃ x : Nat, p = (x : Int) := ⟨p.toNat, by omega⟩
  obtain ⟨nn, rfl⟩ : ∃ x : Nat, n = (x : Int) := ⟨n.toNat, by omega⟩
  have e : ∀ k : Int, aline ⟨k, (pn : Int), (nn : Int), ws⟩ = headS k nn ++ atB ++ dec pn ++ wlF ws ws.length := fun k => rfl
  rw [e]
  rcases hk with ⟨rfl, _, hl⟩ | ⟨rfl, _, _, hl⟩ | ⟨rfl, _, _, hl⟩
  · exact l9Line_1 A c pn nn ws w (by omega) (by omega) h.rd (by omega) (by omega) h10
  · exact l9Line_2 A c pn nn ws w (by omega) (by omega) h.rd (by omega) (by omega) h10
  · exact l9Line_3 A c pn nn ws w (by omega) (by omega) h.rd (by omega) (by omega) h10
def amR (o : Option Amd) : Amd := o.getD ⟨0, 0, 0, []⟩
def amB (o : Option Amd) : Bool := o.isSome
/-- A call that returns an amendment and whether there is one. -/
def AmTo (w : World) (a : Amd) (ok : Bool) (e : Ending) (w' : World) : Prop := ∃ (A : Option Addr) (c : Nat), e = .returned (.tuple #[.agg #[.int .i64 a.k, .int .i64 a.p, .int .i64 a.n, .slice A a.ws.length c], .bool ok]) ∧ OwS w.heap.size w'.heap.size w' A c a.ws ∧ Below w.heap.size w w'
theorem owd_ows {lo : Nat} {w : World} {A : Option Addr} {c : Nat} {ss : List ByteArray} (h : OwD StrK 9 lo w A c ss) : OwS lo w.heap.size w A c ss := ⟨by have h1 := h.1; rw [row_strs] at h1; exact h1, h.2.1, h.2.2⟩
theorem amTo_no {w w' : World} {o : Option Amd} (h : o = none) (hb : Below w.heap.size w w') : AmTo w (amR o) (amB o) (.returned (.tuple #[.agg #[.int .i64 0, .int .i64 0, .int .i64 0, .slice none 0 0], .bool false])) w' := by
  rw [h]
  exact ⟨none, 0, rfl, ⟨⟨by simp [strs, amR], .inl ⟨rfl, rfl⟩⟩, (fun a h => (by cases h)), by simp [amR], (fun x h => (by simp [amR] at h))⟩, hb⟩
theorem amTo_yes {w w' : World} {o : Option Amd} {k p n : Int} {A : Option Addr} {c : Nat} {ss : List ByteArray} (h : o = some ⟨k, p, n, ss⟩) (hx : OwD StrK 9 w.heap.size w' A c ss) (hb : Below w.heap.size w w') : AmTo w (amR o) (amB o) (.returned (.tuple #[.agg #[.int .i64 k, .int .i64 p, .int .i64 n, .slice A ss.length c], .bool true])) w' := by
  rw [h]
  exact ⟨A, c, rfl, owd_ows hx, hb⟩
theorem OwP.puts {lo q : Nat} {w : World} {O : Option Addr} {oc : Nat} {ps : List ByteArray} {T : TypeId} (h : OwP lo w O oc ps) (ht : Ty w q T) (hne : 9 ≠ T) : ∀ (o : Nat) (vs : List Value), OwP lo (w.setCells q o vs) O oc ps := by
  intro o vs
  induction vs generalizing o w with
  | nil => exact h
  | cons v vs ih => exact ih ⟨ownsRow_setCell_other h.1 (by obtain ⟨cs, fr, hx⟩ := ht; exact own_off_type h.1 hx hne) v, h.2⟩ (ht.set _ v) (o + 1)
theorem OwP.set {lo q : Nat} {w : World} {O : Option Addr} {oc : Nat} {ps : List ByteArray} {T : TypeId} (h : OwP lo w O oc ps) (ht : Ty w q T) (hne : 9 ≠ T) (k : Nat) (u : Value) : OwP lo (w.setCell ⟨q, k, none⟩ u) O oc ps := h.puts ht hne k [u]
theorem Lst.set {w0 w : World} {A : Option Addr} {n : Nat} (h : Lst w0 w A n) (p : Addr) (hp : w0.heap.size ≤ p.block) (v : Value) : Lst w0 (w.setCell p v) A n := ⟨h.on.setCell hp v, h.by0⟩
theorem lst0 (w : World) : Lst w w none 0 := ⟨Below.refl _ _, fun i hi => absurd hi (by omega)⟩
theorem results_cell_tmp {fn : Func} {p u : Tmp} {ty : TypeId} (h : fn.results = #[.cell p ty, .tmp u]) (tmps : Array Value) (P : Program) (w : World) :
    (results fn tmps).run P w = ((asAddr (tmps.getD p undef)).run P w).andThen fun a w1 => ((loadVar ty a).run P w1).andThen fun v w2 => .ok (.tuple #[v, tmps.getD u undef]) w2 := by
  simp only [results, h]
  simp [Sem.run_bind, Result.andThen]
theorem validF {lo hi : Nat} (A : Option Addr) (c : Nat) (k p n : Int) (ss : List ByteArray) (w : World) (h : OwS lo hi w A c ss) : Calls Tryz.prog 28 #[.agg #[.int .i64 k, .int .i64 p, .int .i64 n, .slice A ss.length c]] w fun e w' => e = .returned (.bool (vldA ⟨k, p, n, ss⟩)) ∧ Below w.heap.size w w' := IsValidAmendment_any A c ⟨k, p, n, ss⟩ w h.rd.cells h.2.2
theorem goodF {lo hi : Nat} (A : Option Addr) (c : Nat) (k p n : Int) (ss : List ByteArray) (w : World) (h : OwS lo hi w A c ss) : Calls Tryz.prog 34 #[.agg #[.int .i64 k, .int .i64 p, .int .i64 n, .slice A ss.length c]] w fun e w' => e = .returned (.bool (vldA ⟨k, p, n, ss⟩)) ∧ Below w.heap.size w w' := l9Good_any A c ⟨k, p, n, ss⟩ w h.rd.cells h.2.2
theorem lineF {lo hi : Nat} (A : Option Addr) (c : Nat) (k p n : Int) (ss : List ByteArray) (w : World) (h : OwS lo hi w A c ss) (hv : vldA ⟨k, p, n, ss⟩ = true) (hW : Wds w) : Calls Tryz.prog 29 #[.agg #[.int .i64 k, .int .i64 p, .int .i64 n, .slice A ss.length c]] w fun e w' => e = .returned (.string (aline ⟨k, p, n, ss⟩)) ∧ Below w.heap.size w w' := line_any A c ⟨k, p, n, ss⟩ w h hv hW
theorem slineF {lo hi : Nat} (A : Option Addr) (c : Nat) (k p n : Int) (ss : List ByteArray) (w : World) (h : OwS lo hi w A c ss) (hv : vldA ⟨k, p, n, ss⟩ = true) : Calls Tryz.prog 35 #[.agg #[.int .i64 k, .int .i64 p, .int .i64 n, .slice A ss.length c]] w fun e w' => e = .returned (.string (aline ⟨k, p, n, ss⟩)) ∧ Below w.heap.size w w' := sline_any A c ⟨k, p, n, ss⟩ w h hv
theorem finA_b {l : List UInt8} {f : Int → Int → Amd} {p n : Option Int} (h : (bI p && bI n) = false) : finA l f p n = none := by
  cases p with
  | none => rfl
  | some p => cases n with
    | none => rfl
    | some n => cases h
theorem finA_t {l : List UInt8} {f : Int → Int → Amd} {p n : Option Int} (h : (bI p && bI n) = true) : finA l f p n = if vldA (f (nI p) (nI n)) = true ∧ alL (f (nI p) (nI n)) = l then some (f (nI p) (nI n)) else none := by
  cases p with
  | none => cases h
  | some p => cases n with
    | none => cases h
    | some n => rfl
end Go.Proofs.YtnnphhhjkhoglaaGreatDoor
namespace Go.Proofs.YtnnphhhjkhoglaaGreatDoor
open Go.RowKit
set_option linter.unusedVariables false
set_option linter.unusedSimpArgs false
attribute [local go_sem ↓] Go.wp_at_zero Go.wp_at_succ
set_option maxRecDepth 100000 in
set_option maxHeartbeats 16000000 in
theorem ParseAmendment_any (s : ByteArray) (w : World) (hs : s.size ≤ 1048576) (h : Cx w) (h4 : Wds4 w) : Calls Tryz.prog 14 #[.string s] w (AmTo w (amR (amI s.data.toList)) (amB (amI s.data.toList))) := by
  have hsl : s.data.toList.length = s.size := Array.length_toList
  have hb1 := below1 w (.cells #[.int .i64 0, .int .i64 0, .int .i64 0, .slice none 0 0] 35)
  have S := Lib.hid ((lst0 w).call hb1)
  have Z := Lib.hid (BT.new w #[.int .i64 0, .int .i64 0, .int .i64 0, .slice none 0 0] 35 w.heap.size rfl)
  have HC := Lib.hid h
  have H4 := Lib.hid h4
  obtain ⟨cl1, cl2⟩ := cut_len s.data.toList
  obtain ⟨hd, hhd⟩ : ∃ x, Hid ((Go.Lib.cut s.data.toList [58, 32]).1 = x) := ⟨_, Lib.hid rfl⟩
  obtain ⟨rs, hrs⟩ : ∃ x, Hid ((Go.Lib.cut s.data.toList [58, 32]).2.1 = x) := ⟨_, Lib.hid rfl⟩
  obtain ⟨fd, hfd⟩ : ∃ x, Hid ((Go.Lib.cut s.data.toList [58, 32]).2.2 = x) := ⟨_, Lib.hid rfl⟩
  rw [hhd.out] at cl1
  rw [hrs.out] at cl2
  obtain ⟨wd, hwd⟩ : ∃ x, Hid (wdI s.data.toList = x) := ⟨_, Lib.hid rfl⟩
  have hws : Hid (spl 32 hd = wd) := Lib.hid (by rw [← hwd.out, ← hhd.out]; rfl)
  have h1n : 1 ≤ wd.length := by rw [← hws.out]; exact spl_pos _ _
  have h2n : wd.length ≤ 1048577 := by (have h9 := spl_len 32 hd []); rw [← hws.out]; unfold spl; omega
  have CL1 := Lib.hid (show hd.length ≤ 1048576 by omega)
  have CL2 := Lib.hid (show rs.length ≤ 1048575 by omega)
  have HWM : Hid (∀ x ∈ wd, x.length ≤ 1048576) := Lib.hid (fun x hx => by rw [← hws.out] at hx; have := spl_mem hx; omega)
  obtain ⟨ph, hph⟩ : ∃ x, Hid (phI s.data.toList = x) := ⟨_, Lib.hid rfl⟩
  have HPH : Hid (ph = if fd = true then (spl 32 rs).map bar else []) := Lib.hid (by rw [← hph.out, ← hfd.out, ← hrs.out]; rfl)
  clear h h4 hb1 cl1 cl2
  go_enter Tryz.func14, Tryz.ntmps14
  go_upto_region 1 with fail
  generalize (w.alloc (.cells #[.int .i64 0, .int .i64 0, .int .i64 0, .slice none 0 0] 35)) = v1 at *
  go_wp2_with fail
  refine (cut2_any s v1 hs (HC.out.below S.out.on).lib).mono ?_
  rintro e v2 ⟨rfl, hb⟩
  replace S := Lib.hid (S.out.call hb)
  replace Z := Lib.hid (Z.out.call hb)
  rw [hhd.out, hrs.out, hfd.out]
  clear hb 
  have hlo := S.out.sz
  go_wp2_with fail
  refine (splitL_any 32 (bar hd) v2 (by rw [bar_size]; exact CL1.out) (HC.out.below S.out.on).lib).mono ?_
  rintro e v3 ⟨O, oc, ps, rfl, hps, own, hb⟩
  rw [bar_list, hws.out] at hps
  have hpl : ps.length = wd.length := by rw [hps, List.length_map]
  replace S := Lib.hid (S.out.call hb)
  replace Z := Lib.hid (Z.out.call hb)
  have WP := Lib.hid (show OwP w.heap.size v3 O oc ps from ⟨own_mono own.1 hlo, own.2⟩)
  have HP := Lib.hid hps
  rw [hpl]
  clear hb own hlo hps
  have HPL := Lib.hid hpl
  clear hpl
  obtain ⟨n, hn⟩ : ∃ n, wd.length = n := ⟨_, rfl⟩
  rw [hn] at h1n h2n ⊢
  have HN := Lib.hid hn
  clear hn
  have hl1 : n - 1 < wd.length := by have := HN.out; omega
  obtain ⟨g, hO, hc⟩ := str_cell WP.out HP.out hl1
  subst hO
  obtain ⟨xl, hxl⟩ : ∃ x, Hid (wd.getD (n - 1) [] = x) := ⟨_, Lib.hid rfl⟩
  have hx2 : wd[n - 1] = xl := by rw [← hxl.out, List.getD_eq_getElem?_getD, List.getElem?_eq_getElem hl1]; rfl
  have hxm : xl.length ≤ 1048576 := by rw [← hx2]; exact HWM.out _ (List.getElem_mem hl1)
  rw [hx2] at hc
  clear hx2 hl1
  have q1 : IntKind.i64.wrap ((n : Int) - 1) = ((n - 1 : Nat) : Int) := by rw [IntKind.wrap_i64]; omega
  have q2 : (0 : Int) ≤ ((n - 1 : Nat) : Int) := by omega
  have q3 : ((n - 1 : Nat) : Int) < (n : Int) := by omega
  have q4 : ((n - 1 : Nat) : Int).toNat = n - 1 := by omega
  go_wp2_with fail
  refine (ParseInt_any (bar xl) v3 (by rw [bar_size]; unfold maxLen; omega) (HC.out.below S.out.on)).mono ?_
  rintro e v4 ⟨rfl, hb⟩
  replace S := Lib.hid (S.out.call hb)
  replace Z := Lib.hid (Z.out.call hb)
  replace WP := Lib.hid (WP.out.call hb)
  rw [bar_list, optI_eq]
  clear hb hc hxm
  obtain ⟨oP, hoP⟩ : ∃ o, Hid (piV xl = o) := ⟨_, Lib.hid rfl⟩
  rw [hoP.out]
  obtain ⟨pv, hpv⟩ : ∃ y, Hid (nI oP = y) := ⟨_, Lib.hid rfl⟩
  obtain ⟨pb, hpb⟩ : ∃ y, Hid (bI oP = y) := ⟨_, Lib.hid rfl⟩
  rw [hpv.out, hpb.out]
  clear q1 q2 q3 q4
  obtain ⟨x0, hx0⟩ : ∃ x, Hid (wd.getD 0 [] = x) := ⟨_, Lib.hid rfl⟩
  have HL0 : Hid (0 < wd.length) := Lib.hid (by have := HN.out; omega)
  have HX2 : Hid (wd[0]'HL0.out = x0) := Lib.hid (by rw [← hx0.out, List.getD_eq_getElem?_getD, List.getElem?_eq_getElem HL0.out]; rfl)
  have i0 : (0 : Int) < (n : Int) := by omega
  have i00 : 0 < n := by omega
  have KX : ∀ {w'' : World}, OwP w.heap.size w'' (some ⟨g, 0, none⟩) oc ps → w''.cell? ⟨g, 0, none⟩ = some (.string (bar x0)) := fun h => by (obtain ⟨g3, h3, h4⟩ := str_cell h HP.out HL0.out); cases h3; rw [HX2.out] at h4; exact h4
  obtain ⟨kd, hkd⟩ : ∃ y, Hid (kdI x0 = y) := ⟨_, Lib.hid rfl⟩
  go_upto_region 4 with fail
  go_cut [10] (fun u wx => ∃ (q g2 : Nat), u = .pointer (some ⟨q, 0, none⟩) ∧ w.heap.size < q ∧ Hid (Lst w wx none 0) ∧ Hid (BT wx w.heap.size 35 [.int .i64 0, .int .i64 0, .int .i64 0, .slice none 0 0]) ∧ Hid (OwP w.heap.size wx (some ⟨g, 0, none⟩) oc ps) ∧ Hid (BT wx q 35 [.int .i64 kd, .int .i64 pv, .int .i64 0, .slice (some ⟨g2, 0, none⟩) 0 0]) ∧ Hid (OwD StrK 9 w.heap.size wx (some ⟨g2, 0, none⟩) 0 []))
  case first =>
    refine wp_region_noPanic ?_
    refine wp_region_held_drew (S := (fun w'' => w''.cell? ⟨g, 0, none⟩ = some (.string (bar x0)))) (by kernel_rfl) ?_ (fun hHeld => ?_)
    · ((try dsimp only); exact KX (WP.out.call (Below.refl _ _).drew))
    replace S := Lib.hid (S.out.call (show Below v4.heap.size v4 v4.drew from (Below.refl _ _).drew))
    replace Z := Lib.hid (Z.out.call (show Below v4.heap.size v4 v4.drew from (Below.refl _ _).drew))
    replace WP := Lib.hid (WP.out.call (show Below v4.heap.size v4 v4.drew from (Below.refl _ _).drew))
    generalize v4.drew = v5 at *
    refine take_yes (i := 0) (d := 31) (v := ?_) rfl rfl (by kernel_rfl) (by kernel_rfl) (by kernel_rfl) (fun _ _ _ h => h) (by kernel_rfl) ?_ hHeld ?_
    rotate_left
    · (intro w hSw; (try dsimp only at hSw); go_simp; try (with_reducible rfl))
    try simp only [Act.put, List.setIfInBounds_toArray, List.set_cons_zero, List.set_cons_succ]
    refine take_yes (i := 1) (d := 32) (v := ?_) rfl rfl (by kernel_rfl) (by kernel_rfl) (by kernel_rfl) (fun _ _ _ h => h) (by kernel_rfl) ?_ hHeld ?_
    rotate_left
    · (intro w hSw; (try dsimp only at hSw); go_simp; try (with_reducible rfl))
    try simp only [Act.put, List.setIfInBounds_toArray, List.set_cons_zero, List.set_cons_succ]
    refine take_yes (i := 2) (d := 33) (v := ?_) rfl rfl (by kernel_rfl) (by kernel_rfl) (by kernel_rfl) (fun _ _ _ h => h) (by kernel_rfl) ?_ hHeld ?_
    rotate_left
    · (intro w hSw; (try dsimp only at hSw); go_simp; try (with_reducible rfl))
    try simp only [Act.put, List.setIfInBounds_toArray, List.set_cons_zero, List.set_cons_succ]
    refine take_yes (i := 3) (d := 34) (v := ?_) rfl rfl (by kernel_rfl) (by kernel_rfl) (by kernel_rfl) (fun _ _ _ h => h) (by kernel_rfl) ?_ hHeld ?_
    rotate_left
    · (intro w hSw; (try dsimp only at hSw); go_simp; try (with_reducible rfl))
    try simp only [Act.put, List.setIfInBounds_toArray, List.set_cons_zero, List.set_cons_succ]
    refine take_yes (i := 5) (d := 36) (v := ?_) rfl rfl (by kernel_rfl) (by kernel_rfl) (by kernel_rfl) (fun _ _ _ h => h) (by kernel_rfl) ?_ hHeld ?_
    rotate_left
    · (intro w hSw; (try dsimp only at hSw); go_simp; try (with_reducible rfl))
    try simp only [Act.put, List.setIfInBounds_toArray, List.set_cons_zero, List.set_cons_succ]
    refine wpAnyH_ready (rs := [4, 6, 8]) (by kernel_rfl) (by simp) ?_
    refine AllReadyH.cons rfl (fun K hK => ?_) (AllReadyH.cons rfl (fun K hK => ?_) (AllReadyH.cons rfl (fun K hK => ?_) (AllReadyH.nil)))
    · skip
      go_simp
      (go_at_call 33; refine (index4_any x0 _ (H4.out.below S.out.on)).mono ?_; rintro e w9 ⟨rfl, hw9⟩; rw [hkd.out]; subst hw9)
      (first | refine hK.out _ _ ?_ (fun hHeld1 => ?_) | (go_wp2_with fail; refine hK.out _ _ ?_ (fun hHeld1 => ?_)))
      · ((try dsimp only); exact KX WP.out)
      clear hK K hHeld
      have hHeld := hHeld1
      clear hHeld1
      try simp only [Act.put, List.setIfInBounds_toArray, List.set_cons_zero, List.set_cons_succ]
      refine wpAnyH_ready (rs := [6, 8]) (by kernel_rfl) (by simp) ?_
      refine AllReadyH.cons rfl (fun K hK => ?_) (AllReadyH.cons rfl (fun K hK => ?_) (AllReadyH.nil))
      · skip
        try go_simp
        have hbl := below1 v5 (.cells #[] 9)
        have NW := Lib.hid (show OwD StrK 9 w.heap.size (v5.alloc (.cells #[] 9)) (some ⟨v5.heap.size, 0, none⟩) 0 [] from Ow.mk (K := StrK) (own_nil_lit v5 w.heap.size v5.heap.size 9 1 rfl S.out.sz) (by simp) (by simp))
        replace S := Lib.hid (S.out.call hbl)
        replace Z := Lib.hid (Z.out.call hbl)
        replace WP := Lib.hid (WP.out.call hbl)
        clear hbl
        (first | refine hK.out _ _ ?_ (fun hHeld1 => ?_) | (go_wp2_with fail; refine hK.out _ _ ?_ (fun hHeld1 => ?_)))
        · ((try dsimp only); exact KX WP.out)
        clear hK K hHeld
        have hHeld := hHeld1
        clear hHeld1
        try simp only [Act.put, List.setIfInBounds_toArray, List.set_cons_zero, List.set_cons_succ]
        generalize (v5.alloc (.cells #[] 9)) = v6 at *
        generalize v5.heap.size = g2 at *
        refine take_yes (i := 7) (d := 38) (v := ?_) rfl rfl (by kernel_rfl) (by kernel_rfl) (by kernel_rfl) (fun _ _ _ h => h) (by kernel_rfl) ?_ hHeld ?_
        rotate_left
        · (intro w hSw; (try dsimp only at hSw); go_simp; try (with_reducible rfl))
        try simp only [Act.put, List.setIfInBounds_toArray, List.set_cons_zero, List.set_cons_succ]
        refine wpAnyH_ready (rs := [8]) (by kernel_rfl) (by simp) ?_
        refine AllReadyH.cons rfl (fun K hK => ?_) (AllReadyH.nil)
        try go_simp
        have hqz := Z.out.lt
        have hbl := below1 v6 (.cells #[.int .i64 0, .int .i64 0, .int .i64 0, .slice none 0 0] 35)
        have T := Lib.hid (BT.new v6 #[.int .i64 0, .int .i64 0, .int .i64 0, .slice none 0 0] 35 v6.heap.size rfl)
        replace S := Lib.hid (S.out.call hbl)
        replace Z := Lib.hid (Z.out.call hbl)
        replace WP := Lib.hid (WP.out.call hbl)
        replace NW := Lib.hid (NW.out.call hbl)
        clear hbl
        (first | refine hK.out _ _ ?_ (fun hHeld1 => ?_) | (go_wp2_with fail; refine hK.out _ _ ?_ (fun hHeld1 => ?_)))
        · ((try dsimp only); exact KX WP.out)
        clear hK K hHeld
        have hHeld := hHeld1
        clear hHeld1
        try simp only [Act.put, List.setIfInBounds_toArray, List.set_cons_zero, List.set_cons_succ]
        generalize (v6.alloc (.cells #[.int .i64 0, .int .i64 0, .int .i64 0, .slice none 0 0] 35)) = v7 at *
        generalize v6.heap.size = q at *
        refine wpAnyH_ready (rs := [9]) (by kernel_rfl) (by simp) ?_
        refine AllReadyH.cons rfl (fun K hK => ?_) (AllReadyH.nil)
        have hsc : v7.setCells q 0 (#[.int .i64 kd, .int .i64 pv, .int .i64 0, .slice (some ⟨g2, 0, none⟩) 0 0] : Array Value).toList = v7.setCells q 0 [.int .i64 kd, .int .i64 pv, .int .i64 0, .slice (some ⟨g2, 0, none⟩) 0 0] := rfl
        have hsz := S.out.sz
        rw [if_pos (by kernel_rfl)]
        refine wp_store_mid 35 _ _ (by rfl) q 0 #[.int .i64 kd, .int .i64 pv, .int .i64 0, .slice (some ⟨g2, 0, none⟩) 0 0] (by rfl) (by rfl) T.out.there (by kernel_rfl) (by simp [Value.oneCell']) ?_
        rw [hsc]
        clear hsc
        replace S := Lib.hid (S.out.puts (q := q) (by omega) 0 [.int .i64 kd, .int .i64 pv, .int .i64 0, .slice (some ⟨g2, 0, none⟩) 0 0])
        replace Z := Lib.hid (Z.out.putsfar q (by omega) 0 [.int .i64 kd, .int .i64 pv, .int .i64 0, .slice (some ⟨g2, 0, none⟩) 0 0])
        replace WP := Lib.hid (WP.out.puts T.out.ty (by decide) 0 [.int .i64 kd, .int .i64 pv, .int .i64 0, .slice (some ⟨g2, 0, none⟩) 0 0])
        replace NW := Lib.hid (NW.out.puts T.out.ty (by decide) 0 [.int .i64 kd, .int .i64 pv, .int .i64 0, .slice (some ⟨g2, 0, none⟩) 0 0])
        replace T := Lib.hid (T.out.puts [.int .i64 kd, .int .i64 pv, .int .i64 0, .slice (some ⟨g2, 0, none⟩) 0 0] (by rfl))
        (first | refine hK.out _ _ ?_ (fun hHeld1 => ?_) | (go_wp2_with fail; refine hK.out _ _ ?_ (fun hHeld1 => ?_)))
        · ((try dsimp only); exact KX WP.out)
        clear hK K hHeld
        have hHeld := hHeld1
        clear hHeld1
        try simp only [Act.put, List.setIfInBounds_toArray, List.set_cons_zero, List.set_cons_succ]
        generalize (v7.setCells q 0 [.int .i64 kd, .int .i64 pv, .int .i64 0, .slice (some ⟨g2, 0, none⟩) 0 0]) = v8 at *
        refine wpAnyH_done (by kernel_rfl) ?_ _
        refine NoPanic.normal ?_
        clear hHeld KX
        go_wp2_with fail
        go_meet
        exact ⟨q, g2, rfl, hqz, S, Z, WP, T, NW⟩
      · skip
        try go_simp
        have hqz := Z.out.lt
        have hbl := below1 v5 (.cells #[.int .i64 0, .int .i64 0, .int .i64 0, .slice none 0 0] 35)
        have T := Lib.hid (BT.new v5 #[.int .i64 0, .int .i64 0, .int .i64 0, .slice none 0 0] 35 v5.heap.size rfl)
        replace S := Lib.hid (S.out.call hbl)
        replace Z := Lib.hid (Z.out.call hbl)
        replace WP := Lib.hid (WP.out.call hbl)
        clear hbl
        (first | refine hK.out _ _ ?_ (fun hHeld1 => ?_) | (go_wp2_with fail; refine hK.out _ _ ?_ (fun hHeld1 => ?_)))
        · ((try dsimp only); exact KX WP.out)
        clear hK K hHeld
        have hHeld := hHeld1
        clear hHeld1
        try simp only [Act.put, List.setIfInBounds_toArray, List.set_cons_zero, List.set_cons_succ]
        generalize (v5.alloc (.cells #[.int .i64 0, .int .i64 0, .int .i64 0, .slice none 0 0] 35)) = v9 at *
        generalize v5.heap.size = q at *
        refine wpAnyH_ready (rs := [6]) (by kernel_rfl) (by simp) ?_
        refine AllReadyH.cons rfl (fun K hK => ?_) (AllReadyH.nil)
        try go_simp
        have hbl := below1 v9 (.cells #[] 9)
        have NW := Lib.hid (show OwD StrK 9 w.heap.size (v9.alloc (.cells #[] 9)) (some ⟨v9.heap.size, 0, none⟩) 0 [] from Ow.mk (K := StrK) (own_nil_lit v9 w.heap.size v9.heap.size 9 1 rfl S.out.sz) (by simp) (by simp))
        replace S := Lib.hid (S.out.call hbl)
        replace Z := Lib.hid (Z.out.call hbl)
        replace WP := Lib.hid (WP.out.call hbl)
        replace T := Lib.hid (T.out.call hbl)
        clear hbl
        (first | refine hK.out _ _ ?_ (fun hHeld1 => ?_) | (go_wp2_with fail; refine hK.out _ _ ?_ (fun hHeld1 => ?_)))
        · ((try dsimp only); exact KX WP.out)
        clear hK K hHeld
        have hHeld := hHeld1
        clear hHeld1
        try simp only [Act.put, List.setIfInBounds_toArray, List.set_cons_zero, List.set_cons_succ]
        generalize (v9.alloc (.cells #[] 9)) = v10 at *
        generalize v9.heap.size = g2 at *
        refine take_yes (i := 7) (d := 38) (v := ?_) rfl rfl (by kernel_rfl) (by kernel_rfl) (by kernel_rfl) (fun _ _ _ h => h) (by kernel_rfl) ?_ hHeld ?_
        rotate_left
        · (intro w hSw; (try dsimp only at hSw); go_simp; try (with_reducible rfl))
        try simp only [Act.put, List.setIfInBounds_toArray, List.set_cons_zero, List.set_cons_succ]
        refine wpAnyH_ready (rs := [9]) (by kernel_rfl) (by simp) ?_
        refine AllReadyH.cons rfl (fun K hK => ?_) (AllReadyH.nil)
        have hsc : v10.setCells q 0 (#[.int .i64 kd, .int .i64 pv, .int .i64 0, .slice (some ⟨g2, 0, none⟩) 0 0] : Array Value).toList = v10.setCells q 0 [.int .i64 kd, .int .i64 pv, .int .i64 0, .slice (some ⟨g2, 0, none⟩) 0 0] := rfl
        have hsz := S.out.sz
        rw [if_pos (by kernel_rfl)]
        refine wp_store_mid 35 _ _ (by rfl) q 0 #[.int .i64 kd, .int .i64 pv, .int .i64 0, .slice (some ⟨g2, 0, none⟩) 0 0] (by rfl) (by rfl) T.out.there (by kernel_rfl) (by simp [Value.oneCell']) ?_
        rw [hsc]
        clear hsc
        replace S := Lib.hid (S.out.puts (q := q) (by omega) 0 [.int .i64 kd, .int .i64 pv, .int .i64 0, .slice (some ⟨g2, 0, none⟩) 0 0])
        replace Z := Lib.hid (Z.out.putsfar q (by omega) 0 [.int .i64 kd, .int .i64 pv, .int .i64 0, .slice (some ⟨g2, 0, none⟩) 0 0])
        replace WP := Lib.hid (WP.out.puts T.out.ty (by decide) 0 [.int .i64 kd, .int .i64 pv, .int .i64 0, .slice (some ⟨g2, 0, none⟩) 0 0])
        replace NW := Lib.hid (NW.out.puts T.out.ty (by decide) 0 [.int .i64 kd, .int .i64 pv, .int .i64 0, .slice (some ⟨g2, 0, none⟩) 0 0])
        replace T := Lib.hid (T.out.puts [.int .i64 kd, .int .i64 pv, .int .i64 0, .slice (some ⟨g2, 0, none⟩) 0 0] (by rfl))
        (first | refine hK.out _ _ ?_ (fun hHeld1 => ?_) | (go_wp2_with fail; refine hK.out _ _ ?_ (fun hHeld1 => ?_)))
        · ((try dsimp only); exact KX WP.out)
        clear hK K hHeld
        have hHeld := hHeld1
        clear hHeld1
        try simp only [Act.put, List.setIfInBounds_toArray, List.set_cons_zero, List.set_cons_succ]
        generalize (v10.setCells q 0 [.int .i64 kd, .int .i64 pv, .int .i64 0, .slice (some ⟨g2, 0, none⟩) 0 0]) = v11 at *
        refine wpAnyH_done (by kernel_rfl) ?_ _
        refine NoPanic.normal ?_
        clear hHeld KX
        go_wp2_with fail
        go_meet
        exact ⟨q, g2, rfl, hqz, S, Z, WP, T, NW⟩
    · skip
      try go_simp
      have hbl := below1 v5 (.cells #[] 9)
      have NW := Lib.hid (show OwD StrK 9 w.heap.size (v5.alloc (.cells #[] 9)) (some ⟨v5.heap.size, 0, none⟩) 0 [] from Ow.mk (K := StrK) (own_nil_lit v5 w.heap.size v5.heap.size 9 1 rfl S.out.sz) (by simp) (by simp))
      replace S := Lib.hid (S.out.call hbl)
      replace Z := Lib.hid (Z.out.call hbl)
      replace WP := Lib.hid (WP.out.call hbl)
      clear hbl
      (first | refine hK.out _ _ ?_ (fun hHeld1 => ?_) | (go_wp2_with fail; refine hK.out _ _ ?_ (fun hHeld1 => ?_)))
      · ((try dsimp only); exact KX WP.out)
      clear hK K hHeld
      have hHeld := hHeld1
      clear hHeld1
      try simp only [Act.put, List.setIfInBounds_toArray, List.set_cons_zero, List.set_cons_succ]
      generalize (v5.alloc (.cells #[] 9)) = v12 at *
      generalize v5.heap.size = g2 at *
      refine wpAnyH_ready (rs := [4, 8]) (by kernel_rfl) (by simp) ?_
      refine AllReadyH.cons rfl (fun K hK => ?_) (AllReadyH.cons rfl (fun K hK => ?_) (AllReadyH.nil))
      · skip
        go_simp
        (go_at_call 33; refine (index4_any x0 _ (H4.out.below S.out.on)).mono ?_; rintro e w9 ⟨rfl, hw9⟩; rw [hkd.out]; subst hw9)
        (first | refine hK.out _ _ ?_ (fun hHeld1 => ?_) | (go_wp2_with fail; refine hK.out _ _ ?_ (fun hHeld1 => ?_)))
        · ((try dsimp only); exact KX WP.out)
        clear hK K hHeld
        have hHeld := hHeld1
        clear hHeld1
        try simp only [Act.put, List.setIfInBounds_toArray, List.set_cons_zero, List.set_cons_succ]
        refine take_yes (i := 7) (d := 38) (v := ?_) rfl rfl (by kernel_rfl) (by kernel_rfl) (by kernel_rfl) (fun _ _ _ h => h) (by kernel_rfl) ?_ hHeld ?_
        rotate_left
        · (intro w hSw; (try dsimp only at hSw); go_simp; try (with_reducible rfl))
        try simp only [Act.put, List.setIfInBounds_toArray, List.set_cons_zero, List.set_cons_succ]
        refine wpAnyH_ready (rs := [8]) (by kernel_rfl) (by simp) ?_
        refine AllReadyH.cons rfl (fun K hK => ?_) (AllReadyH.nil)
        try go_simp
        have hqz := Z.out.lt
        have hbl := below1 v12 (.cells #[.int .i64 0, .int .i64 0, .int .i64 0, .slice none 0 0] 35)
        have T := Lib.hid (BT.new v12 #[.int .i64 0, .int .i64 0, .int .i64 0, .slice none 0 0] 35 v12.heap.size rfl)
        replace S := Lib.hid (S.out.call hbl)
        replace Z := Lib.hid (Z.out.call hbl)
        replace WP := Lib.hid (WP.out.call hbl)
        replace NW := Lib.hid (NW.out.call hbl)
        clear hbl
        (first | refine hK.out _ _ ?_ (fun hHeld1 => ?_) | (go_wp2_with fail; refine hK.out _ _ ?_ (fun hHeld1 => ?_)))
        · ((try dsimp only); exact KX WP.out)
        clear hK K hHeld
        have hHeld := hHeld1
        clear hHeld1
        try simp only [Act.put, List.setIfInBounds_toArray, List.set_cons_zero, List.set_cons_succ]
        generalize (v12.alloc (.cells #[.int .i64 0, .int .i64 0, .int .i64 0, .slice none 0 0] 35)) = v13 at *
        generalize v12.heap.size = q at *
        refine wpAnyH_ready (rs := [9]) (by kernel_rfl) (by simp) ?_
        refine AllReadyH.cons rfl (fun K hK => ?_) (AllReadyH.nil)
        have hsc : v13.setCells q 0 (#[.int .i64 kd, .int .i64 pv, .int .i64 0, .slice (some ⟨g2, 0, none⟩) 0 0] : Array Value).toList = v13.setCells q 0 [.int .i64 kd, .int .i64 pv, .int .i64 0, .slice (some ⟨g2, 0, none⟩) 0 0] := rfl
        have hsz := S.out.sz
        rw [if_pos (by kernel_rfl)]
        refine wp_store_mid 35 _ _ (by rfl) q 0 #[.int .i64 kd, .int .i64 pv, .int .i64 0, .slice (some ⟨g2, 0, none⟩) 0 0] (by rfl) (by rfl) T.out.there (by kernel_rfl) (by simp [Value.oneCell']) ?_
        rw [hsc]
        clear hsc
        replace S := Lib.hid (S.out.puts (q := q) (by omega) 0 [.int .i64 kd, .int .i64 pv, .int .i64 0, .slice (some ⟨g2, 0, none⟩) 0 0])
        replace Z := Lib.hid (Z.out.putsfar q (by omega) 0 [.int .i64 kd, .int .i64 pv, .int .i64 0, .slice (some ⟨g2, 0, none⟩) 0 0])
        replace WP := Lib.hid (WP.out.puts T.out.ty (by decide) 0 [.int .i64 kd, .int .i64 pv, .int .i64 0, .slice (some ⟨g2, 0, none⟩) 0 0])
        replace NW := Lib.hid (NW.out.puts T.out.ty (by decide) 0 [.int .i64 kd, .int .i64 pv, .int .i64 0, .slice (some ⟨g2, 0, none⟩) 0 0])
        replace T := Lib.hid (T.out.puts [.int .i64 kd, .int .i64 pv, .int .i64 0, .slice (some ⟨g2, 0, none⟩) 0 0] (by rfl))
        (first | refine hK.out _ _ ?_ (fun hHeld1 => ?_) | (go_wp2_with fail; refine hK.out _ _ ?_ (fun hHeld1 => ?_)))
        · ((try dsimp only); exact KX WP.out)
        clear hK K hHeld
        have hHeld := hHeld1
        clear hHeld1
        try simp only [Act.put, List.setIfInBounds_toArray, List.set_cons_zero, List.set_cons_succ]
        generalize (v13.setCells q 0 [.int .i64 kd, .int .i64 pv, .int .i64 0, .slice (some ⟨g2, 0, none⟩) 0 0]) = v14 at *
        refine wpAnyH_done (by kernel_rfl) ?_ _
        refine NoPanic.normal ?_
        clear hHeld KX
        go_wp2_with fail
        go_meet
        exact ⟨q, g2, rfl, hqz, S, Z, WP, T, NW⟩
      · skip
        try go_simp
        have hqz := Z.out.lt
        have hbl := below1 v12 (.cells #[.int .i64 0, .int .i64 0, .int .i64 0, .slice none 0 0] 35)
        have T := Lib.hid (BT.new v12 #[.int .i64 0, .int .i64 0, .int .i64 0, .slice none 0 0] 35 v12.heap.size rfl)
        replace S := Lib.hid (S.out.call hbl)
        replace Z := Lib.hid (Z.out.call hbl)
        replace WP := Lib.hid (WP.out.call hbl)
        replace NW := Lib.hid (NW.out.call hbl)
        clear hbl
        (first | refine hK.out _ _ ?_ (fun hHeld1 => ?_) | (go_wp2_with fail; refine hK.out _ _ ?_ (fun hHeld1 => ?_)))
        · ((try dsimp only); exact KX WP.out)
        clear hK K hHeld
        have hHeld := hHeld1
        clear hHeld1
        try simp only [Act.put, List.setIfInBounds_toArray, List.set_cons_zero, List.set_cons_succ]
        generalize (v12.alloc (.cells #[.int .i64 0, .int .i64 0, .int .i64 0, .slice none 0 0] 35)) = v15 at *
        generalize v12.heap.size = q at *
        refine wpAnyH_ready (rs := [4]) (by kernel_rfl) (by simp) ?_
        refine AllReadyH.cons rfl (fun K hK => ?_) (AllReadyH.nil)
        go_simp
        (go_at_call 33; refine (index4_any x0 _ (H4.out.below S.out.on)).mono ?_; rintro e w9 ⟨rfl, hw9⟩; rw [hkd.out]; subst hw9)
        (first | refine hK.out _ _ ?_ (fun hHeld1 => ?_) | (go_wp2_with fail; refine hK.out _ _ ?_ (fun hHeld1 => ?_)))
        · ((try dsimp only); exact KX WP.out)
        clear hK K hHeld
        have hHeld := hHeld1
        clear hHeld1
        try simp only [Act.put, List.setIfInBounds_toArray, List.set_cons_zero, List.set_cons_succ]
        refine take_yes (i := 7) (d := 38) (v := ?_) rfl rfl (by kernel_rfl) (by kernel_rfl) (by kernel_rfl) (fun _ _ _ h => h) (by kernel_rfl) ?_ hHeld ?_
        rotate_left
        · (intro w hSw; (try dsimp only at hSw); go_simp; try (with_reducible rfl))
        try simp only [Act.put, List.setIfInBounds_toArray, List.set_cons_zero, List.set_cons_succ]
        refine wpAnyH_ready (rs := [9]) (by kernel_rfl) (by simp) ?_
        refine AllReadyH.cons rfl (fun K hK => ?_) (AllReadyH.nil)
        have hsc : v15.setCells q 0 (#[.int .i64 kd, .int .i64 pv, .int .i64 0, .slice (some ⟨g2, 0, none⟩) 0 0] : Array Value).toList = v15.setCells q 0 [.int .i64 kd, .int .i64 pv, .int .i64 0, .slice (some ⟨g2, 0, none⟩) 0 0] := rfl
        have hsz := S.out.sz
        rw [if_pos (by kernel_rfl)]
        refine wp_store_mid 35 _ _ (by rfl) q 0 #[.int .i64 kd, .int .i64 pv, .int .i64 0, .slice (some ⟨g2, 0, none⟩) 0 0] (by rfl) (by rfl) T.out.there (by kernel_rfl) (by simp [Value.oneCell']) ?_
        rw [hsc]
        clear hsc
        replace S := Lib.hid (S.out.puts (q := q) (by omega) 0 [.int .i64 kd, .int .i64 pv, .int .i64 0, .slice (some ⟨g2, 0, none⟩) 0 0])
        replace Z := Lib.hid (Z.out.putsfar q (by omega) 0 [.int .i64 kd, .int .i64 pv, .int .i64 0, .slice (some ⟨g2, 0, none⟩) 0 0])
        replace WP := Lib.hid (WP.out.puts T.out.ty (by decide) 0 [.int .i64 kd, .int .i64 pv, .int .i64 0, .slice (some ⟨g2, 0, none⟩) 0 0])
        replace NW := Lib.hid (NW.out.puts T.out.ty (by decide) 0 [.int .i64 kd, .int .i64 pv, .int .i64 0, .slice (some ⟨g2, 0, none⟩) 0 0])
        replace T := Lib.hid (T.out.puts [.int .i64 kd, .int .i64 pv, .int .i64 0, .slice (some ⟨g2, 0, none⟩) 0 0] (by rfl))
        (first | refine hK.out _ _ ?_ (fun hHeld1 => ?_) | (go_wp2_with fail; refine hK.out _ _ ?_ (fun hHeld1 => ?_)))
        · ((try dsimp only); exact KX WP.out)
        clear hK K hHeld
        have hHeld := hHeld1
        clear hHeld1
        try simp only [Act.put, List.setIfInBounds_toArray, List.set_cons_zero, List.set_cons_succ]
        generalize (v15.setCells q 0 [.int .i64 kd, .int .i64 pv, .int .i64 0, .slice (some ⟨g2, 0, none⟩) 0 0]) = v16 at *
        refine wpAnyH_done (by kernel_rfl) ?_ _
        refine NoPanic.normal ?_
        clear hHeld KX
        go_wp2_with fail
        go_meet
        exact ⟨q, g2, rfl, hqz, S, Z, WP, T, NW⟩
    · skip
      try go_simp
      have hqz := Z.out.lt
      have hbl := below1 v5 (.cells #[.int .i64 0, .int .i64 0, .int .i64 0, .slice none 0 0] 35)
      have T := Lib.hid (BT.new v5 #[.int .i64 0, .int .i64 0, .int .i64 0, .slice none 0 0] 35 v5.heap.size rfl)
      replace S := Lib.hid (S.out.call hbl)
      replace Z := Lib.hid (Z.out.call hbl)
      replace WP := Lib.hid (WP.out.call hbl)
      clear hbl
      (first | refine hK.out _ _ ?_ (fun hHeld1 => ?_) | (go_wp2_with fail; refine hK.out _ _ ?_ (fun hHeld1 => ?_)))
      · ((try dsimp only); exact KX WP.out)
      clear hK K hHeld
      have hHeld := hHeld1
      clear hHeld1
      try simp only [Act.put, List.setIfInBounds_toArray, List.set_cons_zero, List.set_cons_succ]
      generalize (v5.alloc (.cells #[.int .i64 0, .int .i64 0, .int .i64 0, .slice none 0 0] 35)) = v17 at *
      generalize v5.heap.size = q at *
      refine wpAnyH_ready (rs := [4, 6]) (by kernel_rfl) (by simp) ?_
      refine AllReadyH.cons rfl (fun K hK => ?_) (AllReadyH.cons rfl (fun K hK => ?_) (AllReadyH.nil))
      · skip
        go_simp
        (go_at_call 33; refine (index4_any x0 _ (H4.out.below S.out.on)).mono ?_; rintro e w9 ⟨rfl, hw9⟩; rw [hkd.out]; subst hw9)
        (first | refine hK.out _ _ ?_ (fun hHeld1 => ?_) | (go_wp2_with fail; refine hK.out _ _ ?_ (fun hHeld1 => ?_)))
        · ((try dsimp only); exact KX WP.out)
        clear hK K hHeld
        have hHeld := hHeld1
        clear hHeld1
        try simp only [Act.put, List.setIfInBounds_toArray, List.set_cons_zero, List.set_cons_succ]
        refine wpAnyH_ready (rs := [6]) (by kernel_rfl) (by simp) ?_
        refine AllReadyH.cons rfl (fun K hK => ?_) (AllReadyH.nil)
        try go_simp
        have hbl := below1 v17 (.cells #[] 9)
        have NW := Lib.hid (show OwD StrK 9 w.heap.size (v17.alloc (.cells #[] 9)) (some ⟨v17.heap.size, 0, none⟩) 0 [] from Ow.mk (K := StrK) (own_nil_lit v17 w.heap.size v17.heap.size 9 1 rfl S.out.sz) (by simp) (by simp))
        replace S := Lib.hid (S.out.call hbl)
        replace Z := Lib.hid (Z.out.call hbl)
        replace WP := Lib.hid (WP.out.call hbl)
        replace T := Lib.hid (T.out.call hbl)
        clear hbl
        (first | refine hK.out _ _ ?_ (fun hHeld1 => ?_) | (go_wp2_with fail; refine hK.out _ _ ?_ (fun hHeld1 => ?_)))
        · ((try dsimp only); exact KX WP.out)
        clear hK K hHeld
        have hHeld := hHeld1
        clear hHeld1
        try simp only [Act.put, List.setIfInBounds_toArray, List.set_cons_zero, List.set_cons_succ]
        generalize (v17.alloc (.cells #[] 9)) = v18 at *
        generalize v17.heap.size = g2 at *
        refine take_yes (i := 7) (d := 38) (v := ?_) rfl rfl (by kernel_rfl) (by kernel_rfl) (by kernel_rfl) (fun _ _ _ h => h) (by kernel_rfl) ?_ hHeld ?_
        rotate_left
        · (intro w hSw; (try dsimp only at hSw); go_simp; try (with_reducible rfl))
        try simp only [Act.put, List.setIfInBounds_toArray, List.set_cons_zero, List.set_cons_succ]
        refine wpAnyH_ready (rs := [9]) (by kernel_rfl) (by simp) ?_
        refine AllReadyH.cons rfl (fun K hK => ?_) (AllReadyH.nil)
        have hsc : v18.setCells q 0 (#[.int .i64 kd, .int .i64 pv, .int .i64 0, .slice (some ⟨g2, 0, none⟩) 0 0] : Array Value).toList = v18.setCells q 0 [.int .i64 kd, .int .i64 pv, .int .i64 0, .slice (some ⟨g2, 0, none⟩) 0 0] := rfl
        have hsz := S.out.sz
        rw [if_pos (by kernel_rfl)]
        refine wp_store_mid 35 _ _ (by rfl) q 0 #[.int .i64 kd, .int .i64 pv, .int .i64 0, .slice (some ⟨g2, 0, none⟩) 0 0] (by rfl) (by rfl) T.out.there (by kernel_rfl) (by simp [Value.oneCell']) ?_
        rw [hsc]
        clear hsc
        replace S := Lib.hid (S.out.puts (q := q) (by omega) 0 [.int .i64 kd, .int .i64 pv, .int .i64 0, .slice (some ⟨g2, 0, none⟩) 0 0])
        replace Z := Lib.hid (Z.out.putsfar q (by omega) 0 [.int .i64 kd, .int .i64 pv, .int .i64 0, .slice (some ⟨g2, 0, none⟩) 0 0])
        replace WP := Lib.hid (WP.out.puts T.out.ty (by decide) 0 [.int .i64 kd, .int .i64 pv, .int .i64 0, .slice (some ⟨g2, 0, none⟩) 0 0])
        replace NW := Lib.hid (NW.out.puts T.out.ty (by decide) 0 [.int .i64 kd, .int .i64 pv, .int .i64 0, .slice (some ⟨g2, 0, none⟩) 0 0])
        replace T := Lib.hid (T.out.puts [.int .i64 kd, .int .i64 pv, .int .i64 0, .slice (some ⟨g2, 0, none⟩) 0 0] (by rfl))
        (first | refine hK.out _ _ ?_ (fun hHeld1 => ?_) | (go_wp2_with fail; refine hK.out _ _ ?_ (fun hHeld1 => ?_)))
        · ((try dsimp only); exact KX WP.out)
        clear hK K hHeld
        have hHeld := hHeld1
        clear hHeld1
        try simp only [Act.put, List.setIfInBounds_toArray, List.set_cons_zero, List.set_cons_succ]
        generalize (v18.setCells q 0 [.int .i64 kd, .int .i64 pv, .int .i64 0, .slice (some ⟨g2, 0, none⟩) 0 0]) = v19 at *
        refine wpAnyH_done (by kernel_rfl) ?_ _
        refine NoPanic.normal ?_
        clear hHeld KX
        go_wp2_with fail
        go_meet
        exact ⟨q, g2, rfl, hqz, S, Z, WP, T, NW⟩
      · skip
        try go_simp
        have hbl := below1 v17 (.cells #[] 9)
        have NW := Lib.hid (show OwD StrK 9 w.heap.size (v17.alloc (.cells #[] 9)) (some ⟨v17.heap.size, 0, none⟩) 0 [] from Ow.mk (K := StrK) (own_nil_lit v17 w.heap.size v17.heap.size 9 1 rfl S.out.sz) (by simp) (by simp))
        replace S := Lib.hid (S.out.call hbl)
        replace Z := Lib.hid (Z.out.call hbl)
        replace WP := Lib.hid (WP.out.call hbl)
        replace T := Lib.hid (T.out.call hbl)
        clear hbl
        (first | refine hK.out _ _ ?_ (fun hHeld1 => ?_) | (go_wp2_with fail; refine hK.out _ _ ?_ (fun hHeld1 => ?_)))
        · ((try dsimp only); exact KX WP.out)
        clear hK K hHeld
        have hHeld := hHeld1
        clear hHeld1
        try simp only [Act.put, List.setIfInBounds_toArray, List.set_cons_zero, List.set_cons_succ]
        generalize (v17.alloc (.cells #[] 9)) = v20 at *
        generalize v17.heap.size = g2 at *
        refine wpAnyH_ready (rs := [4]) (by kernel_rfl) (by simp) ?_
        refine AllReadyH.cons rfl (fun K hK => ?_) (AllReadyH.nil)
        go_simp
        (go_at_call 33; refine (index4_any x0 _ (H4.out.below S.out.on)).mono ?_; rintro e w9 ⟨rfl, hw9⟩; rw [hkd.out]; subst hw9)
        (first | refine hK.out _ _ ?_ (fun hHeld1 => ?_) | (go_wp2_with fail; refine hK.out _ _ ?_ (fun hHeld1 => ?_)))
        · ((try dsimp only); exact KX WP.out)
        clear hK K hHeld
        have hHeld := hHeld1
        clear hHeld1
        try simp only [Act.put, List.setIfInBounds_toArray, List.set_cons_zero, List.set_cons_succ]
        refine take_yes (i := 7) (d := 38) (v := ?_) rfl rfl (by kernel_rfl) (by kernel_rfl) (by kernel_rfl) (fun _ _ _ h => h) (by kernel_rfl) ?_ hHeld ?_
        rotate_left
        · (intro w hSw; (try dsimp only at hSw); go_simp; try (with_reducible rfl))
        try simp only [Act.put, List.setIfInBounds_toArray, List.set_cons_zero, List.set_cons_succ]
        refine wpAnyH_ready (rs := [9]) (by kernel_rfl) (by simp) ?_
        refine AllReadyH.cons rfl (fun K hK => ?_) (AllReadyH.nil)
        have hsc : v20.setCells q 0 (#[.int .i64 kd, .int .i64 pv, .int .i64 0, .slice (some ⟨g2, 0, none⟩) 0 0] : Array Value).toList = v20.setCells q 0 [.int .i64 kd, .int .i64 pv, .int .i64 0, .slice (some ⟨g2, 0, none⟩) 0 0] := rfl
        have hsz := S.out.sz
        rw [if_pos (by kernel_rfl)]
        refine wp_store_mid 35 _ _ (by rfl) q 0 #[.int .i64 kd, .int .i64 pv, .int .i64 0, .slice (some ⟨g2, 0, none⟩) 0 0] (by rfl) (by rfl) T.out.there (by kernel_rfl) (by simp [Value.oneCell']) ?_
        rw [hsc]
        clear hsc
        replace S := Lib.hid (S.out.puts (q := q) (by omega) 0 [.int .i64 kd, .int .i64 pv, .int .i64 0, .slice (some ⟨g2, 0, none⟩) 0 0])
        replace Z := Lib.hid (Z.out.putsfar q (by omega) 0 [.int .i64 kd, .int .i64 pv, .int .i64 0, .slice (some ⟨g2, 0, none⟩) 0 0])
        replace WP := Lib.hid (WP.out.puts T.out.ty (by decide) 0 [.int .i64 kd, .int .i64 pv, .int .i64 0, .slice (some ⟨g2, 0, none⟩) 0 0])
        replace NW := Lib.hid (NW.out.puts T.out.ty (by decide) 0 [.int .i64 kd, .int .i64 pv, .int .i64 0, .slice (some ⟨g2, 0, none⟩) 0 0])
        replace T := Lib.hid (T.out.puts [.int .i64 kd, .int .i64 pv, .int .i64 0, .slice (some ⟨g2, 0, none⟩) 0 0] (by rfl))
        (first | refine hK.out _ _ ?_ (fun hHeld1 => ?_) | (go_wp2_with fail; refine hK.out _ _ ?_ (fun hHeld1 => ?_)))
        · ((try dsimp only); exact KX WP.out)
        clear hK K hHeld
        have hHeld := hHeld1
        clear hHeld1
        try simp only [Act.put, List.setIfInBounds_toArray, List.set_cons_zero, List.set_cons_succ]
        generalize (v20.setCells q 0 [.int .i64 kd, .int .i64 pv, .int .i64 0, .slice (some ⟨g2, 0, none⟩) 0 0]) = v21 at *
        refine wpAnyH_done (by kernel_rfl) ?_ _
        refine NoPanic.normal ?_
        clear hHeld KX
        go_wp2_with fail
        go_meet
        exact ⟨q, g2, rfl, hqz, S, Z, WP, T, NW⟩
  case rest =>
    clear S Z WP KX
    obtain ⟨W, rfl⟩ : ∃ W, W = wc := ⟨_, rfl⟩
    obtain ⟨q, g2, rfl, hqz, S, Z, WP, T, NW⟩ := hcut
    go_upto_if 39 with fail
    go_cut [6] (fun u6 wx => ∃ (B : Option Addr) (bc : Nat), Hid (Lst w wx none 0) ∧ Hid (BT wx w.heap.size 35 [.int .i64 0, .int .i64 0, .int .i64 0, .slice none 0 0]) ∧ Hid (OwP w.heap.size wx (some ⟨g, 0, none⟩) oc ps) ∧ Hid (BT wx q 35 [.int .i64 kd, .int .i64 pv, .int .i64 0, .slice B ph.length bc]) ∧ Hid (OwD StrK 9 w.heap.size wx B bc ph))
    case first =>
      rcases Bool.eq_false_or_eq_true fd with hf | hf
      · have HE : Hid (ph = (spl 32 rs).map bar) := Lib.hid (by rw [HPH.out, if_pos hf])
        subst hf
        have hlo := S.out.sz
        go_wp2_with fail
        refine (splitL_any 32 (bar rs) W (by rw [bar_size]; have := CL2.out; omega) (HC.out.below S.out.on).lib).mono ?_
        rintro e v22 ⟨B, bc, ps2, rfl, hps, own, hb⟩
        rw [bar_list, ← HE.out] at hps
        subst hps
        clear NW
        replace S := Lib.hid (S.out.call hb)
        replace Z := Lib.hid (Z.out.call hb)
        replace WP := Lib.hid (WP.out.call hb)
        replace T := Lib.hid (T.out.call hb)
        have hl9 : ps2.length ≤ 1048576 := by (have h9 := spl_len 32 rs []); rw [HE.out, List.length_map]; unfold spl; have := CL2.out; omega
        have PW := Lib.hid (OwP.owd (show OwP w.heap.size v22 B bc ps2 from ⟨own_mono own.1 hlo, own.2⟩) hl9)
        clear hb own hlo hl9
        have e0 := T.out.box.1 0 _ rfl
        have e1 := T.out.box.1 1 _ rfl
        have e2 := T.out.box.1 2 _ rfl
        have e3 := T.out.box.1 3 _ rfl
        have ef := T.out.box.2
        have hsz := S.out.sz
        have S9 := Lib.hid (S.out.set ⟨q, 3, none⟩ (by show _ ≤ q; omega) (.slice B ps2.length bc))
        have Z9 := Lib.hid (Z.out.far ⟨q, 3, none⟩ (.slice B ps2.length bc) (by show _ ≠ q; omega))
        have WP9 := Lib.hid (WP.out.set T.out.ty (by decide) 3 (.slice B ps2.length bc))
        have T9 := Lib.hid (show BT (v22.setCell ⟨q, 3, none⟩ (.slice B ps2.length bc)) q 35 [.int .i64 kd, .int .i64 pv, .int .i64 0, .slice B ps2.length bc] from (T.out.set 3 (by simp) (.slice B ps2.length bc)))
        have PW9 := Lib.hid (PW.out.set T.out.ty (by decide) 3 (.slice B ps2.length bc))
        replace S := S9
        clear S9
        replace Z := Z9
        clear Z9
        replace WP := WP9
        clear WP9
        replace T := T9
        clear T9
        replace PW := PW9
        clear PW9
        go_wp2_with fail
        go_meet
        exact ⟨B, bc, S, Z, WP, T, PW⟩
      · have HE : Hid (ph = []) := Lib.hid (by rw [HPH.out, if_neg (by rw [hf]; simp)])
        have he := HE.out
        subst hf
        subst he
        go_wp2_with fail
        go_meet
        exact ⟨_, 0, S, Z, WP, T, NW⟩
    case rest =>
      clear S Z WP T NW
      obtain ⟨W, rfl⟩ : ∃ W, W = wc := ⟨_, rfl⟩
      obtain ⟨B, bc, S, Z, WP, T, PW⟩ := hcut
      obtain ⟨oN, hoN⟩ : ∃ o, Hid ((if wd.length = 4 then piV (wd.getD 1 []) else some 0) = o) := ⟨_, Lib.hid rfl⟩
      obtain ⟨nv, hnv⟩ : ∃ y, Hid (nI oN = y) := ⟨_, Lib.hid rfl⟩
      obtain ⟨nb, hnb⟩ : ∃ y, Hid (bI oN = y) := ⟨_, Lib.hid rfl⟩
      go_upto_if 45 with fail
      go_cut [9, 11, 12] (fun u9 u11 u12 wx => u9 = .bool (pb && nb) ∧ Hid (Lst w wx none 0) ∧ Hid (BT wx w.heap.size 35 [.int .i64 0, .int .i64 0, .int .i64 0, .slice none 0 0]) ∧ Hid (OwP w.heap.size wx (some ⟨g, 0, none⟩) oc ps) ∧ Hid (BT wx q 35 [.int .i64 kd, .int .i64 pv, .int .i64 nv, .slice B ph.length bc]) ∧ Hid (OwD StrK 9 w.heap.size wx B bc ph))
      case first =>
        by_cases h44 : n = 4
        · have hnn := h44
          subst h44
          have hl1 : 1 < wd.length := by have := HN.out; omega
          obtain ⟨x1, hx1⟩ : ∃ x, Hid (wd.getD 1 [] = x) := ⟨_, Lib.hid rfl⟩
          have hx2 : wd[1] = x1 := by rw [← hx1.out, List.getD_eq_getElem?_getD, List.getElem?_eq_getElem hl1]; rfl
          have hxm : x1.length ≤ 1048576 := by rw [← hx2]; exact HWM.out _ (List.getElem_mem hl1)
          obtain ⟨g3, h3, hc⟩ := str_cell WP.out HP.out hl1
          obtain ⟨rfl, _⟩ : g = g3 ∧ True := ⟨by cases h3; rfl, trivial⟩
          rw [hx2] at hc
          have HON : Hid (piV x1 = oN) := Lib.hid (by rw [← hoN.out, if_pos HN.out, hx1.out])
          clear hx2 hl1 h3 hnn
          go_wp2_with fail
          refine (ParseInt_any (bar x1) W (by rw [bar_size]; unfold maxLen; omega) (HC.out.below S.out.on)).mono ?_
          rintro e v23 ⟨rfl, hb⟩
          replace S := Lib.hid (S.out.call hb)
          replace Z := Lib.hid (Z.out.call hb)
          replace WP := Lib.hid (WP.out.call hb)
          replace T := Lib.hid (T.out.call hb)
          replace PW := Lib.hid (PW.out.call hb)
          rw [bar_list, HON.out, optI_eq, hnv.out, hnb.out]
          clear hb hc hxm
          have e0 := T.out.box.1 0 _ rfl
          have e1 := T.out.box.1 1 _ rfl
          have e2 := T.out.box.1 2 _ rfl
          have e3 := T.out.box.1 3 _ rfl
          have ef := T.out.box.2
          have hsz := S.out.sz
          have S9 := Lib.hid (S.out.set ⟨q, 2, none⟩ (by show _ ≤ q; omega) (.int .i64 nv))
          have Z9 := Lib.hid (Z.out.far ⟨q, 2, none⟩ (.int .i64 nv) (by show _ ≠ q; omega))
          have WP9 := Lib.hid (WP.out.set T.out.ty (by decide) 2 (.int .i64 nv))
          have T9 := Lib.hid (show BT (v23.setCell ⟨q, 2, none⟩ (.int .i64 nv)) q 35 [.int .i64 kd, .int .i64 pv, .int .i64 nv, .slice B ph.length bc] from (T.out.set 2 (by simp) (.int .i64 nv)))
          have PW9 := Lib.hid (PW.out.set T.out.ty (by decide) 2 (.int .i64 nv))
          replace S := S9
          clear S9
          replace Z := Z9
          clear Z9
          replace WP := WP9
          clear WP9
          replace T := T9
          clear T9
          replace PW := PW9
          clear PW9
          rcases Bool.eq_false_or_eq_true pb with hk | hk
          · rw [hk]
            go_wp2_with fail
            go_meet
            exact ⟨by first | rfl | (simp; done) | (rw [hk]; simp), S, Z, WP, T, PW⟩
          · rw [hk]
            go_wp2_with fail
            go_meet
            exact ⟨by first | rfl | (simp; done) | (rw [hk]; simp), S, Z, WP, T, PW⟩
        · have HO : Hid (oN = some 0) := Lib.hid (by rw [← hoN.out, if_neg (by rw [HN.out]; exact h44)])
          have e1 : nv = 0 := by rw [← hnv.out, HO.out]; rfl
          have e2 : nb = true := by rw [← hnb.out, HO.out]; rfl
          have HE1 := Lib.hid e1
          have HE2 := Lib.hid e2
          subst e1 e2
          have k4 : ((n : Int) == 4) = false := by simp; omega
          go_wp2_with fail
          go_meet
          exact ⟨by simp, S, Z, WP, T, PW⟩
      case rest =>
        clear S Z WP T PW
        obtain ⟨W, rfl⟩ : ∃ W, W = wc := ⟨_, rfl⟩
        obtain ⟨rfl, S, Z, WP, T, PW⟩ := hcut
        clear WP
        have HF : Hid (amI s.data.toList = finA s.data.toList (mkIA s.data.toList) oP oN) := Lib.hid (by unfold amI; rw [hwd.out, HN.out, hxl.out, hoP.out]; rw [HN.out] at hoN; rw [hoN.out])
        have HMK : Hid (mkIA s.data.toList (nI oP) (nI oN) = ⟨kd, pv, nv, ph⟩) := Lib.hid (by unfold mkIA; rw [hwd.out, hx0.out, hkd.out, hph.out, hpv.out, hnv.out])
        obtain ⟨ok, hok⟩ : ∃ b, Hid ((pb && nb) = b) := ⟨_, Lib.hid rfl⟩
        rw [hok.out]
        rcases Bool.eq_false_or_eq_true ok with hk | hk
        · have HT : Hid (amI s.data.toList = if vldA ⟨kd, pv, nv, ph⟩ = true ∧ alL ⟨kd, pv, nv, ph⟩ = s.data.toList then some ⟨kd, pv, nv, ph⟩ else none) := Lib.hid (by rw [HF.out, finA_t (by rw [hpb.out, hnb.out, hok.out, hk]), HMK.out])
          subst hk
          rcases Bool.eq_false_or_eq_true (vldA ⟨kd, pv, nv, ph⟩) with hv | hv
          · have HV := Lib.hid hv
            have e0 := T.out.box.1 0 _ rfl
            have e1 := T.out.box.1 1 _ rfl
            have e2 := T.out.box.1 2 _ rfl
            have e3 := T.out.box.1 3 _ rfl
            go_wp2_with fail
            refine (validF B bc kd pv nv ph W (owd_ows PW.out)).mono ?_
            rintro e v24 ⟨rfl, hb⟩
            rw [hv]
            replace S := Lib.hid (S.out.call hb)
            replace Z := Lib.hid (Z.out.call hb)
            replace T := Lib.hid (T.out.call hb)
            replace PW := Lib.hid (PW.out.call hb)
            clear hb e0 e1 e2 e3
            have e0 := T.out.box.1 0 _ rfl
            have e1 := T.out.box.1 1 _ rfl
            have e2 := T.out.box.1 2 _ rfl
            have e3 := T.out.box.1 3 _ rfl
            go_wp2_with fail
            refine (lineF B bc kd pv nv ph v24 (owd_ows PW.out) HV.out (H4.out.below S.out.on).1).mono ?_
            rintro e v25 ⟨rfl, hb⟩
            replace S := Lib.hid (S.out.call hb)
            replace Z := Lib.hid (Z.out.call hb)
            replace T := Lib.hid (T.out.call hb)
            replace PW := Lib.hid (PW.out.call hb)
            clear hb hv e0 e1 e2 e3
            obtain ⟨x, ex⟩ : ∃ x, Hid (aline ⟨kd, pv, nv, ph⟩ = x) := ⟨_, Lib.hid rfl⟩
            rw [ex.out]
            by_cases hx : x = s
            · have HR : Hid (amI s.data.toList = some ⟨kd, pv, nv, ph⟩) := Lib.hid (HT.out.trans (if_pos ⟨HV.out, by unfold alL; rw [ex.out, hx]⟩))
              subst hx
              go_wp2_with (first | (refine wpList_load_mid rfl 35 _ rfl q 0 rfl [.int .i64 kd, .int .i64 pv, .int .i64 nv, .slice B ph.length bc] _ T.out.rng Tryz.underlying35 rfl (by kernel_rfl) ?_) | ((refine wpList_store_mid rfl 35 _ _ rfl w.heap.size 0 #[.int .i64 kd, .int .i64 pv, .int .i64 nv, .slice B ph.length bc] rfl rfl Z.out.there (by kernel_rfl) (by simp [Value.oneCell']) ?_); have hsz := S.out.sz; replace S := Lib.hid (S.out.puts (q := w.heap.size) (by omega) 0 [.int .i64 kd, .int .i64 pv, .int .i64 nv, .slice B ph.length bc]); replace T := Lib.hid (T.out.putsfar w.heap.size (by omega) 0 [.int .i64 kd, .int .i64 pv, .int .i64 nv, .slice B ph.length bc]); replace PW := Lib.hid (PW.out.puts Z.out.ty (by decide) 0 [.int .i64 kd, .int .i64 pv, .int .i64 nv, .slice B ph.length bc]); replace Z := Lib.hid (Z.out.puts [.int .i64 kd, .int .i64 pv, .int .i64 nv, .slice B ph.length bc] (by rfl)); have KS := Z.out.box; have k0 := KS.1 0 _ rfl; have k1 := KS.1 1 _ rfl; have k2 := KS.1 2 _ rfl; have k3 := KS.1 3 _ rfl; clear KS) | (refine bodyPost_ret (v := .tuple #[.agg #[.int .i64 kd, .int .i64 pv, .int .i64 nv, .slice B ph.length bc], .bool true]) (by (rw [results_cell_tmp Tryz.results14]; simp [go_sem, k0, k1, k2, k3])) rfl ?_; exact amTo_yes HR.out PW.out S.out.on))
            · have HR : Hid (amI s.data.toList = none) := Lib.hid (HT.out.trans (if_neg (fun h => hx (by have h9 := h.2; unfold alL at h9; rw [ex.out] at h9; exact ByteArray.ext (Array.ext' h9)))))
              have hne := same_no hx
              clear hx
              go_wp2_with (first | ((refine wpList_store_mid rfl 35 _ _ rfl w.heap.size 0 #[.int .i64 0, .int .i64 0, .int .i64 0, .slice none 0 0] rfl rfl Z.out.there (by kernel_rfl) (by simp [Value.oneCell']) ?_); have hsz := S.out.sz; replace S := Lib.hid (S.out.puts (q := w.heap.size) (by omega) 0 [.int .i64 0, .int .i64 0, .int .i64 0, .slice none 0 0]); replace T := Lib.hid (T.out.putsfar w.heap.size (by omega) 0 [.int .i64 0, .int .i64 0, .int .i64 0, .slice none 0 0]); replace PW := Lib.hid (PW.out.puts Z.out.ty (by decide) 0 [.int .i64 0, .int .i64 0, .int .i64 0, .slice none 0 0]); replace Z := Lib.hid (Z.out.puts [.int .i64 0, .int .i64 0, .int .i64 0, .slice none 0 0] (by rfl)); have KS := Z.out.box; have k0 := KS.1 0 _ rfl; have k1 := KS.1 1 _ rfl; have k2 := KS.1 2 _ rfl; have k3 := KS.1 3 _ rfl; clear KS) | (refine bodyPost_ret (v := .tuple #[.agg #[.int .i64 0, .int .i64 0, .int .i64 0, .slice none 0 0], .bool false]) (by (rw [results_cell_tmp Tryz.results14]; simp [go_sem, k0, k1, k2, k3])) rfl ?_; exact amTo_no HR.out S.out.on))
          · have HR : Hid (amI s.data.toList = none) := Lib.hid (HT.out.trans (if_neg (fun h => by rw [hv] at h; cases h.1)))
            have e0 := T.out.box.1 0 _ rfl
            have e1 := T.out.box.1 1 _ rfl
            have e2 := T.out.box.1 2 _ rfl
            have e3 := T.out.box.1 3 _ rfl
            go_wp2_with fail
            refine (validF B bc kd pv nv ph W (owd_ows PW.out)).mono ?_
            rintro e v26 ⟨rfl, hb⟩
            rw [hv]
            replace S := Lib.hid (S.out.call hb)
            replace Z := Lib.hid (Z.out.call hb)
            replace T := Lib.hid (T.out.call hb)
            replace PW := Lib.hid (PW.out.call hb)
            clear hb e0 e1 e2 e3
            go_wp2_with (first | ((refine wpList_store_mid rfl 35 _ _ rfl w.heap.size 0 #[.int .i64 0, .int .i64 0, .int .i64 0, .slice none 0 0] rfl rfl Z.out.there (by kernel_rfl) (by simp [Value.oneCell']) ?_); have hsz := S.out.sz; replace S := Lib.hid (S.out.puts (q := w.heap.size) (by omega) 0 [.int .i64 0, .int .i64 0, .int .i64 0, .slice none 0 0]); replace T := Lib.hid (T.out.putsfar w.heap.size (by omega) 0 [.int .i64 0, .int .i64 0, .int .i64 0, .slice none 0 0]); replace PW := Lib.hid (PW.out.puts Z.out.ty (by decide) 0 [.int .i64 0, .int .i64 0, .int .i64 0, .slice none 0 0]); replace Z := Lib.hid (Z.out.puts [.int .i64 0, .int .i64 0, .int .i64 0, .slice none 0 0] (by rfl)); have KS := Z.out.box; have k0 := KS.1 0 _ rfl; have k1 := KS.1 1 _ rfl; have k2 := KS.1 2 _ rfl; have k3 := KS.1 3 _ rfl; clear KS) | (refine bodyPost_ret (v := .tuple #[.agg #[.int .i64 0, .int .i64 0, .int .i64 0, .slice none 0 0], .bool false]) (by (rw [results_cell_tmp Tryz.results14]; simp [go_sem, k0, k1, k2, k3])) rfl ?_; exact amTo_no HR.out S.out.on))
        · have HR : Hid (amI s.data.toList = none) := Lib.hid (by rw [HF.out]; exact finA_b (by rw [hpb.out, hnb.out, hok.out, hk]))
          subst hk
          go_wp2_with (first | ((refine wpList_store_mid rfl 35 _ _ rfl w.heap.size 0 #[.int .i64 0, .int .i64 0, .int .i64 0, .slice none 0 0] rfl rfl Z.out.there (by kernel_rfl) (by simp [Value.oneCell']) ?_); have hsz := S.out.sz; replace S := Lib.hid (S.out.puts (q := w.heap.size) (by omega) 0 [.int .i64 0, .int .i64 0, .int .i64 0, .slice none 0 0]); replace T := Lib.hid (T.out.putsfar w.heap.size (by omega) 0 [.int .i64 0, .int .i64 0, .int .i64 0, .slice none 0 0]); replace PW := Lib.hid (PW.out.puts Z.out.ty (by decide) 0 [.int .i64 0, .int .i64 0, .int .i64 0, .slice none 0 0]); replace Z := Lib.hid (Z.out.puts [.int .i64 0, .int .i64 0, .int .i64 0, .slice none 0 0] (by rfl)); have KS := Z.out.box; have k0 := KS.1 0 _ rfl; have k1 := KS.1 1 _ rfl; have k2 := KS.1 2 _ rfl; have k3 := KS.1 3 _ rfl; clear KS) | (refine bodyPost_ret (v := .tuple #[.agg #[.int .i64 0, .int .i64 0, .int .i64 0, .slice none 0 0], .bool false]) (by (rw [results_cell_tmp Tryz.results14]; simp [go_sem, k0, k1, k2, k3])) rfl ?_; exact amTo_no HR.out S.out.on))
end Go.Proofs.YtnnphhhjkhoglaaGreatDoor
namespace Go.Proofs.YtnnphhhjkhoglaaGreatDoor
open Go.RowKit
set_option linter.unusedVariables false
set_option linter.unusedSimpArgs false
/-- A number from 0 to k - 1. -/
theorem pickN_any (k : Nat) (hk1 : 1 ≤ k) (hk : k ≤ 60000) (b : Nat) (A : Option Addr) (n c m : Nat) (w : World) (h : Cur w b A n c m) (hm : m ≤ 900000) :
    Calls Tryz.prog 40 #[.pointer (some ⟨b, 0, none⟩), .int .i64 k] w fun e w' => (∃ x : Nat, e = .returned (.int .i64 x) ∧ x < k) ∧ Cur w' b A n c (m + 2) ∧ Only b (b + 1) w w' := by
  by_cases h1 : k ≤ 1
  · have HC := Lib.hid (h.mono (show m ≤ m + 2 by omega))
    have i1 : (k : Int) ≤ 1 := by omega
    clear h
    go_enter Tryz.func40, Tryz.ntmps40
    go_wp2
    go_ret
    exact ⟨⟨0, by first | rfl | simp, by omega⟩, HC.out, Only.refl'⟩
  · by_cases h2 : k ≤ 200
    · exact (pick_any k (by omega) h2 b A n c m w h (by omega)).mono fun e w' ⟨hx, hc, ho⟩ => ⟨hx, hc.mono (by omega), ho⟩
    · have H := Lib.hid h
      have i1 : ¬ (k : Int) ≤ 1 := by omega
      have i2 : (200 : Int) < (k : Int) := by omega
      have i3 : ¬ (k : Int) = 0 := by omega
      clear h
      go_enter Tryz.func40, Tryz.ntmps40
      go_wp2_with fail
      refine (next_any b A n c m _ H.out (by omega)).mono ?_
      rintro e w1 ⟨⟨x, rfl, hx0, hx1⟩, hc, ho⟩
      have H1 := Lib.hid hc
      have O1 := Lib.hid ho
      clear hc ho
      have q1 : IntKind.i64.wrap (x * 256) = x * 256 := by rw [IntKind.wrap_i64]; omega
      go_wp2_with fail
      refine (next_any b A n c (m + 1) _ H1.out (by omega)).mono ?_
      rintro e w2 ⟨⟨y, rfl, hy0, hy1⟩, hc, ho⟩
      have H2 := Lib.hid hc
      have O2 := Lib.hid (O1.out.trans ho)
      clear hc ho
      have q2 : IntKind.i64.wrap (x * 256 + y) = x * 256 + y := by rw [IntKind.wrap_i64]; omega
      have q3 : Int.tmod (x * 256 + y) (k : Int) = (x * 256 + y) % (k : Int) := Int.tmod_eq_emod_of_nonneg (by omega)
      have hr : (x * 256 + y) % (k : Int) = (((x * 256 + y) % (k : Int)).toNat : Int) := by have := Int.emod_nonneg (x * 256 + y) (show (k : Int) ≠ 0 by omega); omega
      have hl : ((x * 256 + y) % (k : Int)).toNat < k := by have := Int.emod_lt_of_pos (x * 256 + y) (show (0 : Int) < (k : Int) by omega); omega
      have HR := Lib.hid hr
      have HL := Lib.hid hl
      clear hr hl
      go_wp2
      go_ret
      exact ⟨⟨((x * 256 + y) % (k : Int)).toNat, by rw [← HR.out]; first | rfl | (simp; done), HL.out⟩, H2.out, O2.out⟩
set_option maxHeartbeats 2000000 in
theorem spoiltN_any (t u : ByteArray) (h200 : t.size ≤ 50000) (g2 : 2 ≤ u.size) (g200 : u.size ≤ 200) (b : Nat) (A : Option Addr) (n c m : Nat) (w : World) (h : Cur w b A n c m) (hm : m ≤ 800000) :
    Calls Tryz.prog 39 #[.pointer (some ⟨b, 0, none⟩), .string t, .string u] w fun e w' => (∃ x : ByteArray, e = .returned (.string x) ∧ x.size ≤ t.size + 1) ∧ Cur w' b A n c (m + 4) ∧ Only b (b + 1) w w' := by
  by_cases ht : t.size = 0
  · have H := Lib.hid (h.mono (show m ≤ m + 4 by omega))
    have te : t = ⟨#[]⟩ := by
      apply ByteArray.ext
      exact Array.eq_empty_of_size_eq_zero ht
    subst te
    have c1 : (1 : Int) ≤ (u.size : Int) := by omega
    have hsz : (u.extract 0 1).size ≤ (⟨#[]⟩ : ByteArray).size + 1 := by rw [ByteArray.size_extract]; show _ ≤ 0 + 1; omega
    have HZ := Lib.hid hsz
    clear h hsz
    go_enter Tryz.func39, Tryz.ntmps39
    go_wp2
    go_ret
    exact ⟨⟨_, rfl, HZ.out⟩, H.out, Only.refl'⟩
  have H := Lib.hid h
  clear h
  have ne : t.toList.isEmpty = false := by
    rw [ByteArray.toList_eq, List.isEmpty_eq_false_iff]
    intro h0
    have h1 : t.data.toList.length = t.size := Array.length_toList
    rw [h0] at h1
    simp at h1
    omega
  have c1 : (1 : Int) ≤ (u.size : Int) := by omega
  go_enter Tryz.func39, Tryz.ntmps39
  go_wp2_with fail
  refine (pickN_any t.size (by omega) (by omega) b A n c m _ H.out (by omega)).mono ?_
  rintro e w1 ⟨⟨i, rfl, hi⟩, hc, ho⟩
  have H1 := Lib.hid hc
  have O1 := Lib.hid ho
  clear hc ho
  go_wp2_with fail
  refine (pick_any u.size g2 g200 b A n c (m + 2) _ H1.out (by omega)).mono ?_
  rintro e w2 ⟨⟨j, rfl, hj⟩, hc, ho⟩
  have H2 := Lib.hid hc
  have O2 := Lib.hid (O1.out.trans ho)
  clear hc ho
  have d1 : (j : Int) ≤ (u.size : Int) := by omega
  have d2 : (1 : Int) ≤ ((u.size - j : Nat) : Int) := by omega
  have d3 : 1 ≤ u.size - j := by omega
  obtain ⟨v, hv⟩ : ∃ v, Hid ((u.extract j u.size).extract 0 1 = v) := ⟨_, Lib.hid rfl⟩
  have hvs : v.size ≤ 1 := by rw [← hv.out, ByteArray.size_extract]; omega
  go_wp2_with fail
  rw [hv.out]
  clear hv
  refine (pick_any 3 (by omega) (by omega) b A n c (m + 2 + 1) _ H2.out (by omega)).mono ?_
  rintro e w3 ⟨⟨k, rfl, hk⟩, hc, ho⟩
  have H3 := Lib.hid hc
  have O3 := Lib.hid (O2.out.trans ho)
  clear hc ho
  have i1 : (i : Int) ≤ (t.size : Int) := by omega
  have i2 : (i : Int) + 1 ≤ (t.size : Int) := by omega
  have i3 : (i : Int) < (t.size : Int) := by omega
  have q1 : IntKind.i64.wrap ((i : Int) + 1) = ((i + 1 : Nat) : Int) := by rw [IntKind.wrap_i64]; omega
  have q2 : ((i + 1 : Nat) : Int) ≤ (t.size : Int) := by omega
  have q3 : (0 : Int) ≤ ((i + 1 : Nat) : Int) := by omega
  have q4 : ((i + 1 : Nat) : Int).toNat = i + 1 := by omega
  have z1 : (t.extract 0 i).size = i := by rw [ByteArray.size_extract]; omega
  have z2 : (t.extract i t.size).size = t.size - i := by rw [ByteArray.size_extract]; omega
  have z3 : (t.extract (i + 1) t.size).size = t.size - (i + 1) := by rw [ByteArray.size_extract]; omega
  have z4 : ((t.extract 0 i) ++ v).size = i + v.size := by rw [ByteArray.size_append, z1]
  have m1 : ¬ 9223372036854775807 < i + v.size := by omega
  have m2 : ¬ 9223372036854775807 < i + v.size + (t.size - i) := by omega
  have m3 : ¬ 9223372036854775807 < i + v.size + (t.size - (i + 1)) := by omega
  have m4 : ¬ 9223372036854775807 < i + (t.size - (i + 1)) := by omega
  have G0 : (t.extract 0 i ++ v ++ t.extract i t.size).size ≤ t.size + 1 := by rw [ByteArray.size_append, z4, z2]; omega
  have G1 : (t.extract 0 i ++ v ++ t.extract (i + 1) t.size).size ≤ t.size + 1 := by rw [ByteArray.size_append, z4, z3]; omega
  have G2 : (t.extract 0 i ++ t.extract (i + 1) t.size).size ≤ t.size + 1 := by rw [ByteArray.size_append, z1, z3]; omega
  have G0 := Lib.hid G0
  have G1 := Lib.hid G1
  have G2 := Lib.hid G2
  rcases (show k = 0 ∨ k = 1 ∨ k = 2 by omega) with rfl | rfl | rfl
  · go_wp2
    go_quiet (fail)
    go_wp2
    go_ret
    exact ⟨⟨_, rfl, G0.out⟩, H3.out.below (below_drewN (Below.refl _ _) _), O3.out.trans (Only.of_below (below_drewN (Below.refl _ _) _))⟩
  · go_wp2
    go_quiet (fail)
    go_wp2
    go_ret
    exact ⟨⟨_, rfl, G1.out⟩, H3.out.below (below_drewN (Below.refl _ _) _), O3.out.trans (Only.of_below (below_drewN (Below.refl _ _) _))⟩
  · go_wp2
    go_quiet (fail)
    go_wp2
    go_ret
    exact ⟨⟨_, rfl, G2.out⟩, H3.out.below (below_drewN (Below.refl _ _) _), O3.out.trans (Only.of_below (below_drewN (Below.refl _ _) _))⟩
end Go.Proofs.YtnnphhhjkhoglaaGreatDoor
namespace Go.Proofs.YtnnphhhjkhoglaaGreatDoor
open Go.RowKit
set_option linter.unusedVariables false
set_option linter.unusedSimpArgs false
attribute [local go_sem ↓] Go.wp_at_zero Go.wp_at_succ
section
variable {lo b d q : Nat} {w : World} {N : Option Addr} {ws : List ByteArray} {T : TypeId}
theorem OwI.set (h : OwI lo w N d ws) (ht : Ty w q T) (hne : 9 ≠ T) (k : Nat) (u : Value) : OwI lo (w.setCell ⟨q, k, none⟩ u) N d ws := ownsRow_setCell_other h (by obtain ⟨cs, fr, hx⟩ := ht; exact own_off_type h hx hne) u
theorem OwI.puts (h : OwI lo w N d ws) (ht : Ty w q T) (hne : 9 ≠ T) : ∀ (o : Nat) (vs : List Value), OwI lo (w.setCells q o vs) N d ws := by
  intro o vs
  induction vs generalizing o w with
  | nil => exact h
  | cons v vs ih => exact ih (h.set ht hne o v) (ht.set _ v) (o + 1)
theorem NowR.old {lo' : Nat} (h : OwI lo' w N d ws) (hf : Fit ws) (hl : ws.length ≤ 100) (hb : b < lo') : NowR w.heap.size w b N d ws := by
  refine ⟨Cells.of_own h, own_cap h, hf, hl, fun a ha h0 => ?_⟩
  have h1 := h.lt a.block (by rw [ha]; rfl)
  exact ⟨by omega, .inl h1.2⟩
end
section
variable {lo lo' c : Nat} {w : World} {O : Option Addr} {qs : List Amd} {hs : List AmH}
theorem OwV.low (h : OwV lo w O c qs hs) (hl : lo' ≤ lo) : OwV lo' w O c qs hs :=
  ⟨h.1, own_mono h.2.1 hl, fun i h1 h2 => ⟨(h.2.2.1 i h1 h2).1, own_mono (h.2.2.1 i h1 h2).2 hl⟩, h.2.2.2⟩
end
theorem lits2_own (w : World) (x y : ByteArray) (lo : Nat) (hlo : lo ≤ w.heap.size) : OwI lo (w.alloc (.cells #[.string x, .string y] 9)) (some ⟨w.heap.size, 0, none⟩) 2 [x, y] := by
  have h := World.ownsRow_lit w #[Value.string x, Value.string y] (e := 9) (size := 1) (base := lo) 2 hlo (by unfold maxLen; omega) (by simp)
  exact h
theorem wlF_size {ws : List ByteArray} (h : ∀ x ∈ ws, x.size ≤ 10) : ∀ k, (wlF ws k).size ≤ 12 * k
  | 0 => Nat.le_refl _
  | k + 1 => by
    have ih := wlF_size h k
    have hg : (ws.getD k ByteArray.empty).size ≤ 10 := by
      rcases Nat.lt_or_ge k ws.length with h1 | h1
      · rw [List.getD_eq_getElem?_getD, List.getElem?_eq_getElem h1]; exact h _ (List.getElem_mem h1)
      · rw [List.getD_eq_getElem?_getD, List.getElem?_eq_none h1]; exact Nat.zero_le _
    have hc : (if k = 0 then colB else ByteArray.empty).size ≤ 1 := by split <;> decide
    have hs : spB.size = 1 := rfl
    rw [wlF, ByteArray.size_append, ByteArray.size_append, ByteArray.size_append]
    omega
theorem aline_size {a : Amd} (h : vldA a = true) : (aline a).size ≤ 400 := by
  obtain ⟨p0, p1, hk, h5, h10⟩ := vldA_parts h
  have h1 := wlF_size h10 a.ws.length
  have hd1 := dec_sz2 (i := a.n.toNat) (by omega)
  have hd2 := dec_sz2 (i := a.p.toNat) (by omega)
  have hh : (headS a.k a.n.toNat).size ≤ 20 := by
    unfold headS
    split
    · decide
    · split
      · rw [ByteArray.size_append]
        have : (⟨#[115, 116, 114, 105, 107, 101, 32]⟩ : ByteArray).size = 7 := rfl
        omega
      · rw [ByteArray.size_append]
        have : (⟨#[114, 101, 112, 108, 97, 99, 101, 32]⟩ : ByteArray).size = 8 := rfl
        omega
  have ha : atB.size = 4 := rfl
  unfold aline preS
  rw [ByteArray.size_append, ByteArray.size_append, ByteArray.size_append]
  omega
/-- What the draw of an amendment gives. -/
def DrA (w : World) (e : Ending) (w' : World) : Prop := ∃ (N : Option Addr) (d : Nat) (a : Amd), e = .returned (.agg #[.int .i64 a.k, .int .i64 a.p, .int .i64 a.n, .slice N a.ws.length d]) ∧ a.ws.length ≤ 5 ∧ Short a.ws ∧ OwI w.heap.size w' N d a.ws ∧ Below w.heap.size w w'
/-- What the draw of a text and amendments gives. -/
def DrH (w : World) (e : Ending) (w' : World) : Prop := ∃ (T : Option Addr) (t : Nat) (ss : List ByteArray) (O : Option Addr) (oc : Nat) (qs : List Amd) (hs : List AmH), e = .returned (.tuple #[.slice T ss.length t, .slice O qs.length oc]) ∧ ss.length ≤ 40 ∧ Short ss ∧ OwI w.heap.size w' T t ss ∧ qs.length ≤ 9 ∧ ShQ qs ∧ OwV w.heap.size w' O oc qs hs ∧ Below w.heap.size w w'
set_option maxRecDepth 100000 in
set_option maxHeartbeats 4000000 in
theorem DrawRebuildText_any (A : Option Addr) (n c : Nat) (w : World) (h : BytesC w A n) (hn : n ≤ 65536) :
    Calls Tryz.prog 5 #[.slice A n c] w (DrH w) := by
  have C := Cur.new_ (c := c) h hn 45
  have S := Lib.hid (Tst.mk C (below1 w _) h (Nat.le_refl _))
  have hsz : w.heap.size < (w.alloc (.cells #[.slice A n c, .int .i64 0, .int .u64 0] 45)).heap.size := by simp
  clear h C
  go_enter Tryz.func5, Tryz.ntmps5
  go_upto_region 2 with fail
  generalize (w.alloc (.cells #[.slice A n c, .int .i64 0, .int .u64 0] 45)) = v1 at *
  have hbwTT := S.out.bw
  go_wp2_with fail
  refine (text_any (w.heap.size) A n c _ v1 S.out.cur (by omega)).mono ?_
  rintro e v2 ⟨T, t, ss, rfl, hl, hsh, own, hc, ho⟩
  replace S := Lib.hid (S.out.draw hc ho)
  have TT := Lib.hid (show OwI v1.heap.size v2 T t ss from own)
  have HT := Lib.hid hsh
  clear hc ho own hsh
  have hsz2 := S.out.sz
  have hszT : w.heap.size ≤ v1.heap.size := by omega
  go_wp2_with fail
  refine (amendments_any T t ss w.heap.size A n c _ v2 S.out.cur (by omega) (NowR.old TT.out (short_fit HT.out (by omega)) (by omega) hbwTT)).mono ?_
  rintro e v3 ⟨O, oc, qs, hs, rfl, hlq, hsh, own, hc, ho⟩
  replace S := Lib.hid (S.out.draw hc ho)
  replace TT := Lib.hid (TT.out.draw ho (by omega))
  go_wp2_with (refine bodyPost_ret (v := .tuple #[.slice T ss.length t, .slice O qs.length oc]) (by simp [results, Tryz.results5, go_sem]) rfl ?_; exact ⟨T, t, ss, O, oc, qs, hs, rfl, hl, HT.out, OwI.low TT.out hszT, hlq, hsh, OwV.low own hsz2, S.out.on⟩)
set_option maxRecDepth 100000 in
set_option maxHeartbeats 4000000 in
theorem DrawIsValidAmendment_any (A : Option Addr) (n c : Nat) (w : World) (h : BytesC w A n) (hn : n ≤ 65536) :
    Calls Tryz.prog 27 #[.slice A n c] w (DrA w) := by
  have hb1 := below1 w (.cells #[.int .i64 0, .int .i64 0, .int .i64 0, .slice none 0 0] 35)
  have hbe : (w.alloc (.cells #[.int .i64 0, .int .i64 0, .int .i64 0, .slice none 0 0] 35)).heap.size = w.heap.size + 1 := by simp
  have C := Cur.new_ (c := c) (h.below_ hb1) hn 45
  rw [hbe] at C
  have S := Lib.hid (Tst.mk C (below2 w (.cells #[.int .i64 0, .int .i64 0, .int .i64 0, .slice none 0 0] 35) _) h (Nat.le_succ _))
  have Z := Lib.hid ((BT.new w #[.int .i64 0, .int .i64 0, .int .i64 0, .slice none 0 0] 35 w.heap.size rfl).alloc (.cells #[.slice A n c, .int .i64 0, .int .u64 0] 45))
  have hsz : w.heap.size + 1 < ((w.alloc (.cells #[.int .i64 0, .int .i64 0, .int .i64 0, .slice none 0 0] 35)).alloc (.cells #[.slice A n c, .int .i64 0, .int .u64 0] 45)).heap.size := by simp
  clear h C hb1 hbe
  go_enter Tryz.func27, Tryz.ntmps27
  go_upto_region 2 with fail
  generalize ((w.alloc (.cells #[.int .i64 0, .int .i64 0, .int .i64 0, .slice none 0 0] 35)).alloc (.cells #[.slice A n c, .int .i64 0, .int .u64 0] 45)) = v1 at *
  have hbwTT := S.out.bw
  go_wp2_with fail
  refine (text_any (w.heap.size + 1) A n c _ v1 S.out.cur (by omega)).mono ?_
  rintro e v2 ⟨T, t, ss, rfl, hl, hsh, own, hc, ho⟩
  replace S := Lib.hid (S.out.draw hc ho)
  replace Z := Lib.hid (Z.out.draw ho (by omega))
  have TT := Lib.hid (show OwI v1.heap.size v2 T t ss from own)
  have HT := Lib.hid hsh
  clear hc ho own hsh
  have hbwI := S.out.bw
  have hszI := S.out.sz
  go_wp2_with fail
  refine (amendment_any T t ss.length (w.heap.size + 1) A n c _ v2 S.out.cur (by omega) (by omega)).mono ?_
  rintro e v3 ⟨N, d, a, rfl, hws, hsh, own, hc, ho⟩
  replace S := Lib.hid (S.out.draw hc ho)
  replace Z := Lib.hid (Z.out.draw ho (by omega))
  replace TT := Lib.hid (TT.out.draw ho (by omega))
  have I := Lib.hid (show OwI v2.heap.size v3 N d a.ws from own)
  have HS := Lib.hid hsh
  have HF := Lib.hid (short_fit hsh (by omega))
  clear hc ho own hsh
  clear TT
  go_wp2_with (first | ((refine wpList_store_mid rfl 35 _ _ rfl w.heap.size 0 #[.int .i64 a.k, .int .i64 a.p, .int .i64 a.n, .slice N a.ws.length d] rfl rfl Z.out.there (by kernel_rfl) (by simp [Value.oneCell']) ?_); replace S := Lib.hid (S.out.puts (q := w.heap.size) (by omega) 0 [.int .i64 a.k, .int .i64 a.p, .int .i64 a.n, .slice N a.ws.length d]); replace I := Lib.hid (I.out.puts Z.out.ty (by decide) 0 [.int .i64 a.k, .int .i64 a.p, .int .i64 a.n, .slice N a.ws.length d]); replace Z := Lib.hid (Z.out.puts [.int .i64 a.k, .int .i64 a.p, .int .i64 a.n, .slice N a.ws.length d] (by rfl)); have KS := Z.out.box; have k0 := KS.1 0 _ rfl; have k1 := KS.1 1 _ rfl; have k2 := KS.1 2 _ rfl; have k3 := KS.1 3 _ rfl; clear KS) | (refine bodyPost_ret (v := .agg #[.int .i64 a.k, .int .i64 a.p, .int .i64 a.n, .slice N a.ws.length d]) (by (simp [results, Tryz.results27, go_sem, k0, k1, k2, k3])) rfl ?_; exact ⟨N, d, a, rfl, hws, HS.out, OwI.low I.out (by omega), S.out.on⟩))
theorem below_puts {B q : Nat} {w0 w : World} (h : Below B w0 w) (hq : B ≤ q) : ∀ (o : Nat) (vs : List Value), Below B w0 (w.setCells q o vs) := by
  intro o vs
  induction vs generalizing o w with
  | nil => exact h
  | cons v vs ih => exact ih (h.setCell (p := ⟨q, o, none⟩) hq v) (o + 1)
set_option maxRecDepth 100000 in
set_option maxHeartbeats 4000000 in
theorem DrawAmendmentLine_any (A : Option Addr) (n c : Nat) (w : World) (h : BytesC w A n) (hn : n ≤ 65536) :
    Calls Tryz.prog 12 #[.slice A n c] w (DrA w) := by
  have Z := Lib.hid (BT.new w #[.int .i64 0, .int .i64 0, .int .i64 0, .slice none 0 0] 35 w.heap.size rfl)
  have hb1 := below1 w (.cells #[.int .i64 0, .int .i64 0, .int .i64 0, .slice none 0 0] 35)
  have HY := Lib.hid (h.below_ hb1)
  have hsz : w.heap.size < (w.alloc (.cells #[.int .i64 0, .int .i64 0, .int .i64 0, .slice none 0 0] 35)).heap.size := by simp
  have HB := Lib.hid hb1
  clear h hb1
  go_enter Tryz.func12, Tryz.ntmps12
  go_upto_region 1 with fail
  generalize (w.alloc (.cells #[.int .i64 0, .int .i64 0, .int .i64 0, .slice none 0 0] 35)) = W at *
  go_wp2_with fail
  refine (DrawIsValidAmendment_any A n c W HY.out hn).mono ?_
  rintro e v ⟨N, d, a, rfl, hws, hsh, own, hb⟩
  replace Z := Lib.hid (Z.out.call hb)
  replace HB := Lib.hid (HB.out.trans (hb.mono HB.out.size))
  have I := Lib.hid own
  have HS := Lib.hid hsh
  clear hb own hsh
  go_wp2_with (first | ((refine wpList_store_mid rfl 35 _ _ rfl w.heap.size 0 #[.int .i64 a.k, .int .i64 a.p, .int .i64 a.n, .slice N a.ws.length d] rfl rfl Z.out.there (by kernel_rfl) (by simp [Value.oneCell']) ?_); replace I := Lib.hid (I.out.puts Z.out.ty (by decide) 0 [.int .i64 a.k, .int .i64 a.p, .int .i64 a.n, .slice N a.ws.length d]); replace Z := Lib.hid (Z.out.puts [.int .i64 a.k, .int .i64 a.p, .int .i64 a.n, .slice N a.ws.length d] (by rfl)); have KS := Z.out.box; replace HB := Lib.hid (below_puts HB.out (Nat.le_refl _) 0 [.int .i64 a.k, .int .i64 a.p, .int .i64 a.n, .slice N a.ws.length d]); have k0 := KS.1 0 _ rfl; have k1 := KS.1 1 _ rfl; have k2 := KS.1 2 _ rfl; have k3 := KS.1 3 _ rfl; clear KS) | (refine bodyPost_ret (v := .agg #[.int .i64 a.k, .int .i64 a.p, .int .i64 a.n, .slice N a.ws.length d]) (by (simp [results, Tryz.results12, go_sem, k0, k1, k2, k3])) rfl ?_; exact ⟨N, d, a, rfl, hws, HS.out, OwI.low I.out (by omega), HB.out⟩))
set_option maxRecDepth 100000 in
set_option maxHeartbeats 4000000 in
theorem DrawParseAmendment_any (A : Option Addr) (n c : Nat) (w : World) (h : BytesC w A n) (hn : n ≤ 65536) :
    Calls Tryz.prog 16 #[.slice A n c] w fun e w' => (∃ x : ByteArray, e = .returned (.string x) ∧ x.size ≤ 500) ∧ Below w.heap.size w w' := by
  have C := Cur.new_ (c := c) h hn 45
  have S := Lib.hid (Tst.mk C (below1 w _) h (Nat.le_refl _))
  have hsz : w.heap.size < (w.alloc (.cells #[.slice A n c, .int .i64 0, .int .u64 0] 45)).heap.size := by simp
  clear h C
  go_enter Tryz.func16, Tryz.ntmps16
  go_upto_region 2 with fail
  generalize (w.alloc (.cells #[.slice A n c, .int .i64 0, .int .u64 0] 45)) = v1 at *
  have hbwTT := S.out.bw
  go_wp2_with fail
  refine (words_any 8 (by omega) (by omega) (w.heap.size) A n c _ v1 S.out.cur (by omega)).mono ?_
  rintro e v2 ⟨T, t, ss, rfl, hl, hsh, own, hc, ho⟩
  replace S := Lib.hid (S.out.draw hc ho)
  have TT := Lib.hid (show OwI v1.heap.size v2 T t ss from own)
  have HT := Lib.hid hsh
  clear hc ho own hsh
  have hbwI := S.out.bw
  have hszI := S.out.sz
  go_wp2_with fail
  refine (amendment_any T t ss.length (w.heap.size) A n c _ v2 S.out.cur (by omega) (by omega)).mono ?_
  rintro e v3 ⟨N, d, a, rfl, hws, hsh, own, hc, ho⟩
  replace S := Lib.hid (S.out.draw hc ho)
  replace TT := Lib.hid (TT.out.draw ho (by omega))
  have I := Lib.hid (show OwI v2.heap.size v3 N d a.ws from own)
  have HS := Lib.hid hsh
  have HF := Lib.hid (short_fit hsh (by omega))
  clear hc ho own hsh
  clear TT
  have hq := S.out.sz
  have hqb := S.out.bw
  have B := Lib.hid (BT.new v3 #[.int .i64 a.k, .int .i64 a.p, .int .i64 a.n, .slice N a.ws.length d] 35 v3.heap.size rfl)
  have hbl := below1 v3 (.cells #[.int .i64 a.k, .int .i64 a.p, .int .i64 a.n, .slice N a.ws.length d] 35)
  replace S := Lib.hid (S.out.call hbl)
  replace I := Lib.hid (I.out.call hbl)
  clear hbl
  go_upto_region 3 with fail
  generalize (v3.alloc (.cells #[.int .i64 a.k, .int .i64 a.p, .int .i64 a.n, .slice N a.ws.length d] 35)) = v4 at *
  generalize v3.heap.size = q at *
  go_wp2_with (refine wpList_load_mid rfl 35 _ rfl q 0 rfl [.int .i64 a.k, .int .i64 a.p, .int .i64 a.n, .slice N a.ws.length d] _ B.out.rng Tryz.underlying35 rfl (by kernel_rfl) ?_)
  refine (l9Good_any N d a v4 (Cells.of_own I.out) HF.out).mono ?_
  rintro e v5 ⟨rfl, hb⟩
  replace S := Lib.hid (S.out.call hb)
  replace I := Lib.hid (I.out.call hb)
  replace B := Lib.hid (B.out.call hb)
  clear hb
  rcases Bool.eq_false_or_eq_true (vldA a) with hv | hv
  · rw [hv]
    have HV := Lib.hid hv
    clear hv
    have hsz9 := aline_size (a := a) HV.out
    go_wp2_with (refine wpList_load_mid rfl 35 _ rfl q 0 rfl [.int .i64 a.k, .int .i64 a.p, .int .i64 a.n, .slice N a.ws.length d] _ B.out.rng Tryz.underlying35 rfl (by kernel_rfl) ?_)
    refine (sline_any N d a v5 (OwS.mk I.out HF.out) HV.out).mono ?_
    rintro e v6 ⟨rfl, hb⟩
    replace S := Lib.hid (S.out.call hb)
    replace I := Lib.hid (I.out.call hb)
    replace B := Lib.hid (B.out.call hb)
    clear hb
    generalize aline a = t9 at *
    go_wp2_with fail
    refine (one_any 4 (by omega) (by omega) w.heap.size A n c _ _ S.out.cur (by omega)).mono ?_
    rintro e v7 ⟨⟨x, rfl⟩, hc, ho⟩
    replace S := Lib.hid (S.out.draw hc ho)
    replace I := Lib.hid (I.out.draw ho (by omega))
    replace B := Lib.hid (B.out.draw ho (by omega))
    clear hc ho 
    rcases Bool.eq_false_or_eq_true x with hx | hx
    · subst hx
      go_wp2_with fail
      refine (spoiltN_any t9 ⟨#[49, 32, 58, 97, 105, 116]⟩ (by omega) (by decide) (by decide) w.heap.size A n c _ _ S.out.cur (by omega)).mono ?_
      rintro e v8 ⟨⟨x, rfl, hx⟩, hc, ho⟩
      replace S := Lib.hid (S.out.draw hc ho)
      replace I := Lib.hid (I.out.draw ho (by omega))
      replace B := Lib.hid (B.out.draw ho (by omega))
      clear hc ho 
      go_wp2
      go_ret
      exact ⟨⟨x, rfl, by omega⟩, S.out.on⟩
    · subst hx
      go_wp2
      go_ret
      exact ⟨⟨t9, rfl, by omega⟩, S.out.on⟩
  · rw [hv]
    clear hv
    clear I
    have hq5 := S.out.bw
    have I := Lib.hid (lits2_own v5 ⟨#[98, 101]⟩ ⟨#[110, 111, 116]⟩ v5.heap.size (Nat.le_refl _))
    have hbl := below1 v5 (.cells #[.string ⟨#[98, 101]⟩, .string ⟨#[110, 111, 116]⟩] 9)
    replace S := Lib.hid (S.out.call hbl)
    replace B := Lib.hid (B.out.call hbl)
    clear hbl
    go_upto_region 5 with ((refine wpList_store_mid rfl 35 _ _ rfl q 0 #[.int .i64 3, .int .i64 2, .int .i64 1, .slice (some ⟨v5.heap.size, 0, none⟩) 2 2] rfl rfl B.out.there (by kernel_rfl) (by simp [Value.oneCell']) ?_))
    replace S := Lib.hid (S.out.puts (q := q) (by omega) 0 [.int .i64 3, .int .i64 2, .int .i64 1, .slice (some ⟨v5.heap.size, 0, none⟩) 2 2])
    replace I := Lib.hid (I.out.puts B.out.ty (by decide) 0 [.int .i64 3, .int .i64 2, .int .i64 1, .slice (some ⟨v5.heap.size, 0, none⟩) 2 2])
    replace B := Lib.hid (B.out.puts [.int .i64 3, .int .i64 2, .int .i64 1, .slice (some ⟨v5.heap.size, 0, none⟩) 2 2] (by rfl))
    generalize ((v5.alloc (.cells #[.string ⟨#[98, 101]⟩, .string ⟨#[110, 111, 116]⟩] 9)).setCells q 0 [.int .i64 3, .int .i64 2, .int .i64 1, .slice (some ⟨v5.heap.size, 0, none⟩) 2 2]) = v9 at *
    have HV : Hid (vldA ⟨3, 2, 1, [⟨#[98, 101]⟩, ⟨#[110, 111, 116]⟩]⟩ = true) := Lib.hid (by decide +kernel)
    have hsz9 := aline_size (a := ⟨3, 2, 1, [⟨#[98, 101]⟩, ⟨#[110, 111, 116]⟩]⟩) HV.out
    go_wp2_with (refine wpList_load_mid rfl 35 _ rfl q 0 rfl [.int .i64 3, .int .i64 2, .int .i64 1, .slice (some ⟨v5.heap.size, 0, none⟩) 2 2] _ B.out.rng Tryz.underlying35 rfl (by kernel_rfl) ?_)
    refine (slineF (some ⟨v5.heap.size, 0, none⟩) 2 3 2 1 [⟨#[98, 101]⟩, ⟨#[110, 111, 116]⟩] v9 (OwS.mk I.out ⟨by decide, fun s hs => by simp at hs; rcases hs with rfl | rfl <;> decide⟩) HV.out).mono ?_
    rintro e v10 ⟨rfl, hb⟩
    replace S := Lib.hid (S.out.call hb)
    replace B := Lib.hid (B.out.call hb)
    replace I := Lib.hid (I.out.call hb)
    clear hb
    generalize aline ⟨3, 2, 1, [⟨#[98, 101]⟩, ⟨#[110, 111, 116]⟩]⟩ = t9 at *
    go_wp2_with fail
    refine (one_any 4 (by omega) (by omega) w.heap.size A n c _ _ S.out.cur (by omega)).mono ?_
    rintro e v11 ⟨⟨x, rfl⟩, hc, ho⟩
    replace S := Lib.hid (S.out.draw hc ho)
    replace B := Lib.hid (B.out.draw ho (by omega))
    replace I := Lib.hid (I.out.draw ho (by omega))
    clear hc ho 
    rcases Bool.eq_false_or_eq_true x with hx | hx
    · subst hx
      go_wp2_with fail
      refine (spoiltN_any t9 ⟨#[49, 32, 58, 97, 105, 116]⟩ (by omega) (by decide) (by decide) w.heap.size A n c _ _ S.out.cur (by omega)).mono ?_
      rintro e v12 ⟨⟨x, rfl, hx⟩, hc, ho⟩
      replace S := Lib.hid (S.out.draw hc ho)
      replace B := Lib.hid (B.out.draw ho (by omega))
      replace I := Lib.hid (I.out.draw ho (by omega))
      clear hc ho 
      go_wp2
      go_ret
      exact ⟨⟨x, rfl, by omega⟩, S.out.on⟩
    · subst hx
      go_wp2
      go_ret
      exact ⟨⟨t9, rfl, by omega⟩, S.out.on⟩
end Go.Proofs.YtnnphhhjkhoglaaGreatDoor
