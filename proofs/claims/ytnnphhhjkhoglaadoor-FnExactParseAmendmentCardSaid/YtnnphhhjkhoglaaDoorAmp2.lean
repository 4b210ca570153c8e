/- What ParseAmendment calls: a text cut at a colon, the kind of a word, the line of a valid amendment. Conditions: what Wds4, Cx name; the ranges named. -/
import Derived.Test.YtnnphhhjkhoglaaDoorAmp1
import Derived.Test.YtnnphhhjkhoglaaDoorAl2
import Derived.Test.YtnnphhhjkhoglaaDoorPc1
import Derived.Test.YtnnphhhjkhoglaaDoorPw4
import Derived.Test.YtnnphhhjkhoglaaDoorLst
import Derived.Lib.SlicesS
namespace Go.Proofs.YtnnphhhjkhoglaaDoor
open Go.RowKit
set_option linter.unusedVariables false
set_option linter.unusedSimpArgs false
def nI (o : Option Int) : Int := o.getD 0
def bI (o : Option Int) : Bool := o.isSome
theorem optI_eq (o : Option Int) : optI o = .tuple #[.int .i64 (nI o), .bool (bI o)] := by cases o <;> rfl
theorem cut2_any (s : ByteArray) (w : World) (hs : s.size ≤ 1048576) (h : Mx w) : Calls Tryd.prog 10 #[.string s, .string ⟨#[58, 32]⟩] w fun e w' => e = .returned (.tuple #[.string (bar (Go.Lib.cut s.data.toList [58, 32]).1), .string (bar (Go.Lib.cut s.data.toList [58, 32]).2.1), .bool (Go.Lib.cut s.data.toList [58, 32]).2.2]) ∧ Below w.heap.size w w' := by
  obtain ⟨m, hm⟩ := h
  refine (Tryd.strings_Cut s ⟨#[58, 32]⟩ m w (by omega) hm).mono ?_
  rintro e w' ⟨rfl, n, rfl⟩
  exact ⟨rfl, below_drewN (Below.refl _ _) _⟩
theorem cut_len (l : List UInt8) : (Go.Lib.cut l [58, 32]).1.length ≤ l.length ∧ (Go.Lib.cut l [58, 32]).2.1.length ≤ l.length - 1 := by
  unfold Go.Lib.cut
  split
  · refine ⟨by simp; omega, by simp; omega⟩
  · exact ⟨Nat.le_refl _, by simp⟩
/-- What the table of words holds, the empty word too. -/
def Wds4 (w : World) : Prop := Wds w ∧ w.cell? ⟨0, 0, none⟩ = some (.string ⟨#[]⟩)
theorem Wds4.below {w w' : World} (h : Wds4 w) (hb : Below w.heap.size w w') : Wds4 w' := ⟨h.1.below hb, keep_cell hb h.2⟩
def wd4 : List ByteArray := [⟨#[]⟩, ⟨#[105, 110, 115, 101, 114, 116]⟩, ⟨#[115, 116, 114, 105, 107, 101]⟩, ⟨#[114, 101, 112, 108, 97, 99, 101]⟩]
theorem bar_ne {l m : List UInt8} (h : l ≠ m) : bar l ≠ bar m := fun e => h (by rw [← bar_list l, e, bar_list])
theorem idx4 (x : List UInt8) : Go.Lib.idxOfS wd4 (bar x) = kdI x := by
  have e0 : (⟨#[]⟩ : ByteArray) = bar [] := rfl
  have e1 : (⟨#[105, 110, 115, 101, 114, 116]⟩ : ByteArray) = bar insL := rfl
  have e2 : (⟨#[115, 116, 114, 105, 107, 101]⟩ : ByteArray) = bar stkL := rfl
  have e3 : (⟨#[114, 101, 112, 108, 97, 99, 101]⟩ : ByteArray) = bar repL := rfl
  unfold Go.Lib.idxOfS wd4
  rw [e0, e1, e2, e3]
  unfold kdI
  by_cases h0 : x = []
  · subst h0; rw [if_pos rfl]; simp [Go.Lib.idxFromS]
  have n0 := bar_ne (Ne.symm h0)
  rw [if_neg h0]
  by_cases h1 : x = insL
  · subst h1; rw [if_pos rfl]; simp [Go.Lib.idxFromS, n0]
  have n1 := bar_ne (Ne.symm h1)
  rw [if_neg h1]
  by_cases h2 : x = stkL
  · subst h2; rw [if_pos rfl]; simp [Go.Lib.idxFromS, n0, n1]
  have n2 := bar_ne (Ne.symm h2)
  rw [if_neg h2]
  by_cases h3 : x = repL
  · subst h3; rw [if_pos rfl]; simp [Go.Lib.idxFromS, n0, n1, n2]
  have n3 := bar_ne (Ne.symm h3)
  rw [if_neg h3]
  simp [Go.Lib.idxFromS, n0, n1, n2, n3]
theorem index4_any (x : List UInt8) (w : World) (h : Wds4 w) : Calls Tryd.prog 13 #[.slice (some ⟨0, 0, none⟩) 4 4, .string (bar x)] w fun e w' => e = .returned (.int .i64 (kdI x)) ∧ w = w' := by
  refine (Tryd.slices_Index_string 0 0 4 4 wd4 (bar x) w (by decide) (by decide) (fun j hj => ?_)).mono ?_
  · obtain ⟨⟨_, h1, h2, h3⟩, h0⟩ := h
    have hj4 : j < 4 := hj
    rcases (show j = 0 ∨ j = 1 ∨ j = 2 ∨ j = 3 by omega) with rfl | rfl | rfl | rfl
    · exact h0
    · exact h1
    · exact h2
    · exact h3
  · rintro e w' ⟨rfl, rfl⟩
    have e4 : wd4.take 4 = wd4 := rfl
    rw [e4, idx4]
    exact ⟨rfl, rfl⟩
theorem line_any {lo hi : Nat} (A : Option Addr) (c : Nat) (a : Amd) (w : World) (h : OwS lo hi w A c a.ws) (hv : vldA a = true) (hW : Wds w) : Calls Tryd.prog 15 #[.agg #[.int .i64 a.k, .int .i64 a.p, .int .i64 a.n, .slice A a.ws.length c]] w fun e w' => e = .returned (.string (aline a)) ∧ Below w.heap.size w w' := by
  obtain ⟨k, p, n, ws⟩ := a
  obtain ⟨p0, p1, hk, h5, h10⟩ := vldA_parts hv
  simp only at p0 p1 hk h5 h10 h ⊢
  obtain ⟨pn, rfl⟩ : ∃ x : Nat, p = (x : Int) := ⟨p.toNat, by omega⟩
  obtain ⟨nn, rfl⟩ : ∃ x : Nat, n = (x : Int) := ⟨n.toNat, by omega⟩
  have e : ∀ k : Int, aline ⟨k, (pn : Int), (nn : Int), ws⟩ = headS k nn ++ atB ++ dec pn ++ wlF ws ws.length := fun k => rfl
  rw [e]
  rcases hk with ⟨rfl, _, hl⟩ | ⟨rfl, _, _, hl⟩ | ⟨rfl, _, _, hl⟩
  · exact amendmentLine_1 A c pn nn ws w (by omega) (by omega) h.rd (fun h0 => own_form h h0) (by omega) h5 h10 hW
  · exact amendmentLine_2 A c pn nn ws w (by omega) (by omega) h.rd (fun h0 => own_form h h0) (by omega) h5 h10 hW
  · exact amendmentLine_3 A c pn nn ws w (by omega) (by omega) h.rd (fun h0 => own_form h h0) (by omega) h5 h10 hW
theorem sline_any {lo hi : Nat} (A : Option Addr) (c : Nat) (a : Amd) (w : World) (h : OwS lo hi w A c a.ws) (hv : vldA a = true) : Calls Tryd.prog 23 #[.agg #[.int .i64 a.k, .int .i64 a.p, .int .i64 a.n, .slice A a.ws.length c]] w fun e w' => e = .returned (.string (aline a)) ∧ Below w.heap.size w w' := by
  obtain ⟨k, p, n, ws⟩ := a
  obtain ⟨p0, p1, hk, h5, h10⟩ := vldA_parts hv
  simp only at p0 p1 hk h5 h10 h ⊢
  obtain ⟨pn, rfl⟩ : ∃ x : Nat, p = (x : Int) := ⟨p.toNat, by omega⟩
  obtain ⟨nn, rfl⟩ : ∃ x : Nat, n = (x : Int) := ⟨n.toNat, by omega⟩
  have e : ∀ k : Int, aline ⟨k, (pn : Int), (nn : Int), ws⟩ = headS k nn ++ atB ++ dec pn ++ wlF ws ws.length := fun k => rfl
  rw [e]
  rcases hk with ⟨rfl, _, hl⟩ | ⟨rfl, _, _, hl⟩ | ⟨rfl, _, _, hl⟩
  · exact l9Line_1 A c pn nn ws w (by omega) (by omega) h.rd (by omega) (by omega) h10
  · exact l9Line_2 A c pn nn ws w (by omega) (by omega) h.rd (by omega) (by omega) h10
  · exact l9Line_3 A c pn nn ws w (by omega) (by omega) h.rd (by omega) (by omega) h10
def amR (o : Option Amd) : Amd := o.getD ⟨0, 0, 0, []⟩
def amB (o : Option Amd) : Bool := o.isSome
/-- A call that returns an amendment and whether there is one. -/
def AmTo (w : World) (a : Amd) (ok : Bool) (e : Ending) (w' : World) : Prop := ∃ (A : Option Addr) (c : Nat), e = .returned (.tuple #[.agg #[.int .i64 a.k, .int .i64 a.p, .int .i64 a.n, .slice A a.ws.length c], .bool ok]) ∧ OwS w.heap.size w'.heap.size w' A c a.ws ∧ Below w.heap.size w w'
theorem owd_ows {lo : Nat} {w : World} {A : Option Addr} {c : Nat} {ss : List ByteArray} (h : OwD StrK 9 lo w A c ss) : OwS lo w.heap.size w A c ss := ⟨by have h1 := h.1; rw [row_strs] at h1; exact h1, h.2.1, h.2.2⟩
theorem amTo_no {w w' : World} {o : Option Amd} (h : o = none) (hb : Below w.heap.size w w') : AmTo w (amR o) (amB o) (.returned (.tuple #[.agg #[.int .i64 0, .int .i64 0, .int .i64 0, .slice none 0 0], .bool false])) w' := by
  rw [h]
  exact ⟨none, 0, rfl, ⟨⟨by simp [strs, amR], .inl ⟨rfl, rfl⟩⟩, (fun a h => (by cases h)), by simp [amR], (fun x h => (by simp [amR] at h))⟩, hb⟩
theorem amTo_yes {w w' : World} {o : Option Amd} {k p n : Int} {A : Option Addr} {c : Nat} {ss : List ByteArray} (h : o = some ⟨k, p, n, ss⟩) (hx : OwD StrK 9 w.heap.size w' A c ss) (hb : Below w.heap.size w w') : AmTo w (amR o) (amB o) (.returned (.tuple #[.agg #[.int .i64 k, .int .i64 p, .int .i64 n, .slice A ss.length c], .bool true])) w' := by
  rw [h]
  exact ⟨A, c, rfl, owd_ows hx, hb⟩
theorem OwP.puts {lo q : Nat} {w : World} {O : Option Addr} {oc : Nat} {ps : List ByteArray} {T : TypeId} (h : OwP lo w O oc ps) (ht : Ty w q T) (hne : 9 ≠ T) : ∀ (o : Nat) (vs : List Value), OwP lo (w.setCells q o vs) O oc ps := by
  intro o vs
  induction vs generalizing o w with
  | nil => exact h
  | cons v vs ih => exact ih ⟨ownsRow_setCell_other h.1 (by obtain ⟨cs, fr, hx⟩ := ht; exact own_off_type h.1 hx hne) v, h.2⟩ (ht.set _ v) (o + 1)
theorem OwP.set {lo q : Nat} {w : World} {O : Option Addr} {oc : Nat} {ps : List ByteArray} {T : TypeId} (h : OwP lo w O oc ps) (ht : Ty w q T) (hne : 9 ≠ T) (k : Nat) (u : Value) : OwP lo (w.setCell ⟨q, k, none⟩ u) O oc ps := h.puts ht hne k [u]
theorem Lst.set {w0 w : World} {A : Option Addr} {n : Nat} (h : Lst w0 w A n) (p : Addr) (hp : w0.heap.size ≤ p.block) (v : Value) : Lst w0 (w.setCell p v) A n := ⟨h.on.setCell hp v, h.by0⟩
theorem lst0 (w : World) : Lst w w none 0 := ⟨Below.refl _ _, fun i hi => absurd hi (by omega)⟩
theorem results_cell_tmp {fn : Func} {p u : Tmp} {ty : TypeId} (h : fn.results = #[.cell p ty, .tmp u]) (tmps : Array Value) (P : Program) (w : World) :
    (results fn tmps).run P w = ((asAddr (tmps.getD p undef)).run P w).andThen fun a w1 => ((loadVar ty a).run P w1).andThen fun v w2 => .ok (.tuple #[v, tmps.getD u undef]) w2 := by
  simp only [results, h]
  simp [Sem.run_bind, Result.andThen]
theorem validF {lo hi : Nat} (A : Option Addr) (c : Nat) (k p n : Int) (ss : List ByteArray) (w : World) (h : OwS lo hi w A c ss) : Calls Tryd.prog 14 #[.agg #[.int .i64 k, .int .i64 p, .int .i64 n, .slice A ss.length c]] w fun e w' => e = .returned (.bool (vldA ⟨k, p, n, ss⟩)) ∧ Below w.heap.size w w' := IsValidAmendment_any A c ⟨k, p, n, ss⟩ w h.rd.cells h.2.2
theorem goodF {lo hi : Nat} (A : Option Addr) (c : Nat) (k p n : Int) (ss : List ByteArray) (w : World) (h : OwS lo hi w A c ss) : Calls Tryd.prog 22 #[.agg #[.int .i64 k, .int .i64 p, .int .i64 n, .slice A ss.length c]] w fun e w' => e = .returned (.bool (vldA ⟨k, p, n, ss⟩)) ∧ Below w.heap.size w w' := l9Good_any A c ⟨k, p, n, ss⟩ w h.rd.cells h.2.2
theorem lineF {lo hi : Nat} (A : Option Addr) (c : Nat) (k p n : Int) (ss : List ByteArray) (w : World) (h : OwS lo hi w A c ss) (hv : vldA ⟨k, p, n, ss⟩ = true) (hW : Wds w) : Calls Tryd.prog 15 #[.agg #[.int .i64 k, .int .i64 p, .int .i64 n, .slice A ss.length c]] w fun e w' => e = .returned (.string (aline ⟨k, p, n, ss⟩)) ∧ Below w.heap.size w w' := line_any A c ⟨k, p, n, ss⟩ w h hv hW
theorem slineF {lo hi : Nat} (A : Option Addr) (c : Nat) (k p n : Int) (ss : List ByteArray) (w : World) (h : OwS lo hi w A c ss) (hv : vldA ⟨k, p, n, ss⟩ = true) : Calls Tryd.prog 23 #[.agg #[.int .i64 k, .int .i64 p, .int .i64 n, .slice A ss.length c]] w fun e w' => e = .returned (.string (aline ⟨k, p, n, ss⟩)) ∧ Below w.heap.size w w' := sline_any A c ⟨k, p, n, ss⟩ w h hv
theorem finA_b {l : List UInt8} {f : Int → Int → Amd} {p n : Option Int} (h : (bI p && bI n) = false) : finA l f p n = none := by
  cases p with
  | none => rfl
  | some p => cases n with
    | none => rfl
    | some n => cases h
theorem finA_t {l : List UInt8} {f : Int → Int → Amd} {p n : Option Int} (h : (bI p && bI n) = true) : finA l f p n = if vldA (f (nI p) (nI n)) = true ∧ alL (f (nI p) (nI n)) = l then some (f (nI p) (nI n)) else none := by
  cases p with
  | none => cases h
  | some p => cases n with
    | none => cases h
    | some n => rfl
end Go.Proofs.YtnnphhhjkhoglaaDoor
