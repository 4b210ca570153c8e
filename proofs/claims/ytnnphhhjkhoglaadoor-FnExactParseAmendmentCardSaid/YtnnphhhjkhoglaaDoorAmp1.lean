/- Amendments read from their lines, in two ways: the same. No program is named here. Conditions: none. -/
import Derived.Test.YtnnphhhjkhoglaaDoorAl1
import Derived.Test.YtnnphhhjkhoglaaDoorPt2
import Derived.Test.YtnnphhhjkhoglaaDoorCut1
namespace Go.Proofs.YtnnphhhjkhoglaaDoor
open Go.Lib
set_option linter.unusedVariables false
def alL (a : Amd) : List UInt8 := (aline a).data.toList
def insL : List UInt8 := [105, 110, 115, 101, 114, 116]
def stkL : List UInt8 := [115, 116, 114, 105, 107, 101]
def repL : List UInt8 := [114, 101, 112, 108, 97, 99, 101]
def atL : List UInt8 := [97, 116]
/-- The words ahead of the colon. -/
def hdW (a : Amd) : List (List UInt8) := if a.k = 1 then [insL, atL, decDigits a.p.toNat] else if a.k = 2 then [stkL, decDigits a.n.toNat, atL, decDigits a.p.toNat] else [repL, decDigits a.n.toNat, atL, decDigits a.p.toNat]
theorem no_dec {b : UInt8} (n : Nat) (h : b.toNat < 48 ∨ 57 < b.toNat) : b ∉ decDigits n := fun hb => by
  have := dec_mem hb
  omega
theorem dec_list (n : Nat) : (dec n).data.toList = decDigits n := by unfold dec; simp
theorem hd_spl (a : Amd) (hk : a.k = 1 ∨ a.k = 2 ∨ a.k = 3) : spl 32 (preS a).data.toList = hdW a ∧ (58 : UInt8) ∉ (preS a).data.toList ∧ (preS a).data.toList.length ≤ 12 + (decDigits a.n.toNat).length + (decDigits a.p.toNat).length := by
  have n1 := no_dec (b := 32) a.n.toNat (by decide)
  have n2 := no_dec (b := 32) a.p.toNat (by decide)
  have c1 := no_dec (b := 58) a.n.toNat (by decide)
  have c2 := no_dec (b := 58) a.p.toNat (by decide)
  unfold preS headS hdW
  rcases hk with h | h | h
  · rw [if_pos h, if_pos h]
    have e : ((⟨#[105, 110, 115, 101, 114, 116]⟩ : ByteArray) ++ atB ++ dec a.p.toNat).data.toList = insL ++ 32 :: (atL ++ 32 :: decDigits a.p.toNat) := by
      rw [ByteArray.data_append, ByteArray.data_append, Array.toList_append, Array.toList_append, dec_list]
      simp [atB, insL, atL]
    rw [e]
    refine ⟨?_, ?_, ?_⟩
    · unfold spl; rw [spF_hit (by decide), spF_hit (by decide), spF_no n2]; rfl
    · simp [insL, atL, c2]
    · simp [insL, atL]; omega
  · have h1 : ¬ a.k = 1 := by omega
    rw [if_neg h1, if_neg h1, if_pos h, if_pos h]
    have e : ((⟨#[115, 116, 114, 105, 107, 101, 32]⟩ : ByteArray) ++ dec a.n.toNat ++ atB ++ dec a.p.toNat).data.toList = stkL ++ 32 :: (decDigits a.n.toNat ++ 32 :: (atL ++ 32 :: decDigits a.p.toNat)) := by
      rw [ByteArray.data_append, ByteArray.data_append, ByteArray.data_append, Array.toList_append, Array.toList_append, Array.toList_append, dec_list, dec_list]
      simp [atB, stkL, atL]
    rw [e]
    refine ⟨?_, ?_, ?_⟩
    · unfold spl; rw [spF_hit (by decide), spF_hit n1, spF_hit (by decide), spF_no n2]; rfl
    · simp [stkL, atL, c1, c2]
    · simp [stkL, atL]; omega
  · have h1 : ¬ a.k = 1 := by omega
    have h2 : ¬ a.k = 2 := by omega
    rw [if_neg h1, if_neg h1, if_neg h2, if_neg h2]
    have e : ((⟨#[114, 101, 112, 108, 97, 99, 101, 32]⟩ : ByteArray) ++ dec a.n.toNat ++ atB ++ dec a.p.toNat).data.toList = repL ++ 32 :: (decDigits a.n.toNat ++ 32 :: (atL ++ 32 :: decDigits a.p.toNat)) := by
      rw [ByteArray.data_append, ByteArray.data_append, ByteArray.data_append, Array.toList_append, Array.toList_append, Array.toList_append, dec_list, dec_list]
      simp [atB, repL, atL]
    rw [e]
    refine ⟨?_, ?_, ?_⟩
    · unfold spl; rw [spF_hit (by decide), spF_hit n1, spF_hit (by decide), spF_no n2]; rfl
    · simp [repL, atL, c1, c2]
    · simp [repL, atL]; omega
theorem al_none {a : Amd} (h : a.ws = []) : alL a = (preS a).data.toList := by
  unfold alL aline
  rw [h, ByteArray.data_append, Array.toList_append]
  simp [wlF]
theorem al_some {a : Amd} (h : 0 < a.ws.length) : alL a = (preS a).data.toList ++ 58 :: 32 :: (joinB a.ws).data.toList := by
  unfold alL aline
  rw [wl_join h, ByteArray.data_append, ByteArray.data_append, Array.toList_append, Array.toList_append]
  rfl
theorem word_mem {s : ByteArray} (h : wordB s = true) {b : UInt8} (hb : b ∈ s.data.toList) : 97 ≤ b.toNat := by
  unfold wordB lettersB at h
  rw [Bool.and_eq_true, List.all_eq_true] at h
  have := h.1 b hb
  unfold letterB at this
  simp only [Bool.and_eq_true, decide_eq_true_eq] at this
  exact this.1
theorem vld_words {a : Amd} (h : vldA a = true) : ∀ s ∈ a.ws, wordB s = true := by
  rw [← vldA2_eq] at h
  unfold vldA2 at h
  rw [Bool.and_eq_true, Bool.and_eq_true] at h
  have h1 := h.1.2
  unfold wordsB at h1
  rw [Bool.and_eq_true, List.all_eq_true] at h1
  exact h1.2
theorem join_spl {a : Amd} (h : vldA a = true) (h0 : 0 < a.ws.length) : spl 32 (joinB a.ws).data.toList = a.ws.map (·.data.toList) ∧ (58 : UInt8) ∉ (joinB a.ws).data.toList := by
  have hw := vld_words h
  have hn : ∀ s ∈ a.ws, (32 : UInt8) ∉ s.data.toList := fun s hs hb => by have := word_mem (hw s hs) hb; simp at this
  have hc : ∀ s ∈ a.ws, (58 : UInt8) ∉ s.data.toList := fun s hs hb => by have := word_mem (hw s hs) hb; simp at this
  cases e : a.ws with
  | nil => rw [e] at h0; simp at h0
  | cons x r =>
    rw [e] at hn hc
    have ej : (joinB (x :: r)).data.toList = x.data.toList ++ joinTail [32] (r.map (·.data.toList)) := by
      unfold joinB
      rw [List.map_cons, join_cons]
    rw [ej]
    refine ⟨?_, ?_⟩
    · rw [join_no (hn x List.mem_cons_self) (fun y hy => by
        obtain ⟨s, hs, rfl⟩ := List.mem_map.1 hy
        exact hn s (List.mem_cons_of_mem _ hs))]
      rfl
    · intro hm
      rcases List.mem_append.1 hm with hm | hm
      · exact hc x List.mem_cons_self hm
      · unfold joinTail at hm
        rw [List.mem_flatten] at hm
        obtain ⟨l, hl, hb⟩ := hm
        obtain ⟨y, hy, rfl⟩ := List.mem_map.1 hl
        obtain ⟨s, hs, rfl⟩ := List.mem_map.1 hy
        rcases List.mem_append.1 hb with hb | hb
        · simp at hb
        · exact hc s (List.mem_cons_of_mem _ hs) hb
theorem bars (ws : List ByteArray) : (ws.map (·.data.toList)).map bar = ws := by
  rw [List.map_map]
  refine (List.map_congr_left fun s _ => ?_).trans (List.map_id _)
  show bar s.data.toList = s
  unfold bar
  simp
/-! ### Both ways of reading -/
def kdI (x : List UInt8) : Int := if x = [] then 0 else if x = insL then 1 else if x = stkL then 2 else if x = repL then 3 else -1
def kdS (n : Int) (ws : List ByteArray) : Int := if n = 0 then 1 else if ws.length = 0 then 2 else 3
def finA (l : List UInt8) (f : Int → Int → Amd) : Option Int → Option Int → Option Amd
  | some p, some n => if vldA (f p n) = true ∧ alL (f p n) = l then some (f p n) else none
  | _, _ => none
def wdI (l : List UInt8) : List (List UInt8) := spl 32 (cut l [58, 32]).1
def phI (l : List UInt8) : List ByteArray := if (cut l [58, 32]).2.2 = true then (spl 32 (cut l [58, 32]).2.1).map bar else []
def mkIA (l : List UInt8) (p n : Int) : Amd := ⟨kdI ((wdI l).getD 0 []), p, n, phI l⟩
def amI (l : List UInt8) : Option Amd := finA l (mkIA l) (piV ((wdI l).getD ((wdI l).length - 1) [])) (if (wdI l).length = 4 then piV ((wdI l).getD 1 []) else some 0)
def hvS (l : List UInt8) : List (List UInt8) := spl 58 l
def wdS (l : List UInt8) : List (List UInt8) := spl 32 ((hvS l).getD 0 [])
def phS (l : List UInt8) : List ByteArray := if (hvS l).length = 2 then ((spl 32 ((hvS l).getD 1 [])).drop 1).map bar else []
def mkSA (l : List UInt8) (p n : Int) : Amd := ⟨kdS n (phS l), p, n, phS l⟩
def amS (l : List UInt8) : Option Amd := if 100 < l.length ∨ 2 < (hvS l).length ∨ ((wdS l).length ≠ 3 ∧ (wdS l).length ≠ 4) then none else finA l (mkSA l) (lrV ((wdS l).getD ((wdS l).length - 1) [])) (if (wdS l).length = 4 then lrV ((wdS l).getD 1 []) else some 0)
theorem finA_no {l : List UInt8} (h : ¬ ∃ a : Amd, vldA a = true ∧ alL a = l) (f : Int → Int → Amd) (p n : Option Int) : finA l f p n = none := by
  cases p with
  | none => rfl
  | some p =>
    cases n with
    | none => rfl
    | some n =>
      show (if _ then _ else _) = _
      rw [if_neg]
      exact fun hc => h ⟨_, hc⟩
theorem finA_yes {a : Amd} {f : Int → Int → Amd} {p n : Int} (h : vldA a = true) (e : f p n = a) : finA (alL a) f (some p) (some n) = some a := by
  show (if _ then _ else _) = _
  rw [e, if_pos ⟨h, rfl⟩]
theorem parts_I {a : Amd} (h : vldA a = true) : wdI (alL a) = hdW a ∧ phI (alL a) = a.ws := by
  obtain ⟨_, _, hk, _, _⟩ := vldA_parts h
  obtain ⟨h1, h2, _⟩ := hd_spl a (by omega)
  unfold wdI phI
  rcases Nat.eq_zero_or_pos a.ws.length with h0 | h0
  · have e := List.eq_nil_of_length_eq_zero h0
    rw [al_none e, cut0 h2, e]
    exact ⟨h1, rfl⟩
  · rw [al_some h0, cut2 h2]
    refine ⟨h1, ?_⟩
    rw [if_pos rfl, (join_spl h h0).1, bars]
theorem parts_S {a : Amd} (h : vldA a = true) : (hvS (alL a)).length ≤ 2 ∧ wdS (alL a) = hdW a ∧ phS (alL a) = a.ws := by
  obtain ⟨_, _, hk, _, _⟩ := vldA_parts h
  obtain ⟨h1, h2, _⟩ := hd_spl a (by omega)
  rcases Nat.eq_zero_or_pos a.ws.length with h0 | h0
  · have e := List.eq_nil_of_length_eq_zero h0
    have eh : hvS (alL a) = [(preS a).data.toList] := by unfold hvS spl; rw [al_none e, spF_no h2]; rfl
    unfold wdS phS
    rw [eh, e]
    exact ⟨by simp, h1, rfl⟩
  · obtain ⟨j1, j2⟩ := join_spl h h0
    have eh : hvS (alL a) = [(preS a).data.toList, 32 :: (joinB a.ws).data.toList] := by
      unfold hvS spl
      rw [al_some h0, spF_hit h2, spF_no (by intro hm; rcases List.mem_cons.1 hm with hm | hm; · simp at hm
                                             · exact j2 hm)]
      rfl
    have es : spl 32 (32 :: (joinB a.ws).data.toList) = [] :: a.ws.map (·.data.toList) := by
      rw [← j1]
      unfold spl
      rw [spF, if_pos rfl]
    unfold wdS phS
    rw [eh]
    refine ⟨by simp, h1, ?_⟩
    rw [if_pos (by simp)]
    show ((spl 32 (32 :: (joinB a.ws).data.toList)).drop 1).map bar = _
    rw [es, List.drop_one, List.tail_cons, bars]
theorem al_len {a : Amd} (h : vldA a = true) : (alL a).length ≤ 100 := by
  obtain ⟨p0, p1, hk, h5, h10⟩ := vldA_parts h
  obtain ⟨_, _, h3⟩ := hd_spl a (by omega)
  have d1 : (decDigits a.n.toNat).length ≤ 2 := dec_len (k := 1) (by omega)
  have d2 : (decDigits a.p.toNat).length ≤ 2 := dec_len (k := 1) (by omega)
  rcases Nat.eq_zero_or_pos a.ws.length with h0 | h0
  · rw [al_none (List.eq_nil_of_length_eq_zero h0)]
    omega
  · have hj := join_size h5 h10
    have hj2 : (joinB a.ws).data.toList.length = (joinB a.ws).size := Array.length_toList
    rw [al_some h0, List.length_append, List.length_cons, List.length_cons]
    omega
theorem am_yes {a : Amd} (h : vldA a = true) : amI (alL a) = some a ∧ amS (alL a) = some a := by
  obtain ⟨i1, i2⟩ := parts_I h
  obtain ⟨s0, s1, s2⟩ := parts_S h
  have hl := al_len h
  obtain ⟨p0, p1, hk, h5, h10⟩ := vldA_parts h
  have ep : ((a.p.toNat : Nat) : Int) = a.p := by omega
  have hp1 := pi_dec (n := a.p.toNat) (by omega)
  have hp2 := lr_dec (n := a.p.toNat) (by omega)
  rw [ep] at hp1 hp2
  have hlen : ¬ (100 < (alL a).length ∨ 2 < (hvS (alL a)).length ∨ ((hdW a).length ≠ 3 ∧ (hdW a).length ≠ 4)) := by
    have h34 : (hdW a).length = 3 ∨ (hdW a).length = 4 := by
      unfold hdW
      split
      · exact .inl rfl
      · split <;> exact .inr rfl
    omega
  unfold amI amS
  rw [i1, s1, if_neg hlen]
  rcases hk with ⟨k1, n0, w1⟩ | ⟨k1, n1, n5, w0⟩ | ⟨k1, n1, n5, w1⟩
  · have hw : hdW a = [insL, atL, decDigits a.p.toNat] := by unfold hdW; rw [if_pos k1]
    have e1 : mkIA (alL a) a.p 0 = a := by
      unfold mkIA
      rw [i1, i2, hw]
      refine Amd.ext' ?_ rfl n0.symm rfl
      rw [k1]; show kdI insL = 1; decide
    have e2 : mkSA (alL a) a.p 0 = a := by
      unfold mkSA
      rw [s2]
      exact Amd.ext' k1.symm rfl n0.symm rfl
    rw [hw]
    show finA _ _ (piV (decDigits a.p.toNat)) (some 0) = _ ∧ finA _ _ (lrV (decDigits a.p.toNat)) (some 0) = _
    rw [hp1, hp2]
    exact ⟨finA_yes h e1, finA_yes h e2⟩
  · have en : ((a.n.toNat : Nat) : Int) = a.n := by omega
    have hn1 := pi_dec (n := a.n.toNat) (by omega)
    have hn2 := lr_dec (n := a.n.toNat) (by omega)
    rw [en] at hn1 hn2
    have hw : hdW a = [stkL, decDigits a.n.toNat, atL, decDigits a.p.toNat] := by unfold hdW; rw [if_neg (by omega), if_pos k1]
    have e1 : mkIA (alL a) a.p a.n = a := by
      unfold mkIA
      rw [i1, i2, hw]
      refine Amd.ext' ?_ rfl rfl rfl
      rw [k1]; show kdI stkL = 2; decide
    have e2 : mkSA (alL a) a.p a.n = a := by
      unfold mkSA
      rw [s2]
      refine Amd.ext' ?_ rfl rfl rfl
      show kdS a.n a.ws = a.k
      unfold kdS
      rw [if_neg (by omega), if_pos w0, k1]
    rw [hw]
    show finA _ _ (piV (decDigits a.p.toNat)) (piV (decDigits a.n.toNat)) = _ ∧ finA _ _ (lrV (decDigits a.p.toNat)) (lrV (decDigits a.n.toNat)) = _
    rw [hp1, hp2, hn1, hn2]
    exact ⟨finA_yes h e1, finA_yes h e2⟩
  · have en : ((a.n.toNat : Nat) : Int) = a.n := by omega
    have hn1 := pi_dec (n := a.n.toNat) (by omega)
    have hn2 := lr_dec (n := a.n.toNat) (by omega)
    rw [en] at hn1 hn2
    have hw : hdW a = [repL, decDigits a.n.toNat, atL, decDigits a.p.toNat] := by unfold hdW; rw [if_neg (by omega), if_neg (by omega)]
    have e1 : mkIA (alL a) a.p a.n = a := by
      unfold mkIA
      rw [i1, i2, hw]
      refine Amd.ext' ?_ rfl rfl rfl
      rw [k1]; show kdI repL = 3; decide
    have e2 : mkSA (alL a) a.p a.n = a := by
      unfold mkSA
      rw [s2]
      refine Amd.ext' ?_ rfl rfl rfl
      show kdS a.n a.ws = a.k
      unfold kdS
      rw [if_neg (by omega), if_neg (by omega), k1]
    rw [hw]
    show finA _ _ (piV (decDigits a.p.toNat)) (piV (decDigits a.n.toNat)) = _ ∧ finA _ _ (lrV (decDigits a.p.toNat)) (lrV (decDigits a.n.toNat)) = _
    rw [hp1, hp2, hn1, hn2]
    exact ⟨finA_yes h e1, finA_yes h e2⟩
/-- Both ways of reading agree. -/
theorem am_same (l : List UInt8) : amI l = amS l := by
  by_cases h : ∃ a : Amd, vldA a = true ∧ alL a = l
  · obtain ⟨a, h1, rfl⟩ := h
    rw [(am_yes h1).1, (am_yes h1).2]
  · unfold amI amS
    rw [finA_no h, finA_no h]
    simp
theorem am_text {l : List UInt8} {a : Amd} (h : amI l = some a) : vldA a = true ∧ alL a = l := by
  by_cases c : ∃ a : Amd, vldA a = true ∧ alL a = l
  · obtain ⟨b, hb, rfl⟩ := c
    rw [(am_yes hb).1] at h
    injection h with h
    subst h
    exact ⟨hb, rfl⟩
  · unfold amI at h
    rw [finA_no c] at h
    cases h
end Go.Proofs.YtnnphhhjkhoglaaDoor
