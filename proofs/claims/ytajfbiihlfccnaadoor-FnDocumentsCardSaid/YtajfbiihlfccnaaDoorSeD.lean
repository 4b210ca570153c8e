/- The draws of documents. Conditions: the ranges named. -/
import Derived.Test.YtajfbiihlfccnaaDoorDrW
import Derived.Test.YtajfbiihlfccnaaDoorSe5
import Derived.Test.YtajfbiihlfccnaaDoorApn
namespace Go.Proofs.YtajfbiihlfccnaaDoor
open Go.RowKit
set_option linter.unusedVariables false
set_option linter.unusedSimpArgs false
attribute [local go_sem ↓] Go.wp_at_zero Go.wp_at_succ
theorem row_setW {d : Int} {t : ByteArray} {ys : List Sec} {k : Nat} (hk : k < ys.length) : setL (SectionK.row ys) (k * 2) [.int .i64 d, .string t] = SectionK.row (ys.set k ⟨d, t⟩) := by
  have e : ys = ys.take k ++ (ys[k] :: ys.drop (k + 1)) := by rw [← List.drop_eq_getElem_cons hk, List.take_append_drop]
  have e2 : ys.set k ⟨d, t⟩ = ys.take k ++ (⟨d, t⟩ :: ys.drop (k + 1)) := by rw [List.set_eq_take_append_cons_drop, if_pos hk]
  have l : (SectionK.row (ys.take k)).length = k * 2 := by rw [Kd.row_len, List.length_take, Nat.min_eq_left (by omega)]; rfl
  have c : ∀ (z : Sec) (l : List Sec), SectionK.row (z :: l) = [.int .i64 z.d, .string z.t] ++ SectionK.row l := fun _ _ => rfl
  rw [e2, Kd.row_append, c]
  conv => lhs; rw [e]
  rw [Kd.row_append, c, ← l, setL_append (SectionK.row (ys.take k)) [.int .i64 ys[k].d, .string ys[k].t] [.int .i64 d, .string t] rfl]
def lenOfS : Value → Nat
  | .slice _ n _ => n
  | _ => 0
theorem OwD.offN {α : Type} {K : Kd α} {e lo q c : Nat} {w : World} {O : Option Addr} {xs : List α} (h : OwD K e lo w O c xs) (hq : NotIn O q) (i : Nat) (u : Value) : OwD K e lo (w.setCell ⟨q, i, none⟩ u) O c xs := ⟨own_other h.1 hq u, h.2.1.mono (by simp), h.2.2⟩
theorem BT.blkN {q : Nat} {T : TypeId} {vs : List Value} {w w' : World} (h : BT w q T vs) (hk : w'.heap[q]? = w.heap[q]?) : BT w' q T vs := by
  obtain ⟨cs, fr, ht⟩ := h.ty
  exact ⟨h.box.blk hk, ⟨cs, fr, hk.trans ht⟩⟩
def wd3 : List ByteArray := [⟨#[]⟩, ⟨#[65]⟩, ⟨#[97, 98, 99, 100, 101, 102, 103, 104, 105, 106, 107]⟩]
theorem wd3_short : ∀ s ∈ wd3, s.size ≤ 11 := by
  intro s hs
  simp only [wd3, List.mem_cons, List.not_mem_nil, or_false] at hs
  rcases hs with rfl | rfl | rfl <;> decide
theorem fitS11 {x : Sec} (h : x.t.size ≤ 11) : SectionK.fit x := Nat.le_trans h (by unfold maxLen; omega)
theorem fitS1 {xs : List Sec} {x : Sec} (h : ∀ y ∈ xs, SectionK.fit y) (hx : SectionK.fit x) : ∀ y ∈ xs ++ [x], SectionK.fit y := fun y hy => by
  rcases List.mem_append.1 hy with h1 | h1
  · exact h y h1
  · simp at h1; subst h1; exact hx
theorem putS2 {lo g c k : Nat} {w : World} {xs : List Sec} (h : OwD SectionK 51 lo w (some ⟨g, 0, none⟩) c xs) (hk : k < xs.length) (x : Sec) (hx : SectionK.fit x) : OwD SectionK 51 lo (w.setCells g (k * 2) [.int .i64 x.d, .string x.t]) (some ⟨g, 0, none⟩) c (xs.set k x) := by
  have h1 := (own_setCells [.int .i64 x.d, .string x.t] (k * 2) h.1).1
  rw [row_setW hk] at h1
  refine Ow.mk ?_ (by rw [List.length_set]; exact h.2.2.1) (fun y hy => ?_)
  · rw [List.length_set]; exact h1
  · rcases List.mem_or_eq_of_mem_set hy with h3 | h3
    · exact h.2.2.2 y h3
    · rw [h3]; exact hx
theorem rngS {lo g c k : Nat} {w : World} {xs : List Sec} (h : OwD SectionK 51 lo w (some ⟨g, 0, none⟩) c xs) (hk : k < xs.length) : w.rangeAt g (k * 2) [.int .i64 xs[k].d, .string xs[k].t] := fun i v hv => by
  have hl := SectionK.row_get hk (show (SectionK.enc xs[k])[i]? = some v from hv)
  have hi : i < 2 := (List.getElem?_eq_some_iff.1 hv).1
  have h9 := h.1.cellAt (k * 2 + i) (by show k * 2 + i < xs.length * 2; omega)
  rw [h9]
  exact hl
theorem thereS {lo g c k : Nat} {w : World} {xs : List Sec} (h : OwD SectionK 51 lo w (some ⟨g, 0, none⟩) c xs) (hk : k < xs.length) : w.there g (k * 2) 2 := fun i hi => ⟨by (obtain ⟨u, hu⟩ := own_cell h.1 (j := k * 2 + i) (by show k * 2 + i < xs.length * 2; omega)); rw [hu]; rfl, h.1.frozenAt _⟩
set_option maxRecDepth 100000 in
set_option maxHeartbeats 8000000 in
theorem document_any (b : Nat) (A : Option Addr) (n c m : Nat) (w : World) (h : Cur w b A n c m) (hm : m ≤ 700000) :
    Calls Tryd.prog 61 #[.pointer (some ⟨b, 0, none⟩)] w fun e w' => ∃ (O : Option Addr) (oc : Nat) (xs : List Sec), e = .returned (.slice O xs.length oc) ∧ xs.length ≤ 20 ∧ OwD SectionK 51 w.heap.size w' O oc xs ∧ Cur w' b A n c (m + 200) ∧ Only b (b + 1) w w' := by
  have hb0 := h.lt
  have S := Lib.hid ((Std.start h).alloc (.cells #[] 51))
  have O1 := Lib.hid (show OwD SectionK 51 w.heap.size (w.alloc (.cells #[] 51)) (some ⟨w.heap.size, 0, none⟩) 0 [] from Ow.mk (K := SectionK) (own_nil_lit w w.heap.size w.heap.size 51 2 rfl (Nat.le_refl _)) (by simp) (by simp))
  clear h
  go_enter Tryd.func61, Tryd.ntmps61
  go_upto_region 2 with fail
  generalize (w.alloc (.cells #[] 51)) = v1 at *
  go_wp2_with fail
  refine (pick_any 9 (by omega) (by omega) b A n c _ _ S.out.cur (by omega)).mono ?_
  rintro e v2 ⟨⟨k, rfl, hk⟩, hc, ho⟩
  replace S := Lib.hid (S.out.draw hc ho)
  replace O1 := Lib.hid (O1.out.draw ho (by omega))
  clear hc ho 
  go_wp2
  go_loopw [3, 4, 5] (fun l d i wr => ∃ (j m2 dd : Nat) (O : Option Addr) (oc : Nat) (xs : List Sec), i = .int .i64 j ∧ d = .int .i64 dd ∧ dd ≤ 4 ∧ l = .slice O xs.length oc ∧ j ≤ 8 ∧ m2 + 4 * j ≤ m + 100 ∧ xs.length + j ≤ 8 ∧ Hid (Std w wr b A n c m2) ∧ Hid (OwD SectionK 51 w.heap.size wr O oc xs)) (fun _ _ i _ => (intOf i).toNat)
  case atStart => exact ⟨k, _, 0, _, 0, [], rfl, rfl, by omega, rfl, by omega, by omega, by simp; omega, S, O1⟩
  case round =>
    clear S O1 hk
    obtain ⟨wq, hwq⟩ : ∃ x : World, x = wr := ⟨_, rfl⟩
    subst hwq
    obtain ⟨j, m2, dd, O, oc, xs, rfl, rfl, hdd, rfl, hj, hm2, hl, S, O1⟩ := hrel
    rcases Nat.eq_zero_or_pos j with h0 | h0
    · subst h0
      by_cases hz : xs.length = 0
      · have k0 : ((xs.length : Int) == 0) = true := by simp [hz]
        have HZ := Lib.hid hz
        clear hz
        have HLE := Lib.hid (show xs.length ≤ 20 by omega)
        clear hl
        go_wp2_with (go_ret; exact ⟨O, oc, xs, rfl, HLE.out, O1.out, S.out.cur.mono (by omega), S.out.on⟩)
      · have k0 : ((xs.length : Int) == 0) = false := (beq_eq_false_iff_ne).2 (by omega)
        go_wp2_with fail
        refine (pickZ_any (xs.length : Int) (by omega) b A n c _ _ S.out.cur (by omega)).mono ?_
        rintro e v3 ⟨⟨k, rfl, hy⟩, hc, ho⟩
        replace S := Lib.hid (S.out.draw hc ho)
        replace O1 := Lib.hid (O1.out.draw ho (by omega))
        clear hc ho 
        have hky : k < xs.length := by omega
        have i1 : (k : Int) < (xs.length : Int) := by omega
        have HKY := Lib.hid hky
        clear hy k0 hz hky
        obtain ⟨g, hg⟩ : ∃ g, O = some ⟨g, 0, none⟩ := by (obtain ⟨g, cap, hv, _, _⟩ := O1.out.1.form (by have := HKY.out; omega)); exact ⟨g, by (injection hv)⟩
        subst hg
        obtain ⟨x, hx⟩ : ∃ x, Hid (xs[k]'HKY.out = x) := ⟨_, Lib.hid rfl⟩
        have HR := Lib.hid (rngS O1.out HKY.out)
        rw [hx.out] at HR
        have HX : Hid (SectionK.fit x) := Lib.hid (by rw [← hx.out]; exact O1.out.2.2.2 _ (List.getElem_mem _))
        clear hx
        go_upto_region 11 with fail
        have hq1 := O1.out.1.lt g rfl
        have X := Lib.hid (BT.new v3 #[.int .i64 x.d, .string x.t] 51 v3.heap.size rfl)
        have hsz5 := S.out.sz
        have HNI := Lib.hid (show NotIn (some (⟨g, 0, none⟩ : Addr)) v3.heap.size from fun a ha e => by (obtain rfl := Option.some.inj ha); exact absurd hq1.2 (by rw [← e]; exact Nat.lt_irrefl _))
        have hbl := below1 v3 (.cells #[.int .i64 x.d, .string x.t] 51)
        replace S := Lib.hid (S.out.call hbl)
        replace O1 := Lib.hid (O1.out.call hbl)
        clear hbl
        go_wp2_with (refine wpList_load_mid rfl 51 _ rfl g (k * 2) rfl [.int .i64 x.d, .string x.t] _ HR.out Tryd.underlying51 rfl (by kernel_rfl) ?_)
        clear HR
        generalize (v3.alloc (.cells #[.int .i64 x.d, .string x.t] 51)) = v4 at *
        generalize v3.heap.size = q1 at *
        refine (pick_any 40 (by omega) (by omega) b A n c _ _ S.out.cur (by omega)).mono ?_
        rintro e v5 ⟨⟨y, rfl, hy⟩, hc, ho⟩
        replace S := Lib.hid (S.out.draw hc ho)
        replace O1 := Lib.hid (O1.out.draw ho (by omega))
        replace X := Lib.hid (X.out.draw ho (by omega))
        clear hc ho 
        go_upto_block 2 with fail
        go_cut [3] (fun l wx => ∃ (m2 : Nat) (O : Option Addr) (oc : Nat) (xs : List Sec) (x : Sec), l = .slice O xs.length oc ∧ m2 ≤ m + 150 ∧ xs.length ≤ 20 ∧ k < xs.length ∧ Hid (SectionK.fit x) ∧ Hid (Std w wx b A n c m2) ∧ Hid (OwD SectionK 51 w.heap.size wx O oc xs) ∧ Hid (BT wx q1 51 [.int .i64 x.d, .string x.t]))
        case first =>
          rcases (show y = 0 ∨ y = 1 ∨ y = 2 ∨ 3 ≤ y by omega) with rfl | rfl | rfl | hy4
          · skip
            have HL := Lib.hid (lit_cellsI v5 [0, 2, 4, 5] 3 v5.heap.size rfl)
            have HLb : v5.heap.size ≠ b := by have := S.out.bw; omega
            have hbl := below1 v5 (.cells ((([0, 2, 4, 5] : List Int).map (Value.int .i64)).toArray) 3)
            replace S := Lib.hid (S.out.call hbl)
            replace O1 := Lib.hid (O1.out.call hbl)
            replace X := Lib.hid (X.out.call hbl)
            clear hbl
            go_wp2_with fail
            refine (among_any [0, 2, 4, 5] (some ⟨v5.heap.size, 0, none⟩) 4 (by simp) (by simp) b A n c _ _ S.out.cur (by omega) HL.out (fun a ha => by obtain rfl := Option.some.inj ha; exact HLb)).mono ?_
            rintro e v6 ⟨⟨z, rfl, hz⟩, hc, ho⟩
            replace S := Lib.hid (S.out.draw hc ho)
            replace O1 := Lib.hid (O1.out.draw ho (by omega))
            replace X := Lib.hid (X.out.draw ho (by omega))
            clear hc ho HL HLb 
            have x0 := X.out.box.1 0 _ rfl
            have x1 := X.out.box.1 1 _ rfl
            have xf := X.out.box.2
            have S9 := Lib.hid (S.out.set ⟨q1, 0, none⟩ (by show _ ≤ q1; omega) (.int .i64 z))
            have X9 := Lib.hid (show BT (v6.setCell ⟨q1, 0, none⟩ (.int .i64 z)) q1 51 [.int .i64 z, .string x.t] from (X.out.set 0 (by simp) (.int .i64 z)))
            replace S := S9
            clear S9
            replace X := X9
            clear X9
            replace O1 := Lib.hid (O1.out.offN HNI.out 0 (.int .i64 z))
            have HZ := Lib.hid hz
            clear hz
            go_wp2_with fail
            go_meet
            exact ⟨_, _, oc, xs, ⟨z, x.t⟩, rfl, by omega, by omega, HKY.out, HX, S, O1, X⟩
          · skip
            have HL := Lib.hid (lit_cellsS v5 wd3 9 v5.heap.size rfl)
            have HLb : v5.heap.size ≠ b := by have := S.out.bw; omega
            have hbl := below1 v5 (.cells (wd3.map Value.string).toArray 9)
            replace S := Lib.hid (S.out.call hbl)
            replace O1 := Lib.hid (O1.out.call hbl)
            replace X := Lib.hid (X.out.call hbl)
            clear hbl
            go_wp2_with fail
            refine (of_any wd3 (some ⟨v5.heap.size, 0, none⟩) 3 (by decide) (by decide) b A n c _ _ S.out.cur (by omega) HL.out (fun a ha => by obtain rfl := Option.some.inj ha; exact HLb)).mono ?_
            rintro e v7 ⟨⟨z, rfl, hz⟩, hc, ho⟩
            replace S := Lib.hid (S.out.draw hc ho)
            replace O1 := Lib.hid (O1.out.draw ho (by omega))
            replace X := Lib.hid (X.out.draw ho (by omega))
            replace hz := wd3_short z hz
            clear hc ho HL HLb
            have x0 := X.out.box.1 0 _ rfl
            have x1 := X.out.box.1 1 _ rfl
            have xf := X.out.box.2
            have S9 := Lib.hid (S.out.set ⟨q1, 1, none⟩ (by show _ ≤ q1; omega) (.string z))
            have X9 := Lib.hid (show BT (v7.setCell ⟨q1, 1, none⟩ (.string z)) q1 51 [.int .i64 x.d, .string z] from (X.out.set 1 (by simp) (.string z)))
            replace S := S9
            clear S9
            replace X := X9
            clear X9
            replace O1 := Lib.hid (O1.out.offN HNI.out 1 (.string z))
            have HZ := Lib.hid hz
            clear hz
            go_wp2_with fail
            go_meet
            exact ⟨_, _, oc, xs, ⟨x.d, z⟩, rfl, by omega, by omega, HKY.out, Lib.hid (fitS11 (x := ⟨x.d, z⟩) HZ.out), S, O1, X⟩
          · skip
            go_wp2_with fail
            go_loopw [3] (fun l wr => ∃ (m3 : Nat) (O : Option Addr) (oc : Nat) (xs : List Sec), l = .slice O xs.length oc ∧ m3 ≤ m + 110 + 2 * xs.length ∧ xs.length ≤ 13 ∧ k < xs.length ∧ Hid (Std w wr b A n c m3) ∧ Hid (OwD SectionK 51 w.heap.size wr O oc xs) ∧ Hid (BT wr q1 51 [.int .i64 x.d, .string x.t]) ∧ Hid (NotIn O q1)) (fun l _ => 13 - lenOfS l)
            case atStart => exact ⟨_, _, oc, xs, rfl, by omega, by omega, HKY.out, S, O1, X, HNI⟩
            case round =>
              clear S O1 X HNI hm2 hl hq1 HKY i1
              obtain ⟨wq, hwq⟩ : ∃ x : World, x = wr := ⟨_, rfl⟩
              subst hwq
              obtain ⟨m3, O, oc, xs, rfl, hm3, hl, hky, S, O1, X, HNI⟩ := hrel
              have HKY := Lib.hid hky
              clear hky
              go_wp2_with fail
              refine (pick_any 2 (by omega) (by omega) b A n c _ _ S.out.cur (by omega)).mono ?_
              rintro e v8 ⟨⟨t, rfl, ht⟩, hc, ho⟩
              replace S := Lib.hid (S.out.draw hc ho)
              replace O1 := Lib.hid (O1.out.draw ho (by omega))
              replace X := Lib.hid (X.out.draw ho (by omega))
              clear hc ho 
              have qt : IntKind.i64.wrap (12 + (t : Int)) = 12 + (t : Int) := by rw [IntKind.wrap_i64]; omega
              by_cases hlt : (xs.length : Int) < 12 + (t : Int)
              · have hd : decide ((xs.length : Int) < 12 + (t : Int)) = true := decide_eq_true hlt
                have HL := Lib.hid (show Cells _ _ (SectionK.row [⟨1, ⟨#[120]⟩⟩]) from cells_arr v8 #[.int .i64 1, .string ⟨#[120]⟩] 51 v8.heap.size rfl)
                have hbl := below1 v8 (.cells #[.int .i64 1, .string ⟨#[120]⟩] 51)
                replace S := Lib.hid (S.out.call hbl)
                replace O1 := Lib.hid (O1.out.call hbl)
                replace X := Lib.hid (X.out.call hbl)
                clear hbl
                have hlz := S.out.sz
                have hxl := X.out.lt
                go_wp2_with (at_builtin; go_must (refine list_append_sep elSection _ rfl _ _ rfl w.heap.size O ⟨v8.heap.size, 0, none⟩ oc xs.length 1 1 (SectionK.row xs) (SectionK.row [⟨1, ⟨#[120]⟩⟩]) rfl rfl rfl O1.out.1 HL.out section_one hlz (by omega) ?_); intro Q3 q3 v9 own hb hsz hg; have HG := Lib.hid (hg q1 hxl HNI.out); have HW := Lib.hid own; have HBB := Lib.hid hb; clear own hb hg hsz)
                replace S := Lib.hid (S.out.callB HBB.out (Nat.le_refl _))
                replace X := Lib.hid (X.out.blkN HG.out.1)
                replace HNI := Lib.hid HG.out.2
                have N3 := Lib.hid (show OwD SectionK 51 w.heap.size v9 Q3 q3 (xs ++ [⟨1, ⟨#[120]⟩⟩]) from Ow.mk (K := SectionK) (by rw [List.length_append, List.length_singleton, Kd.row_append]; exact HW.out) (by simp; omega) (fitS1 O1.out.2.2.2 (by show (1 : Nat) ≤ maxLen; unfold maxLen; omega)))
                clear HG HW O1 HL hlz hxl HBB
                go_roundw
                case rel =>
                  refine ⟨_, _, _, _, _, _, _, _, _, _, _, ?_, rfl⟩
                  exact ⟨_, Q3, q3, xs ++ [⟨1, ⟨#[120]⟩⟩], by simp, by simp; omega, by simp; omega, by (have := HKY.out); simp; omega, S, N3, X, HNI⟩
                case measure => (first | (simp [lenOfS]; done) | (simp [lenOfS]; omega))
              · have hd : decide ((xs.length : Int) < 12 + (t : Int)) = false := decide_eq_false hlt
                go_wp2_with fail
                go_meet
                exact ⟨_, O, oc, xs, x, rfl, by omega, by omega, HKY.out, HX, S, O1, X⟩
          · skip
            have e0 : ((y : Int) == 0) = false := by simp; omega
            have e1 : ((y : Int) == 1) = false := by simp; omega
            have e2 : ((y : Int) == 2) = false := by simp; omega
            go_wp2_with fail
            go_meet
            exact ⟨_, _, oc, xs, x, rfl, by omega, by omega, HKY.out, HX, S, O1, X⟩
        case rest =>
          clear S O1 X HX hq1 HKY i1 hl
          obtain ⟨W, rfl⟩ : ∃ W, W = wc := ⟨_, rfl⟩
          obtain ⟨m2, O, oc, xs, x, rfl, hm2, hl, hky, HX, S, O1, X⟩ := hcut
          have HKY := Lib.hid hky
          have i1 : (k : Int) < (xs.length : Int) := by omega
          clear hky
          obtain ⟨g, hg⟩ : ∃ g, O = some ⟨g, 0, none⟩ := by (obtain ⟨g, cap, hv, _, _⟩ := O1.out.1.form (by have := HKY.out; omega)); exact ⟨g, by (injection hv)⟩
          subst hg
          have hgl := O1.out.1.lt g rfl
          have HT := Lib.hid (thereS O1.out HKY.out)
          go_wp2_with (first | (refine wpList_load_mid rfl 51 _ rfl q1 0 rfl [.int .i64 x.d, .string x.t] _ X.out.rng Tryd.underlying51 rfl (by kernel_rfl) ?_) | (refine wpList_store_mid rfl 51 _ _ rfl g (k * 2) #[.int .i64 x.d, .string x.t] rfl rfl HT.out (by kernel_rfl) (by simp [Value.oneCell']) ?_; replace S := Lib.hid (S.out.puts (q := g) hgl.1 (k * 2) [.int .i64 x.d, .string x.t]); replace O1 := Lib.hid (putS2 O1.out HKY.out x HX.out); rw [show W.setCells g (k * 2) (#[.int .i64 x.d, .string x.t] : Array Value).toList = W.setCells g (k * 2) [.int .i64 x.d, .string x.t] from rfl]; clear X HT; generalize W.setCells g (k * 2) [.int .i64 x.d, .string x.t] = V9 at *) | (go_ret; exact ⟨some ⟨g, 0, none⟩, oc, xs.set k x, by rw [List.length_set]; rfl, by rw [List.length_set]; exact hl, O1.out, S.out.cur.mono (by omega), S.out.on⟩))
    · have i0 : (0 : Int) < (j : Int) := by omega
      have q2 : IntKind.i64.wrap ((j : Int) - 1) = ((j - 1 : Nat) : Int) := by rw [IntKind.wrap_i64]; omega
      have qd : IntKind.i64.wrap ((dd : Int) + 1) = (dd : Int) + 1 := by rw [IntKind.wrap_i64]; omega
      go_wp2_with fail
      refine (l1Least_any ((dd : Int) + 1) 4 _).mono ?_
      rintro e w' ⟨rfl, hw⟩
      obtain ⟨z, hz⟩ : ∃ z : Int, (if (dd : Int) + 1 < 4 then (dd : Int) + 1 else 4) = z := ⟨_, rfl⟩
      have hz4 : z ≤ 4 := by rw [← hz]; split <;> omega
      rw [hz, ← hw]
      clear hw hz
      go_wp2_with fail
      refine (pickZ_any z (by omega) b A n c _ _ S.out.cur (by omega)).mono ?_
      rintro e v10 ⟨⟨y, rfl, hy⟩, hc, ho⟩
      replace S := Lib.hid (S.out.draw hc ho)
      replace O1 := Lib.hid (O1.out.draw ho (by omega))
      clear hc ho 
      have hy4 : y ≤ 3 := by omega
      have q3 : IntKind.i64.wrap (1 + (y : Int)) = 1 + (y : Int) := by rw [IntKind.wrap_i64]; omega
      clear hy hz4
      go_wp2_with fail
      refine (word_any b A n c _ _ S.out.cur (by omega)).mono ?_
      rintro e v11 ⟨⟨t, rfl, ht⟩, hc, ho⟩
      replace S := Lib.hid (S.out.draw hc ho)
      replace O1 := Lib.hid (O1.out.draw ho (by omega))
      have HX := Lib.hid (fitS11 (x := ⟨1 + (y : Int), t⟩) ht)
      clear hc ho ht
      have HL := Lib.hid (show Cells _ _ (SectionK.row [⟨1 + (y : Int), t⟩]) from cells_arr v11 #[.int .i64 (1 + (y : Int)), .string t] 51 v11.heap.size rfl)
      have hbl := below1 v11 (.cells #[.int .i64 (1 + (y : Int)), .string t] 51)
      replace S := Lib.hid (S.out.call hbl)
      replace O1 := Lib.hid (O1.out.call hbl)
      clear hbl
      have hlz := S.out.sz
      go_wp2_with (at_builtin; go_must (refine list_append_gr elSection _ rfl _ _ rfl w.heap.size O _ oc xs.length 1 1 (SectionK.row xs) (SectionK.row [⟨1 + (y : Int), t⟩]) rfl rfl rfl O1.out.1 HL.out section_one hlz (by omega) ?_); intro Q3 q3 v12 own hb hg; have HG := Lib.hid hg; have HW := Lib.hid own; clear own hb hg)
      replace S := Lib.hid (S.out.grow O1.out.1 (by omega) HG.out)
      have N3 := Lib.hid (show OwD SectionK 51 w.heap.size v12 Q3 q3 (xs ++ [⟨1 + (y : Int), t⟩]) from Ow.mk (K := SectionK) (by rw [List.length_append, List.length_singleton, Kd.row_append]; exact HW.out) (by simp; omega) (fitS1 O1.out.2.2.2 HX.out))
      clear HG HW O1 HL hlz
      go_roundw
      case rel => exact ⟨j - 1, _, y + 1, Q3, q3, xs ++ [⟨1 + (y : Int), t⟩], by go_num, by (congr 1; omega), by omega, by simp, by omega, by omega, by simp; omega, S, N3⟩
      case measure => (first | (simp [intOf]; done) | (simp [intOf]; omega))
end Go.Proofs.YtajfbiihlfccnaaDoor
