/- The line of an amendment, in the program and in the reference. Conditions: the words that the program's table holds, and the ranges named. -/
import Derived.Test.YtnnphhhjkhoglaaDoorAl1
import Derived.Test.YtnnphhhjkhoglaaDoorShelf
import Derived.Deep.DrawnRows
namespace Go.Proofs.YtnnphhhjkhoglaaDoor
open Go.RowKit
set_option linter.unusedVariables false
set_option linter.unusedSimpArgs false
theorem app_empty (x : ByteArray) : x ++ ByteArray.empty = x := bytes_ext (by rw [ByteArray.data_append]; simp)
/-- What the table of words holds. -/
def Wds (w : World) : Prop := 0 < w.heap.size ∧ w.cell? ⟨0, 1, none⟩ = some (.string ⟨#[105, 110, 115, 101, 114, 116]⟩) ∧ w.cell? ⟨0, 2, none⟩ = some (.string ⟨#[115, 116, 114, 105, 107, 101]⟩) ∧ w.cell? ⟨0, 3, none⟩ = some (.string ⟨#[114, 101, 112, 108, 97, 99, 101]⟩)
theorem Wds.below {w w' : World} (h : Wds w) (hb : Below w.heap.size w w') : Wds w' :=
  ⟨Nat.lt_of_lt_of_le h.1 hb.size, (hb.cell (p := ⟨0, 1, none⟩) h.1).trans h.2.1, (hb.cell (p := ⟨0, 2, none⟩) h.1).trans h.2.2.1, (hb.cell (p := ⟨0, 3, none⟩) h.1).trans h.2.2.2⟩
theorem join_any (a : Addr) (c : Nat) (ws : List ByteArray) (w : World) (h : Cells w (some a) (strs ws)) (hA : a = ⟨a.block, a.off, none⟩) (hc : ws.length ≤ c) (h0 : 0 < ws.length) (h5 : ws.length ≤ 5) (h10 : ∀ w ∈ ws, w.size ≤ 10) :
    Calls Tryd.prog 30 #[.slice (some a) ws.length c, .string ⟨#[32]⟩] w fun e w' => e = .returned (.string (joinB ws)) ∧ Below w.heap.size w w' := by
  have hcell : ∀ (j : Nat) x, ws[j]? = some x → w.cell? ⟨a.block, a.off + j, none⟩ = some (.string x) := fun j x hx => by
    obtain ⟨ad, e, h1⟩ := h j (.string x) (by simp [strs, hx])
    obtain rfl := Option.some.inj e
    have h2 : a.add j = ⟨a.block, a.off + j, none⟩ := by
      unfold Addr.add
      split
      · rename_i hj; subst hj; rw [hA]; rfl
      · rfl
    rwa [h2] at h1
  have hbk : a.block < w.heap.size := by
    have := World.block_lt_of_cell? _ _ (hcell 0 ws[0] (List.getElem?_eq_getElem h0))
    exact this
  have hsz := join_size h5 h10
  have h1 := Tryd.strings_Join a.block a.off c ws ⟨#[32]⟩ w hcell hbk (by omega) hc (by
    have h3 : (Go.Lib.join (ws.map (·.data.toList)) [32]).length = (joinB ws).size := by unfold joinB ByteArray.size; simp
    have h4 : (⟨#[32]⟩ : ByteArray).data.toList = [32] := rfl
    rw [h4, h3]; omega)
  rw [← hA] at h1
  exact h1
theorem own_form {w : World} {lo hi : Nat} {A : Option Addr} {c : Nat} {ss : List ByteArray} (h : OwS lo hi w A c ss) (h0 : 0 < ss.length) : ∃ a, A = some a ∧ a = ⟨a.block, a.off, none⟩ := by
  obtain ⟨g, cap, hv, _⟩ := h.1.form h0
  obtain ⟨rfl, _, _⟩ : A = some ⟨g, 0, none⟩ ∧ ss.length = ss.length ∧ c = cap := by simpa using hv
  exact ⟨_, rfl, rfl⟩
set_option maxHeartbeats 1000000 in
theorem amendmentLine_1 {B : Nat} (A : Option Addr) (c pn nn : Nat) (ws : List ByteArray) (w : World) (hp : pn ≤ 20) (hnn : nn ≤ 5) (h : RdS B w A c ws) (hA : 0 < ws.length → ∃ a, A = some a ∧ a = ⟨a.block, a.off, none⟩) (hl : 0 < ws.length) (h5 : ws.length ≤ 5) (h10 : ∀ w ∈ ws, w.size ≤ 10) (hW : Wds w) :
    Calls Tryd.prog 15 #[.agg #[.int .i64 1, .int .i64 pn, .int .i64 nn, .slice A ws.length c]] w fun e w' => e = .returned (.string (headS 1 nn ++ atB ++ dec pn ++ wlF ws ws.length)) ∧ Below w.heap.size w w' := by
  have HW := Lib.hid (hW.below (below1 w (.cells #[.int .i64 1, .int .i64 pn, .int .i64 nn, .slice A ws.length c] 24)))
  have HB := Lib.hid (below1 w (.cells #[.int .i64 1, .int .i64 pn, .int .i64 nn, .slice A ws.length c] 24))
  have HR := Lib.hid (h.cells.below (below1 w (.cells #[.int .i64 1, .int .i64 pn, .int .i64 nn, .slice A ws.length c] 24)))
  have hcc := h.1
  have NX := Lib.hid (BoxL.new w #[.int .i64 1, .int .i64 pn, .int .i64 nn, .slice A ws.length c] 24)
  have hd1 := dec_sz2 (i := nn) (by omega)
  have hd2 := dec_sz2 (i := pn) hp
  have hj := join_size h5 h10
  have g1 := HW.out.2.1
  have g2 := HW.out.2.2.1
  have g3 := HW.out.2.2.2
  have u1 := hW.2.1
  have u2 := hW.2.2.1
  have u3 := hW.2.2.2
  have u0 : 0 < w.heap.size := Nat.lt_of_le_of_lt (Nat.zero_le _) hW.1
  have u4 : ¬ 0 = w.heap.size := by omega
  have u5 : ¬ w.heap.size = 0 := by omega
  clear h hW
  have y1 : ¬ 9223372036854775807 < 1 + (dec nn).size := by omega
  have y2 : ¬ 9223372036854775807 < 6 + (1 + (dec nn).size) := by omega
  have y3 : ¬ 9223372036854775807 < 4 + (dec pn).size := by omega
  have y4 : ¬ 9223372036854775807 < 6 + (4 + (dec pn).size) := by omega
  have y5 : ¬ 9223372036854775807 < 2 + (joinB ws).size := by omega
  have y6 : ¬ 9223372036854775807 < 6 + (4 + (dec pn).size) + (2 + (joinB ws).size) := by omega
  obtain ⟨a, rfl, ha⟩ := hA hl
  have i1 : (0 : Int) < (ws.length : Int) := by omega
  have HJ := Lib.hid (wl_join hl)
  have HA := Lib.hid ha
  clear ha hA
  go_enter Tryd.func15, Tryd.ntmps15
  go_wp2_with (first | (go_at_call 28; refine (itoa_sm _ (by omega) _).mono ?_; rintro e w2 ⟨rfl, hw2⟩; subst hw2) | (go_at_call 30; refine (join_any a c ws _ HR.out HA.out hcc hl h5 h10).mono ?_; rintro e w3 ⟨rfl, hb⟩; have HB3 := Lib.hid (after HB.out hb); clear hb))
  go_ret
  exact ⟨by rw [HJ.out]; simp only [headS, atB, ByteArray.append_assoc]; rfl, HB3.out⟩
set_option maxHeartbeats 1000000 in
theorem amendmentLine_2 {B : Nat} (A : Option Addr) (c pn nn : Nat) (ws : List ByteArray) (w : World) (hp : pn ≤ 20) (hnn : nn ≤ 5) (h : RdS B w A c ws) (hA : 0 < ws.length → ∃ a, A = some a ∧ a = ⟨a.block, a.off, none⟩) (hl : ws.length = 0) (h5 : ws.length ≤ 5) (h10 : ∀ w ∈ ws, w.size ≤ 10) (hW : Wds w) :
    Calls Tryd.prog 15 #[.agg #[.int .i64 2, .int .i64 pn, .int .i64 nn, .slice A ws.length c]] w fun e w' => e = .returned (.string (headS 2 nn ++ atB ++ dec pn ++ wlF ws ws.length)) ∧ Below w.heap.size w w' := by
  have HW := Lib.hid (hW.below (below1 w (.cells #[.int .i64 2, .int .i64 pn, .int .i64 nn, .slice A ws.length c] 24)))
  have HB := Lib.hid (below1 w (.cells #[.int .i64 2, .int .i64 pn, .int .i64 nn, .slice A ws.length c] 24))
  have HR := Lib.hid (h.cells.below (below1 w (.cells #[.int .i64 2, .int .i64 pn, .int .i64 nn, .slice A ws.length c] 24)))
  have hcc := h.1
  have NX := Lib.hid (BoxL.new w #[.int .i64 2, .int .i64 pn, .int .i64 nn, .slice A ws.length c] 24)
  have hd1 := dec_sz2 (i := nn) (by omega)
  have hd2 := dec_sz2 (i := pn) hp
  have hj := join_size h5 h10
  have g1 := HW.out.2.1
  have g2 := HW.out.2.2.1
  have g3 := HW.out.2.2.2
  have u1 := hW.2.1
  have u2 := hW.2.2.1
  have u3 := hW.2.2.2
  have u0 : 0 < w.heap.size := Nat.lt_of_le_of_lt (Nat.zero_le _) hW.1
  have u4 : ¬ 0 = w.heap.size := by omega
  have u5 : ¬ w.heap.size = 0 := by omega
  clear h hW
  have y1 : ¬ 9223372036854775807 < 1 + (dec nn).size := by omega
  have y2 : ¬ 9223372036854775807 < 6 + (1 + (dec nn).size) := by omega
  have y3 : ¬ 9223372036854775807 < 4 + (dec pn).size := by omega
  have y4 : ¬ 9223372036854775807 < (6 + (1 + (dec nn).size)) + (4 + (dec pn).size) := by omega
  have y5 : ¬ 9223372036854775807 < 2 + (joinB ws).size := by omega
  have y6 : ¬ 9223372036854775807 < (6 + (1 + (dec nn).size)) + (4 + (dec pn).size) + (2 + (joinB ws).size) := by omega
  have i1 : (ws.length : Int) = 0 := by omega
  obtain rfl : ws = [] := List.eq_nil_of_length_eq_zero hl
  clear hA
  go_enter Tryd.func15, Tryd.ntmps15
  go_wp2_with (go_at_call 28; refine (itoa_sm _ (by omega) _).mono ?_; rintro e w2 ⟨rfl, hw2⟩; subst hw2)
  go_ret
  exact ⟨by rw [show wlF [] 0 = ByteArray.empty from rfl, app_empty]; simp only [headS, atB, ByteArray.append_assoc]; rfl, HB.out⟩
set_option maxHeartbeats 1000000 in
theorem amendmentLine_3 {B : Nat} (A : Option Addr) (c pn nn : Nat) (ws : List ByteArray) (w : World) (hp : pn ≤ 20) (hnn : nn ≤ 5) (h : RdS B w A c ws) (hA : 0 < ws.length → ∃ a, A = some a ∧ a = ⟨a.block, a.off, none⟩) (hl : 0 < ws.length) (h5 : ws.length ≤ 5) (h10 : ∀ w ∈ ws, w.size ≤ 10) (hW : Wds w) :
    Calls Tryd.prog 15 #[.agg #[.int .i64 3, .int .i64 pn, .int .i64 nn, .slice A ws.length c]] w fun e w' => e = .returned (.string (headS 3 nn ++ atB ++ dec pn ++ wlF ws ws.length)) ∧ Below w.heap.size w w' := by
  have HW := Lib.hid (hW.below (below1 w (.cells #[.int .i64 3, .int .i64 pn, .int .i64 nn, .slice A ws.length c] 24)))
  have HB := Lib.hid (below1 w (.cells #[.int .i64 3, .int .i64 pn, .int .i64 nn, .slice A ws.length c] 24))
  have HR := Lib.hid (h.cells.below (below1 w (.cells #[.int .i64 3, .int .i64 pn, .int .i64 nn, .slice A ws.length c] 24)))
  have hcc := h.1
  have NX := Lib.hid (BoxL.new w #[.int .i64 3, .int .i64 pn, .int .i64 nn, .slice A ws.length c] 24)
  have hd1 := dec_sz2 (i := nn) (by omega)
  have hd2 := dec_sz2 (i := pn) hp
  have hj := join_size h5 h10
  have g1 := HW.out.2.1
  have g2 := HW.out.2.2.1
  have g3 := HW.out.2.2.2
  have u1 := hW.2.1
  have u2 := hW.2.2.1
  have u3 := hW.2.2.2
  have u0 : 0 < w.heap.size := Nat.lt_of_le_of_lt (Nat.zero_le _) hW.1
  have u4 : ¬ 0 = w.heap.size := by omega
  have u5 : ¬ w.heap.size = 0 := by omega
  clear h hW
  have y1 : ¬ 9223372036854775807 < 1 + (dec nn).size := by omega
  have y2 : ¬ 9223372036854775807 < 7 + (1 + (dec nn).size) := by omega
  have y3 : ¬ 9223372036854775807 < 4 + (dec pn).size := by omega
  have y4 : ¬ 9223372036854775807 < (7 + (1 + (dec nn).size)) + (4 + (dec pn).size) := by omega
  have y5 : ¬ 9223372036854775807 < 2 + (joinB ws).size := by omega
  have y6 : ¬ 9223372036854775807 < (7 + (1 + (dec nn).size)) + (4 + (dec pn).size) + (2 + (joinB ws).size) := by omega
  obtain ⟨a, rfl, ha⟩ := hA hl
  have i1 : (0 : Int) < (ws.length : Int) := by omega
  have HJ := Lib.hid (wl_join hl)
  have HA := Lib.hid ha
  clear ha hA
  go_enter Tryd.func15, Tryd.ntmps15
  go_wp2_with (first | (go_at_call 28; refine (itoa_sm _ (by omega) _).mono ?_; rintro e w2 ⟨rfl, hw2⟩; subst hw2) | (go_at_call 30; refine (join_any a c ws _ HR.out HA.out hcc hl h5 h10).mono ?_; rintro e w3 ⟨rfl, hb⟩; have HB3 := Lib.hid (after HB.out hb); clear hb))
  go_ret
  exact ⟨by rw [HJ.out]; simp only [headS, atB, ByteArray.append_assoc]; rfl, HB3.out⟩
set_option maxHeartbeats 1000000 in
theorem l9Line_1 {B : Nat} (A : Option Addr) (c pn nn : Nat) (ws : List ByteArray) (w : World) (hp : pn ≤ 20) (hnn : nn ≤ 5) (h : RdS B w A c ws) (hl : ws.length ≤ 5) (hn0 : nn = 0) (h10 : ∀ w ∈ ws, w.size ≤ 10) :
    Calls Tryd.prog 23 #[.agg #[.int .i64 1, .int .i64 pn, .int .i64 nn, .slice A ws.length c]] w fun e w' => e = .returned (.string (headS 1 nn ++ atB ++ dec pn ++ wlF ws ws.length)) ∧ Below w.heap.size w w' := by
  have HB := Lib.hid ((below1 w (.cells #[.int .i64 1, .int .i64 pn, .int .i64 nn, .slice A ws.length c] 24)).trans ((below1 (w.alloc (.cells #[.int .i64 1, .int .i64 pn, .int .i64 nn, .slice A ws.length c] 24)) (.cells #[.string ⟨#[]⟩, .string ⟨#[105, 110, 115, 101, 114, 116]⟩, .string ⟨#[115, 116, 114, 105, 107, 101, 32]⟩, .string ⟨#[114, 101, 112, 108, 97, 99, 101, 32]⟩] 9)).mono (by simp)))
  have HR := Lib.hid (h.cells.below HB.out)
  have hd1 := dec_sz2 (i := nn) (by omega)
  have hd2 := dec_sz2 (i := pn) hp
  have NX := Lib.hid ((BoxL.new w #[.int .i64 1, .int .i64 pn, .int .i64 nn, .slice A ws.length c] 24).below (below1 (w.alloc (.cells #[.int .i64 1, .int .i64 pn, .int .i64 nn, .slice A ws.length c] 24)) (.cells #[.string ⟨#[]⟩, .string ⟨#[105, 110, 115, 101, 114, 116]⟩, .string ⟨#[115, 116, 114, 105, 107, 101, 32]⟩, .string ⟨#[114, 101, 112, 108, 97, 99, 101, 32]⟩] 9)) (by simp))
  have NL := Lib.hid (BoxL.new (w.alloc (.cells #[.int .i64 1, .int .i64 pn, .int .i64 nn, .slice A ws.length c] 24)) #[.string ⟨#[]⟩, .string ⟨#[105, 110, 115, 101, 114, 116]⟩, .string ⟨#[115, 116, 114, 105, 107, 101, 32]⟩, .string ⟨#[114, 101, 112, 108, 97, 99, 101, 32]⟩] 9)
  have hb1 : (w.alloc (.cells #[.int .i64 1, .int .i64 pn, .int .i64 nn, .slice A ws.length c] 24)).heap.size = w.heap.size + 1 := by simp
  rw [hb1] at NL
  have e0 := NX.out.2 0 _ rfl
  have e1 := NX.out.2 1 _ rfl
  have e2 := NX.out.2 2 _ rfl
  have e3 := NX.out.2 3 _ rfl
  have g1 := NL.out.2 1 _ rfl
  have g2 := NL.out.2 2 _ rfl
  have g3 := NL.out.2 3 _ rfl
  have HWS := Lib.hid h10
  clear h h10 hb1
  have i0 : ¬ (0 : Int) < (nn : Int) := by omega
  have HN0 := Lib.hid hn0
  clear hn0
  have y2 : ¬ 9223372036854775807 < 6 + 4 := by omega
  have y3 : ¬ 9223372036854775807 < 6 + 4 + (dec pn).size := by omega
  have HH := Lib.hid (show (⟨#[105, 110, 115, 101, 114, 116]⟩ : ByteArray) ++ ⟨#[32, 97, 116, 32]⟩ ++ dec pn = headS 1 nn ++ atB ++ dec pn from rfl)
  have hsz : (headS 1 nn ++ atB ++ dec pn).size ≤ 50 := by
    rw [← HH.out]
    simp only [ByteArray.size_append]
    have z1 : (⟨#[105, 110, 115, 101, 114, 116]⟩ : ByteArray).size = 6 := rfl
    have z2 : (⟨#[32, 97, 116, 32]⟩ : ByteArray).size = 4 := rfl
    omega
  go_enter Tryd.func23, Tryd.ntmps23
  go_wp2_with (go_at_call 33; refine (l1Num_any _ (by omega) _).mono ?_; rintro e w2 ⟨rfl, m2, hm2⟩; subst hm2)
  rw [HH.out]
  obtain ⟨pr, hpr⟩ : ∃ s, Hid (headS 1 nn ++ atB ++ dec pn = s) := ⟨_, Lib.hid rfl⟩
  rw [hpr.out] at hsz ⊢
  go_loopw [3, 4] (fun vs vi wr => ∃ i n : Nat, i ≤ ws.length ∧ vs = .string (pr ++ wlF ws i) ∧ vi = .int .i64 i ∧ Hid ((pr ++ wlF ws i).size ≤ 50 + 20 * i) ∧ wr = ((w.alloc (.cells #[.int .i64 1, .int .i64 pn, .int .i64 nn, .slice A ws.length c] 24)).alloc (.cells #[.string ⟨#[]⟩, .string ⟨#[105, 110, 115, 101, 114, 116]⟩, .string ⟨#[115, 116, 114, 105, 107, 101, 32]⟩, .string ⟨#[114, 101, 112, 108, 97, 99, 101, 32]⟩] 9)).drewN n) (fun _ vi _ => ws.length - (intOf vi).toNat)
  case atStart => exact ⟨0, _, Nat.zero_le _, by rw [show wlF ws 0 = ByteArray.empty from rfl, app_empty], rfl, Lib.hid (by rw [show wlF ws 0 = ByteArray.empty from rfl, app_empty]; omega), by first | rfl | exact (World.drewN_drewN _ _ _).symm | exact World.drewN_drewN _ _ _⟩
  case round =>
    obtain ⟨i, n, hi, rfl, rfl, hs, rfl⟩ := hrel
    by_cases hlt : i < ws.length
    · have i1 : (i : Int) < (ws.length : Int) := by omega
      obtain ⟨a, hA, hc⟩ := HR.out i _ (strs_get hlt)
      have hwz := HWS.out _ (List.getElem_mem hlt)
      have HTX := Lib.hid (show wlF ws (i + 1) = wlF ws i ++ (if i = 0 then colB else ByteArray.empty) ++ spB ++ ws.getD i ByteArray.empty from rfl)
      have hgd : ws.getD i ByteArray.empty = ws[i] := by rw [List.getD_eq_getElem?_getD, List.getElem?_eq_getElem hlt]; rfl
      rw [hgd] at HTX
      obtain ⟨wi, hwi⟩ : ∃ s, Hid (ws[i] = s) := ⟨_, Lib.hid rfl⟩
      rw [hwi.out] at hc hwz HTX
      have HSZ := hs.out
      have HNX := Lib.hid (show (pr ++ wlF ws (i + 1)) = (pr ++ wlF ws i) ++ (if i = 0 then colB else ByteArray.empty) ++ spB ++ wi by rw [HTX.out]; simp only [ByteArray.append_assoc])
      obtain ⟨tx, htx⟩ : ∃ s, Hid (pr ++ wlF ws i = s) := ⟨_, Lib.hid rfl⟩
      rw [htx.out] at HNX HSZ ⊢
      have hc' : (((w.alloc (.cells #[.int .i64 1, .int .i64 pn, .int .i64 nn, .slice A ws.length c] 24)).alloc (.cells #[.string ⟨#[]⟩, .string ⟨#[105, 110, 115, 101, 114, 116]⟩, .string ⟨#[115, 116, 114, 105, 107, 101, 32]⟩, .string ⟨#[114, 101, 112, 108, 97, 99, 101, 32]⟩] 9)).drewN n).cell? (a.add i) = some (.string wi) := hc
      have e3' : (((w.alloc (.cells #[.int .i64 1, .int .i64 pn, .int .i64 nn, .slice A ws.length c] 24)).alloc (.cells #[.string ⟨#[]⟩, .string ⟨#[105, 110, 115, 101, 114, 116]⟩, .string ⟨#[115, 116, 114, 105, 107, 101, 32]⟩, .string ⟨#[114, 101, 112, 108, 97, 99, 101, 32]⟩] 9)).drewN n).cell? ⟨w.heap.size, 3, none⟩ = some (.slice A ws.length c) := e3
      subst hA
      clear hgd hs HTX
      by_cases h0 : i = 0
      · subst h0
        rw [if_pos rfl] at HNX
        have hc0 : (((w.alloc (.cells #[.int .i64 1, .int .i64 pn, .int .i64 nn, .slice (some a) ws.length c] 24)).alloc (.cells #[.string ⟨#[]⟩, .string ⟨#[105, 110, 115, 101, 114, 116]⟩, .string ⟨#[115, 116, 114, 105, 107, 101, 32]⟩, .string ⟨#[114, 101, 112, 108, 97, 99, 101, 32]⟩] 9)).drewN n).cell? a = some (.string wi) := by have h9 := hc; rwa [show a.add 0 = a from by unfold Addr.add; simp] at h9
        have y5 : ¬ 9223372036854775807 < tx.size + 1 := by omega
        have y6 : ¬ 9223372036854775807 < tx.size + 1 + 1 := by omega
        have y7 : ¬ 9223372036854775807 < tx.size + 1 + 1 + wi.size := by omega
        go_wp2
        go_roundw
        case rel => exact ⟨1, n, by omega, by rw [HNX.out]; rfl, by go_num, Lib.hid (by rw [HNX.out, ByteArray.size_append, ByteArray.size_append, ByteArray.size_append]; have z1 : colB.size = 1 := rfl; have z2 : spB.size = 1 := rfl; omega), by first | rfl | exact (World.drewN_drewN _ _ _).symm⟩
        case measure => simp [intOf]; omega
      · rw [if_neg h0] at HNX
        have HNX := Lib.hid (HNX.out.trans (by rw [app_empty]))
        have b0 : ((i : Int) == 0) = false := by simp; omega
        have b1 : ¬ (i : Int) = 0 := by omega
        have y5 : ¬ 9223372036854775807 < tx.size + 1 := by omega
        have y6 : ¬ 9223372036854775807 < tx.size + 1 + wi.size := by omega
        go_wp2
        go_roundw
        case rel => exact ⟨i + 1, n, by omega, by rw [HNX.out]; rfl, by go_num, Lib.hid (by rw [HNX.out, ByteArray.size_append, ByteArray.size_append]; have z2 : spB.size = 1 := rfl; omega), by first | rfl | exact (World.drewN_drewN _ _ _).symm⟩
        case measure => simp [intOf]; omega
    · obtain rfl : i = ws.length := by omega
      go_wp2
      go_ret
      exact ⟨by rw [hpr.out]; rfl, by first | exact below_drewN HB.out _ | exact HB.out⟩
set_option maxHeartbeats 1000000 in
theorem l9Line_2 {B : Nat} (A : Option Addr) (c pn nn : Nat) (ws : List ByteArray) (w : World) (hp : pn ≤ 20) (hnn : nn ≤ 5) (h : RdS B w A c ws) (hl : ws.length ≤ 5) (hn0 : 0 < nn) (h10 : ∀ w ∈ ws, w.size ≤ 10) :
    Calls Tryd.prog 23 #[.agg #[.int .i64 2, .int .i64 pn, .int .i64 nn, .slice A ws.length c]] w fun e w' => e = .returned (.string (headS 2 nn ++ atB ++ dec pn ++ wlF ws ws.length)) ∧ Below w.heap.size w w' := by
  have HB := Lib.hid ((below1 w (.cells #[.int .i64 2, .int .i64 pn, .int .i64 nn, .slice A ws.length c] 24)).trans ((below1 (w.alloc (.cells #[.int .i64 2, .int .i64 pn, .int .i64 nn, .slice A ws.length c] 24)) (.cells #[.string ⟨#[]⟩, .string ⟨#[105, 110, 115, 101, 114, 116]⟩, .string ⟨#[115, 116, 114, 105, 107, 101, 32]⟩, .string ⟨#[114, 101, 112, 108, 97, 99, 101, 32]⟩] 9)).mono (by simp)))
  have HR := Lib.hid (h.cells.below HB.out)
  have hd1 := dec_sz2 (i := nn) (by omega)
  have hd2 := dec_sz2 (i := pn) hp
  have NX := Lib.hid ((BoxL.new w #[.int .i64 2, .int .i64 pn, .int .i64 nn, .slice A ws.length c] 24).below (below1 (w.alloc (.cells #[.int .i64 2, .int .i64 pn, .int .i64 nn, .slice A ws.length c] 24)) (.cells #[.string ⟨#[]⟩, .string ⟨#[105, 110, 115, 101, 114, 116]⟩, .string ⟨#[115, 116, 114, 105, 107, 101, 32]⟩, .string ⟨#[114, 101, 112, 108, 97, 99, 101, 32]⟩] 9)) (by simp))
  have NL := Lib.hid (BoxL.new (w.alloc (.cells #[.int .i64 2, .int .i64 pn, .int .i64 nn, .slice A ws.length c] 24)) #[.string ⟨#[]⟩, .string ⟨#[105, 110, 115, 101, 114, 116]⟩, .string ⟨#[115, 116, 114, 105, 107, 101, 32]⟩, .string ⟨#[114, 101, 112, 108, 97, 99, 101, 32]⟩] 9)
  have hb1 : (w.alloc (.cells #[.int .i64 2, .int .i64 pn, .int .i64 nn, .slice A ws.length c] 24)).heap.size = w.heap.size + 1 := by simp
  rw [hb1] at NL
  have e0 := NX.out.2 0 _ rfl
  have e1 := NX.out.2 1 _ rfl
  have e2 := NX.out.2 2 _ rfl
  have e3 := NX.out.2 3 _ rfl
  have g1 := NL.out.2 1 _ rfl
  have g2 := NL.out.2 2 _ rfl
  have g3 := NL.out.2 3 _ rfl
  have HWS := Lib.hid h10
  clear h h10 hb1
  have y1 : ¬ 9223372036854775807 < 7 + (dec nn).size := by omega
  have i0 : (0 : Int) < (nn : Int) := by omega
  have y2 : ¬ 9223372036854775807 < 7 + (dec nn).size + 4 := by omega
  have y3 : ¬ 9223372036854775807 < 7 + (dec nn).size + 4 + (dec pn).size := by omega
  have HH := Lib.hid (show (⟨#[115, 116, 114, 105, 107, 101, 32]⟩ : ByteArray) ++ dec nn ++ ⟨#[32, 97, 116, 32]⟩ ++ dec pn = headS 2 nn ++ atB ++ dec pn from rfl)
  have hsz : (headS 2 nn ++ atB ++ dec pn).size ≤ 50 := by
    rw [← HH.out]
    simp only [ByteArray.size_append]
    have z1 : (⟨#[115, 116, 114, 105, 107, 101, 32]⟩ : ByteArray).size = 7 := rfl
    have z2 : (⟨#[32, 97, 116, 32]⟩ : ByteArray).size = 4 := rfl
    omega
  go_enter Tryd.func23, Tryd.ntmps23
  go_wp2_with (go_at_call 33; refine (l1Num_any _ (by omega) _).mono ?_; rintro e w2 ⟨rfl, m2, hm2⟩; subst hm2)
  rw [HH.out]
  obtain ⟨pr, hpr⟩ : ∃ s, Hid (headS 2 nn ++ atB ++ dec pn = s) := ⟨_, Lib.hid rfl⟩
  rw [hpr.out] at hsz ⊢
  go_loopw [3, 4] (fun vs vi wr => ∃ i n : Nat, i ≤ ws.length ∧ vs = .string (pr ++ wlF ws i) ∧ vi = .int .i64 i ∧ Hid ((pr ++ wlF ws i).size ≤ 50 + 20 * i) ∧ wr = ((w.alloc (.cells #[.int .i64 2, .int .i64 pn, .int .i64 nn, .slice A ws.length c] 24)).alloc (.cells #[.string ⟨#[]⟩, .string ⟨#[105, 110, 115, 101, 114, 116]⟩, .string ⟨#[115, 116, 114, 105, 107, 101, 32]⟩, .string ⟨#[114, 101, 112, 108, 97, 99, 101, 32]⟩] 9)).drewN n) (fun _ vi _ => ws.length - (intOf vi).toNat)
  case atStart => exact ⟨0, _, Nat.zero_le _, by rw [show wlF ws 0 = ByteArray.empty from rfl, app_empty], rfl, Lib.hid (by rw [show wlF ws 0 = ByteArray.empty from rfl, app_empty]; omega), by first | rfl | exact (World.drewN_drewN _ _ _).symm | exact World.drewN_drewN _ _ _⟩
  case round =>
    obtain ⟨i, n, hi, rfl, rfl, hs, rfl⟩ := hrel
    by_cases hlt : i < ws.length
    · have i1 : (i : Int) < (ws.length : Int) := by omega
      obtain ⟨a, hA, hc⟩ := HR.out i _ (strs_get hlt)
      have hwz := HWS.out _ (List.getElem_mem hlt)
      have HTX := Lib.hid (show wlF ws (i + 1) = wlF ws i ++ (if i = 0 then colB else ByteArray.empty) ++ spB ++ ws.getD i ByteArray.empty from rfl)
      have hgd : ws.getD i ByteArray.empty = ws[i] := by rw [List.getD_eq_getElem?_getD, List.getElem?_eq_getElem hlt]; rfl
      rw [hgd] at HTX
      obtain ⟨wi, hwi⟩ : ∃ s, Hid (ws[i] = s) := ⟨_, Lib.hid rfl⟩
      rw [hwi.out] at hc hwz HTX
      have HSZ := hs.out
      have HNX := Lib.hid (show (pr ++ wlF ws (i + 1)) = (pr ++ wlF ws i) ++ (if i = 0 then colB else ByteArray.empty) ++ spB ++ wi by rw [HTX.out]; simp only [ByteArray.append_assoc])
      obtain ⟨tx, htx⟩ : ∃ s, Hid (pr ++ wlF ws i = s) := ⟨_, Lib.hid rfl⟩
      rw [htx.out] at HNX HSZ ⊢
      have hc' : (((w.alloc (.cells #[.int .i64 2, .int .i64 pn, .int .i64 nn, .slice A ws.length c] 24)).alloc (.cells #[.string ⟨#[]⟩, .string ⟨#[105, 110, 115, 101, 114, 116]⟩, .string ⟨#[115, 116, 114, 105, 107, 101, 32]⟩, .string ⟨#[114, 101, 112, 108, 97, 99, 101, 32]⟩] 9)).drewN n).cell? (a.add i) = some (.string wi) := hc
      have e3' : (((w.alloc (.cells #[.int .i64 2, .int .i64 pn, .int .i64 nn, .slice A ws.length c] 24)).alloc (.cells #[.string ⟨#[]⟩, .string ⟨#[105, 110, 115, 101, 114, 116]⟩, .string ⟨#[115, 116, 114, 105, 107, 101, 32]⟩, .string ⟨#[114, 101, 112, 108, 97, 99, 101, 32]⟩] 9)).drewN n).cell? ⟨w.heap.size, 3, none⟩ = some (.slice A ws.length c) := e3
      subst hA
      clear hgd hs HTX
      by_cases h0 : i = 0
      · subst h0
        rw [if_pos rfl] at HNX
        have hc0 : (((w.alloc (.cells #[.int .i64 2, .int .i64 pn, .int .i64 nn, .slice (some a) ws.length c] 24)).alloc (.cells #[.string ⟨#[]⟩, .string ⟨#[105, 110, 115, 101, 114, 116]⟩, .string ⟨#[115, 116, 114, 105, 107, 101, 32]⟩, .string ⟨#[114, 101, 112, 108, 97, 99, 101, 32]⟩] 9)).drewN n).cell? a = some (.string wi) := by have h9 := hc; rwa [show a.add 0 = a from by unfold Addr.add; simp] at h9
        have y5 : ¬ 9223372036854775807 < tx.size + 1 := by omega
        have y6 : ¬ 9223372036854775807 < tx.size + 1 + 1 := by omega
        have y7 : ¬ 9223372036854775807 < tx.size + 1 + 1 + wi.size := by omega
        go_wp2
        go_roundw
        case rel => exact ⟨1, n, by omega, by rw [HNX.out]; rfl, by go_num, Lib.hid (by rw [HNX.out, ByteArray.size_append, ByteArray.size_append, ByteArray.size_append]; have z1 : colB.size = 1 := rfl; have z2 : spB.size = 1 := rfl; omega), by first | rfl | exact (World.drewN_drewN _ _ _).symm⟩
        case measure => simp [intOf]; omega
      · rw [if_neg h0] at HNX
        have HNX := Lib.hid (HNX.out.trans (by rw [app_empty]))
        have b0 : ((i : Int) == 0) = false := by simp; omega
        have b1 : ¬ (i : Int) = 0 := by omega
        have y5 : ¬ 9223372036854775807 < tx.size + 1 := by omega
        have y6 : ¬ 9223372036854775807 < tx.size + 1 + wi.size := by omega
        go_wp2
        go_roundw
        case rel => exact ⟨i + 1, n, by omega, by rw [HNX.out]; rfl, by go_num, Lib.hid (by rw [HNX.out, ByteArray.size_append, ByteArray.size_append]; have z2 : spB.size = 1 := rfl; omega), by first | rfl | exact (World.drewN_drewN _ _ _).symm⟩
        case measure => simp [intOf]; omega
    · obtain rfl : i = ws.length := by omega
      go_wp2
      go_ret
      exact ⟨by rw [hpr.out]; rfl, by first | exact below_drewN HB.out _ | exact HB.out⟩
set_option maxHeartbeats 1000000 in
theorem l9Line_3 {B : Nat} (A : Option Addr) (c pn nn : Nat) (ws : List ByteArray) (w : World) (hp : pn ≤ 20) (hnn : nn ≤ 5) (h : RdS B w A c ws) (hl : ws.length ≤ 5) (hn0 : 0 < nn) (h10 : ∀ w ∈ ws, w.size ≤ 10) :
    Calls Tryd.prog 23 #[.agg #[.int .i64 3, .int .i64 pn, .int .i64 nn, .slice A ws.length c]] w fun e w' => e = .returned (.string (headS 3 nn ++ atB ++ dec pn ++ wlF ws ws.length)) ∧ Below w.heap.size w w' := by
  have HB := Lib.hid ((below1 w (.cells #[.int .i64 3, .int .i64 pn, .int .i64 nn, .slice A ws.length c] 24)).trans ((below1 (w.alloc (.cells #[.int .i64 3, .int .i64 pn, .int .i64 nn, .slice A ws.length c] 24)) (.cells #[.string ⟨#[]⟩, .string ⟨#[105, 110, 115, 101, 114, 116]⟩, .string ⟨#[115, 116, 114, 105, 107, 101, 32]⟩, .string ⟨#[114, 101, 112, 108, 97, 99, 101, 32]⟩] 9)).mono (by simp)))
  have HR := Lib.hid (h.cells.below HB.out)
  have hd1 := dec_sz2 (i := nn) (by omega)
  have hd2 := dec_sz2 (i := pn) hp
  have NX := Lib.hid ((BoxL.new w #[.int .i64 3, .int .i64 pn, .int .i64 nn, .slice A ws.length c] 24).below (below1 (w.alloc (.cells #[.int .i64 3, .int .i64 pn, .int .i64 nn, .slice A ws.length c] 24)) (.cells #[.string ⟨#[]⟩, .string ⟨#[105, 110, 115, 101, 114, 116]⟩, .string ⟨#[115, 116, 114, 105, 107, 101, 32]⟩, .string ⟨#[114, 101, 112, 108, 97, 99, 101, 32]⟩] 9)) (by simp))
  have NL := Lib.hid (BoxL.new (w.alloc (.cells #[.int .i64 3, .int .i64 pn, .int .i64 nn, .slice A ws.length c] 24)) #[.string ⟨#[]⟩, .string ⟨#[105, 110, 115, 101, 114, 116]⟩, .string ⟨#[115, 116, 114, 105, 107, 101, 32]⟩, .string ⟨#[114, 101, 112, 108, 97, 99, 101, 32]⟩] 9)
  have hb1 : (w.alloc (.cells #[.int .i64 3, .int .i64 pn, .int .i64 nn, .slice A ws.length c] 24)).heap.size = w.heap.size + 1 := by simp
  rw [hb1] at NL
  have e0 := NX.out.2 0 _ rfl
  have e1 := NX.out.2 1 _ rfl
  have e2 := NX.out.2 2 _ rfl
  have e3 := NX.out.2 3 _ rfl
  have g1 := NL.out.2 1 _ rfl
  have g2 := NL.out.2 2 _ rfl
  have g3 := NL.out.2 3 _ rfl
  have HWS := Lib.hid h10
  clear h h10 hb1
  have y1 : ¬ 9223372036854775807 < 8 + (dec nn).size := by omega
  have i0 : (0 : Int) < (nn : Int) := by omega
  have y2 : ¬ 9223372036854775807 < 8 + (dec nn).size + 4 := by omega
  have y3 : ¬ 9223372036854775807 < 8 + (dec nn).size + 4 + (dec pn).size := by omega
  have HH := Lib.hid (show (⟨#[114, 101, 112, 108, 97, 99, 101, 32]⟩ : ByteArray) ++ dec nn ++ ⟨#[32, 97, 116, 32]⟩ ++ dec pn = headS 3 nn ++ atB ++ dec pn from rfl)
  have hsz : (headS 3 nn ++ atB ++ dec pn).size ≤ 50 := by
    rw [← HH.out]
    simp only [ByteArray.size_append]
    have z1 : (⟨#[114, 101, 112, 108, 97, 99, 101, 32]⟩ : ByteArray).size = 8 := rfl
    have z2 : (⟨#[32, 97, 116, 32]⟩ : ByteArray).size = 4 := rfl
    omega
  go_enter Tryd.func23, Tryd.ntmps23
  go_wp2_with (go_at_call 33; refine (l1Num_any _ (by omega) _).mono ?_; rintro e w2 ⟨rfl, m2, hm2⟩; subst hm2)
  rw [HH.out]
  obtain ⟨pr, hpr⟩ : ∃ s, Hid (headS 3 nn ++ atB ++ dec pn = s) := ⟨_, Lib.hid rfl⟩
  rw [hpr.out] at hsz ⊢
  go_loopw [3, 4] (fun vs vi wr => ∃ i n : Nat, i ≤ ws.length ∧ vs = .string (pr ++ wlF ws i) ∧ vi = .int .i64 i ∧ Hid ((pr ++ wlF ws i).size ≤ 50 + 20 * i) ∧ wr = ((w.alloc (.cells #[.int .i64 3, .int .i64 pn, .int .i64 nn, .slice A ws.length c] 24)).alloc (.cells #[.string ⟨#[]⟩, .string ⟨#[105, 110, 115, 101, 114, 116]⟩, .string ⟨#[115, 116, 114, 105, 107, 101, 32]⟩, .string ⟨#[114, 101, 112, 108, 97, 99, 101, 32]⟩] 9)).drewN n) (fun _ vi _ => ws.length - (intOf vi).toNat)
  case atStart => exact ⟨0, _, Nat.zero_le _, by rw [show wlF ws 0 = ByteArray.empty from rfl, app_empty], rfl, Lib.hid (by rw [show wlF ws 0 = ByteArray.empty from rfl, app_empty]; omega), by first | rfl | exact (World.drewN_drewN _ _ _).symm | exact World.drewN_drewN _ _ _⟩
  case round =>
    obtain ⟨i, n, hi, rfl, rfl, hs, rfl⟩ := hrel
    by_cases hlt : i < ws.length
    · have i1 : (i : Int) < (ws.length : Int) := by omega
      obtain ⟨a, hA, hc⟩ := HR.out i _ (strs_get hlt)
      have hwz := HWS.out _ (List.getElem_mem hlt)
      have HTX := Lib.hid (show wlF ws (i + 1) = wlF ws i ++ (if i = 0 then colB else ByteArray.empty) ++ spB ++ ws.getD i ByteArray.empty from rfl)
      have hgd : ws.getD i ByteArray.empty = ws[i] := by rw [List.getD_eq_getElem?_getD, List.getElem?_eq_getElem hlt]; rfl
      rw [hgd] at HTX
      obtain ⟨wi, hwi⟩ : ∃ s, Hid (ws[i] = s) := ⟨_, Lib.hid rfl⟩
      rw [hwi.out] at hc hwz HTX
      have HSZ := hs.out
      have HNX := Lib.hid (show (pr ++ wlF ws (i + 1)) = (pr ++ wlF ws i) ++ (if i = 0 then colB else ByteArray.empty) ++ spB ++ wi by rw [HTX.out]; simp only [ByteArray.append_assoc])
      obtain ⟨tx, htx⟩ : ∃ s, Hid (pr ++ wlF ws i = s) := ⟨_, Lib.hid rfl⟩
      rw [htx.out] at HNX HSZ ⊢
      have hc' : (((w.alloc (.cells #[.int .i64 3, .int .i64 pn, .int .i64 nn, .slice A ws.length c] 24)).alloc (.cells #[.string ⟨#[]⟩, .string ⟨#[105, 110, 115, 101, 114, 116]⟩, .string ⟨#[115, 116, 114, 105, 107, 101, 32]⟩, .string ⟨#[114, 101, 112, 108, 97, 99, 101, 32]⟩] 9)).drewN n).cell? (a.add i) = some (.string wi) := hc
      have e3' : (((w.alloc (.cells #[.int .i64 3, .int .i64 pn, .int .i64 nn, .slice A ws.length c] 24)).alloc (.cells #[.string ⟨#[]⟩, .string ⟨#[105, 110, 115, 101, 114, 116]⟩, .string ⟨#[115, 116, 114, 105, 107, 101, 32]⟩, .string ⟨#[114, 101, 112, 108, 97, 99, 101, 32]⟩] 9)).drewN n).cell? ⟨w.heap.size, 3, none⟩ = some (.slice A ws.length c) := e3
      subst hA
      clear hgd hs HTX
      by_cases h0 : i = 0
      · subst h0
        rw [if_pos rfl] at HNX
        have hc0 : (((w.alloc (.cells #[.int .i64 3, .int .i64 pn, .int .i64 nn, .slice (some a) ws.length c] 24)).alloc (.cells #[.string ⟨#[]⟩, .string ⟨#[105, 110, 115, 101, 114, 116]⟩, .string ⟨#[115, 116, 114, 105, 107, 101, 32]⟩, .string ⟨#[114, 101, 112, 108, 97, 99, 101, 32]⟩] 9)).drewN n).cell? a = some (.string wi) := by have h9 := hc; rwa [show a.add 0 = a from by unfold Addr.add; simp] at h9
        have y5 : ¬ 9223372036854775807 < tx.size + 1 := by omega
        have y6 : ¬ 9223372036854775807 < tx.size + 1 + 1 := by omega
        have y7 : ¬ 9223372036854775807 < tx.size + 1 + 1 + wi.size := by omega
        go_wp2
        go_roundw
        case rel => exact ⟨1, n, by omega, by rw [HNX.out]; rfl, by go_num, Lib.hid (by rw [HNX.out, ByteArray.size_append, ByteArray.size_append, ByteArray.size_append]; have z1 : colB.size = 1 := rfl; have z2 : spB.size = 1 := rfl; omega), by first | rfl | exact (World.drewN_drewN _ _ _).symm⟩
        case measure => simp [intOf]; omega
      · rw [if_neg h0] at HNX
        have HNX := Lib.hid (HNX.out.trans (by rw [app_empty]))
        have b0 : ((i : Int) == 0) = false := by simp; omega
        have b1 : ¬ (i : Int) = 0 := by omega
        have y5 : ¬ 9223372036854775807 < tx.size + 1 := by omega
        have y6 : ¬ 9223372036854775807 < tx.size + 1 + wi.size := by omega
        go_wp2
        go_roundw
        case rel => exact ⟨i + 1, n, by omega, by rw [HNX.out]; rfl, by go_num, Lib.hid (by rw [HNX.out, ByteArray.size_append, ByteArray.size_append]; have z2 : spB.size = 1 := rfl; omega), by first | rfl | exact (World.drewN_drewN _ _ _).symm⟩
        case measure => simp [intOf]; omega
    · obtain rfl : i = ws.length := by omega
      go_wp2
      go_ret
      exact ⟨by rw [hpr.out]; rfl, by first | exact below_drewN HB.out _ | exact HB.out⟩
end Go.Proofs.YtnnphhhjkhoglaaDoor
