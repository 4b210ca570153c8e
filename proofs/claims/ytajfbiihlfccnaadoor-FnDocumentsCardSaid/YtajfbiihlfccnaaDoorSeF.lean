/- The draws of FnDocuments. Conditions: the ranges named. -/
import Derived.Test.YtajfbiihlfccnaaDoorSeE
import Derived.Test.YtajfbiihlfccnaaDoorSeQ
import Derived.Test.YtajfbiihlfccnaaDoorSp2
namespace Go.Proofs.YtajfbiihlfccnaaDoor
open Go.RowKit
set_option linter.unusedVariables false
set_option linter.unusedSimpArgs false
attribute [local go_sem ↓] Go.wp_at_zero Go.wp_at_succ
def wd7 : List ByteArray := [⟨#[]⟩, ⟨#[49]⟩, ⟨#[49, 46, 49]⟩, ⟨#[50, 46, 49, 46, 49]⟩, ⟨#[48, 49]⟩, ⟨#[49, 46]⟩, ⟨#[49, 51]⟩]
theorem txS_size (xs : List Sec) : (txS xs).size ≤ 300 := by
  by_cases h : docB xs = true
  · have h1 := lines_len h xs.length (Nat.le_refl _)
    have h12 := (doc_yes h).1
    have h2 : (txF xs xs.length).data.toList.length = (txF xs xs.length).size := Array.length_toList
    unfold txS
    rw [if_pos h]
    omega
  · unfold txS
    rw [if_neg h]
    exact Nat.zero_le _
set_option maxRecDepth 100000 in
set_option maxHeartbeats 4000000 in
theorem DrawFindSection_any (A : Option Addr) (n c : Nat) (w : World) (h : BytesC w A n) (hn : n ≤ 65536) :
    Calls Tryd.prog 32 #[.slice A n c] w fun e w' => ∃ (P : Option Addr) (p : Nat) (xs : List Sec) (z : ByteArray), e = .returned (.tuple #[.slice P xs.length p, .string z]) ∧ DrS w P p xs w' := by
  have S := Lib.hid (Tst.mk (Cur.new_ (c := c) h hn 66) (below1 w _) h (Nat.le_refl _))
  have hb0 : w.heap.size < (w.alloc (.cells #[.slice A n c, .int .i64 0, .int .u64 0] 66)).heap.size := by simp
  clear h
  go_enter Tryd.func32, Tryd.ntmps32
  go_upto_region 2 with fail
  generalize (w.alloc (.cells #[.slice A n c, .int .i64 0, .int .u64 0] 66)) = v1 at *
  go_wp2_with fail
  refine (document_any w.heap.size A n c _ _ S.out.cur (by omega)).mono ?_
  rintro e v2 ⟨P, p, xs, rfl, hxl, o1, hc, ho⟩
  replace S := Lib.hid (S.out.draw hc ho)
  have RR := Lib.hid o1
  clear hc ho o1
  go_wp2_with fail
  refine (sectionOf_any P p xs.length hxl w.heap.size A n c _ _ S.out.cur (by omega)).mono ?_
  rintro e v3 ⟨⟨i, rfl⟩, hc, ho⟩
  replace S := Lib.hid (S.out.draw hc ho)
  replace RR := Lib.hid (RR.out.draw ho (by omega))
  clear hc ho 
  go_wp2_with fail
  refine (sSectionNumber_any P p xs i v3 RR.out.rd.cells RR.out.rd.2.2.1 RR.out.rd.2.2.2).mono ?_
  rintro e v4 ⟨rfl, hb⟩
  replace S := Lib.hid (S.out.call hb)
  replace RR := Lib.hid (RR.out.call hb)
  clear hb 
  obtain ⟨s, hs⟩ : ∃ s, Hid (snS xs i = s) := ⟨_, Lib.hid rfl⟩
  rw [hs.out]
  rcases Bool.eq_false_or_eq_true (askB xs i) with hq | hq
  · rw [hq]
    go_wp2_with fail
    refine (one_any 4 (by omega) (by omega) w.heap.size A n c _ _ S.out.cur (by omega)).mono ?_
    rintro e v5 ⟨⟨x, rfl⟩, hc, ho⟩
    replace S := Lib.hid (S.out.draw hc ho)
    replace RR := Lib.hid (RR.out.draw ho (by omega))
    clear hc ho 
    rcases Bool.eq_false_or_eq_true x with hx | hx
    · subst hx
      have HL := Lib.hid (lit_cellsS v5 wd7 9 v5.heap.size rfl)
      have HLb : v5.heap.size ≠ w.heap.size := by have := S.out.bw; omega
      have hbl := below1 v5 (.cells #[.string ⟨#[]⟩, .string ⟨#[49]⟩, .string ⟨#[49, 46, 49]⟩, .string ⟨#[50, 46, 49, 46, 49]⟩, .string ⟨#[48, 49]⟩, .string ⟨#[49, 46]⟩, .string ⟨#[49, 51]⟩] 9)
      replace S := Lib.hid (S.out.call hbl)
      replace RR := Lib.hid (RR.out.call hbl)
      clear hbl
      go_wp2_with fail
      refine (of_any wd7 (some ⟨v5.heap.size, 0, none⟩) 7 (by decide) (by decide) w.heap.size A n c _ _ S.out.cur (by omega) HL.out (fun a ha => by obtain rfl := Option.some.inj ha; exact HLb)).mono ?_
      rintro e v6 ⟨⟨z, rfl, hz⟩, hc, ho⟩
      replace S := Lib.hid (S.out.draw hc ho)
      replace RR := Lib.hid (RR.out.draw ho (by omega))
      clear hc ho HL HLb hz
      go_wp2_with (refine bodyPost_ret (v := .tuple #[.slice P xs.length p, .string z]) (by simp [results, Tryd.results32, go_sem]) rfl ?_; exact ⟨P, p, xs, z, rfl, RR.out.low (by omega), hxl, S.out.on⟩)
    · subst hx
      go_wp2_with (refine bodyPost_ret (v := .tuple #[.slice P xs.length p, .string s]) (by simp [results, Tryd.results32, go_sem]) rfl ?_; exact ⟨P, p, xs, s, rfl, RR.out.low (by omega), hxl, S.out.on⟩)
  · rw [hq]
    have HL := Lib.hid (lit_cellsS v4 wd7 9 v4.heap.size rfl)
    have HLb : v4.heap.size ≠ w.heap.size := by have := S.out.bw; omega
    have hbl := below1 v4 (.cells #[.string ⟨#[]⟩, .string ⟨#[49]⟩, .string ⟨#[49, 46, 49]⟩, .string ⟨#[50, 46, 49, 46, 49]⟩, .string ⟨#[48, 49]⟩, .string ⟨#[49, 46]⟩, .string ⟨#[49, 51]⟩] 9)
    replace S := Lib.hid (S.out.call hbl)
    replace RR := Lib.hid (RR.out.call hbl)
    clear hbl
    go_wp2_with fail
    refine (of_any wd7 (some ⟨v4.heap.size, 0, none⟩) 7 (by decide) (by decide) w.heap.size A n c _ _ S.out.cur (by omega) HL.out (fun a ha => by obtain rfl := Option.some.inj ha; exact HLb)).mono ?_
    rintro e v7 ⟨⟨z, rfl, hz⟩, hc, ho⟩
    replace S := Lib.hid (S.out.draw hc ho)
    replace RR := Lib.hid (RR.out.draw ho (by omega))
    clear hc ho HL HLb hz
    go_wp2_with (refine bodyPost_ret (v := .tuple #[.slice P xs.length p, .string z]) (by simp [results, Tryd.results32, go_sem]) rfl ?_; exact ⟨P, p, xs, z, rfl, RR.out.low (by omega), hxl, S.out.on⟩)
set_option maxRecDepth 100000 in
set_option maxHeartbeats 4000000 in
theorem DrawIsDocument_any (A : Option Addr) (n c : Nat) (w : World) (h : BytesC w A n) (hn : n ≤ 65536) :
    Calls Tryd.prog 69 #[.slice A n c] w fun e w' => ∃ (P : Option Addr) (p : Nat) (xs : List Sec), e = .returned (.slice P xs.length p) ∧ DrS w P p xs w' := by
  have S := Lib.hid (Tst.mk (Cur.new_ (c := c) h hn 66) (below1 w _) h (Nat.le_refl _))
  have hb0 : w.heap.size < (w.alloc (.cells #[.slice A n c, .int .i64 0, .int .u64 0] 66)).heap.size := by simp
  clear h
  go_enter Tryd.func69, Tryd.ntmps69
  go_upto_region 2 with fail
  generalize (w.alloc (.cells #[.slice A n c, .int .i64 0, .int .u64 0] 66)) = v1 at *
  go_wp2_with fail
  refine (document_any w.heap.size A n c _ _ S.out.cur (by omega)).mono ?_
  rintro e v2 ⟨P, p, xs, rfl, hxl, o1, hc, ho⟩
  replace S := Lib.hid (S.out.draw hc ho)
  have RR := Lib.hid o1
  clear hc ho o1
  go_wp2
  go_ret
  exact ⟨P, p, xs, rfl, RR.out.low (by omega), hxl, S.out.on⟩
set_option maxRecDepth 100000 in
set_option maxHeartbeats 4000000 in
theorem DrawDocumentText_any (A : Option Addr) (n c : Nat) (w : World) (h : BytesC w A n) (hn : n ≤ 65536) :
    Calls Tryd.prog 34 #[.slice A n c] w fun e w' => ∃ (P : Option Addr) (p : Nat) (xs : List Sec), e = .returned (.slice P xs.length p) ∧ DrS w P p xs w' := by
  have H := Lib.hid h
  clear h
  go_enter Tryd.func34, Tryd.ntmps34
  go_wp2_with fail
  refine (DrawIsDocument_any A n c w H.out hn).mono ?_
  rintro e w1 ⟨P, p, xs, rfl, hd⟩
  have HD := Lib.hid hd
  clear hd
  go_wp2
  go_ret
  exact ⟨P, p, xs, rfl, HD.out⟩
set_option maxRecDepth 100000 in
set_option maxHeartbeats 4000000 in
theorem DrawParseDocument_any (A : Option Addr) (n c : Nat) (w : World) (h : BytesC w A n) (hn : n ≤ 65536) :
    Calls Tryd.prog 39 #[.slice A n c] w fun e w' => (∃ x : ByteArray, e = .returned (.string x) ∧ x.size ≤ 400) ∧ Below w.heap.size w w' := by
  have S := Lib.hid (Tst.mk (Cur.new_ (c := c) h hn 66) (below1 w _) h (Nat.le_refl _))
  have hb0 : w.heap.size < (w.alloc (.cells #[.slice A n c, .int .i64 0, .int .u64 0] 66)).heap.size := by simp
  clear h
  go_enter Tryd.func39, Tryd.ntmps39
  go_upto_region 2 with fail
  generalize (w.alloc (.cells #[.slice A n c, .int .i64 0, .int .u64 0] 66)) = v1 at *
  go_wp2_with fail
  refine (document_any w.heap.size A n c _ _ S.out.cur (by omega)).mono ?_
  rintro e v2 ⟨P, p, xs, rfl, hxl, o1, hc, ho⟩
  replace S := Lib.hid (S.out.draw hc ho)
  have RR := Lib.hid o1
  clear hc ho o1
  go_wp2_with fail
  refine (sDocumentText_any P p xs v2 RR.out.rd.cells RR.out.rd.2.2.1 RR.out.rd.2.2.2).mono ?_
  rintro e v3 ⟨rfl, hb⟩
  replace S := Lib.hid (S.out.call hb)
  replace RR := Lib.hid (RR.out.call hb)
  have hsz := txS_size xs
  generalize txS xs = t at *
  clear hb 
  clear RR
  go_wp2_with fail
  refine (one_any 4 (by omega) (by omega) w.heap.size A n c _ _ S.out.cur (by omega)).mono ?_
  rintro e v4 ⟨⟨x, rfl⟩, hc, ho⟩
  replace S := Lib.hid (S.out.draw hc ho)
  clear hc ho 
  rcases Bool.eq_false_or_eq_true x with hx | hx
  · subst hx
    go_wp2_with fail
    refine (spoiltN_any t ⟨#[49, 46, 32, 10, 97]⟩ (by omega) (by decide) (by decide) w.heap.size A n c _ _ S.out.cur (by omega)).mono ?_
    rintro e v5 ⟨⟨x, rfl, hx⟩, hc, ho⟩
    replace S := Lib.hid (S.out.draw hc ho)
    clear hc ho 
    go_wp2
    go_ret
    exact ⟨⟨x, rfl, by omega⟩, S.out.on⟩
  · subst hx
    go_wp2
    go_ret
    exact ⟨⟨t, rfl, by omega⟩, S.out.on⟩
end Go.Proofs.YtajfbiihlfccnaaDoor
