/- The numbers of sections: distinct, and found again. SectionNumber, in the program and in the reference. Conditions: the ranges named. -/
import Derived.Test.YtajfbiihlfccnaaDoorSe4
import Derived.Test.YtajfbiihlfccnaaDoorDoc1
namespace Go.Proofs.YtajfbiihlfccnaaDoor
open Go.RowKit
set_option linter.unusedVariables false
set_option linter.unusedSimpArgs false
theorem cut_inj {c : UInt8} : ∀ {D D' A A' : List UInt8}, c ∉ D → c ∉ D' → D ++ c :: A = D' ++ c :: A' → D = D' ∧ A = A'
  | [], [], A, A', _, _, h => by
    injection h with h1 h2
    exact ⟨rfl, h2⟩
  | [], b :: t, A, A', _, h2, h => by
    injection h with h3 h4
    exact absurd (by rw [h3]; simp) h2
  | b :: t, [], A, A', h1, _, h => by
    injection h with h3 h4
    exact absurd (by rw [← h3]; simp) h1
  | b :: t, b' :: t', A, A', h1, h2, h => by
    injection h with h3 h4
    obtain ⟨e1, e2⟩ := cut_inj (fun m => h1 (List.mem_cons_of_mem _ m)) (fun m => h2 (List.mem_cons_of_mem _ m)) h4
    exact ⟨by rw [h3, e1], e2⟩
theorem cut_inj_r {c : UInt8} {D D' A A' : List UInt8} (h1 : c ∉ D) (h2 : c ∉ D') (h : A ++ c :: D = A' ++ c :: D') : A = A' ∧ D = D' := by
  have h3 := congrArg List.reverse h
  simp only [List.reverse_append, List.reverse_cons, List.append_assoc, List.singleton_append] at h3
  obtain ⟨e1, e2⟩ := cut_inj (fun m => h1 (List.mem_reverse.1 m)) (fun m => h2 (List.mem_reverse.1 m)) h3
  exact ⟨List.reverse_inj.1 e2, List.reverse_inj.1 e1⟩
theorem digits_inj {a b : Nat} (h : Go.Lib.decDigits a = Go.Lib.decDigits b) : a = b := by
  have h1 := rd_dec (n := a)
  rw [h, rd_dec] at h1
  injection h1 with h1
  exact h1.symm
theorem cntF_cong {xs : List Sec} {i j : Nat} (hd : dAt xs i = dAt xs j) (hu : upN xs i = upN xs j) : ∀ k, cntF xs i k = cntF xs j k
  | 0 => rfl
  | k + 1 => by rw [cntF, cntF, cntF_cong hd hu k, hd, hu]
theorem cntF_up {xs : List Sec} {i : Nat} : ∀ {k m : Nat}, k ≤ m → cntF xs i k ≤ cntF xs i m := by
  intro k m h
  induction m with
  | zero => obtain rfl : k = 0 := by omega
            exact Nat.le_refl _
  | succ m ih =>
    rcases Nat.lt_or_ge k (m + 1) with h1 | h1
    · have := ih (by omega)
      rw [cntF]
      omega
    · obtain rfl : k = m + 1 := by omega
      exact Nat.le_refl _
theorem cnt_lt {xs : List Sec} {i j : Nat} (h : i < j) (hd : dAt xs i = dAt xs j) (hu : upN xs i = upN xs j) : cntF xs i (i + 1) < cntF xs j (j + 1) := by
  rw [cntF_cong hd hu]
  have h1 := cntF_up (xs := xs) (i := j) (show i + 1 ≤ j by omega)
  have e : cntF xs j (j + 1) = cntF xs j j + 1 := by rw [cntF, if_pos ⟨rfl, rfl⟩]
  omega
theorem cnt_eq {xs : List Sec} {i j : Nat} (hd : dAt xs i = dAt xs j) (hu : upN xs i = upN xs j) (hc : cntF xs i (i + 1) = cntF xs j (j + 1)) : i = j := by
  rcases Nat.lt_trichotomy i j with h | h | h
  · have := cnt_lt h hd hu; omega
  · exact h
  · have := cnt_lt h hd.symm hu.symm; omega
theorem num_sub_list {xs : List Sec} {i u : Nat} (h : upN xs i = (u : Int)) : (numS xs i).data.toList = (numS xs u).data.toList ++ 46 :: Go.Lib.decDigits (cntF xs i (i + 1)) := by
  rw [numS_sub h, ByteArray.data_append, ByteArray.data_append, Array.toList_append, Array.toList_append, dec_list, List.append_assoc]
  rfl
theorem no46 (n : Nat) : (46 : UInt8) ∉ Go.Lib.decDigits n := fun h => by
  have := dec_mem h
  simp at this
/-- No two sections of a document have the same number. -/
theorem num_inj {xs : List Sec} (hd : docB xs = true) : ∀ i j, i < xs.length → j < xs.length → numS xs i = numS xs j → i = j := by
  intro i
  induction i using Nat.strongRecOn with
  | _ i ih =>
    intro j hi hj he
    have d1 := (num_facts hd i hi).1
    have d2 := (num_facts hd j hj).1
    have hdd : dAt xs i = dAt xs j := by rw [← d1, ← d2, he]
    obtain ⟨a1, a2⟩ := up_dep hd hi
    obtain ⟨b1, b2⟩ := up_dep hd hj
    have l1 := upN_lt xs i
    have l2 := upN_lt xs j
    by_cases hu : upN xs i < 0
    · have hv : upN xs j < 0 := by
        rcases Int.lt_or_le (upN xs j) 0 with h | h
        · exact h
        · obtain ⟨v, hv⟩ : ∃ v : Nat, upN xs j = (v : Int) := ⟨(upN xs j).toNat, by omega⟩
          have h3 := b2 v hv
          have h4 := (doc_dep hd (k := v) (by omega)).1
          have h5 := a1 hu
          omega
      refine cnt_eq hdd (by omega) ?_
      rw [numS_top hu, numS_top hv] at he
      have h6 := congrArg (fun b => b.data.toList) he
      simp only [dec_list] at h6
      exact digits_inj h6
    · obtain ⟨u, hu2⟩ : ∃ u : Nat, upN xs i = (u : Int) := ⟨(upN xs i).toNat, by omega⟩
      have hv : ¬ upN xs j < 0 := by
        intro h
        have h3 := a2 u hu2
        have h4 := (doc_dep hd (k := u) (by omega)).1
        have h5 := b1 h
        omega
      obtain ⟨v, hv2⟩ : ∃ v : Nat, upN xs j = (v : Int) := ⟨(upN xs j).toNat, by omega⟩
      have h6 := congrArg (fun b => b.data.toList) he
      simp only [num_sub_list hu2, num_sub_list hv2] at h6
      obtain ⟨e1, e2⟩ := cut_inj_r (no46 _) (no46 _) h6
      have e3 : u = v := ih u (by omega) v (by omega) (by omega) (ByteArray.ext (Array.ext' e1))
      exact cnt_eq hdd (by omega) (digits_inj e2)
theorem fsU_none {xs : List Sec} {s : ByteArray} : ∀ {n : Nat}, (∀ k, k < n → numS xs k ≠ s) → fsU xs s n = none
  | 0, _ => rfl
  | n + 1, h => fsU_no (fsU_none (fun k hk => h k (by omega))) (h n (by omega))
theorem fs_num {xs : List Sec} (hd : docB xs = true) {n : Nat} (hn : n < xs.length) : fsI xs (numS xs n) = n ∧ fsB xs (numS xs n) = true := by
  refine fs_yes hd (fsU_yes (fsU_none (fun k hk he => ?_)) rfl hn)
  have := num_inj hd k n (by omega) hn he
  omega
def snS (xs : List Sec) (i : Int) : ByteArray := if askB xs i = true then numS xs i.toNat else ByteArray.empty
/-- What the law asks of a section. -/
theorem sec_law {xs : List Sec} {i : Int} (h : askB xs i = true) : ∃ n : Nat, i = n ∧ n < xs.length ∧ snS xs i = numS xs n ∧ fsI xs (numS xs n) = n ∧ fsB xs (numS xs n) = true ∧ upB xs i = decide (1 < dAt xs n) ∧ 1 ≤ dAt xs n ∧ dAt xs n ≤ 4 ∧ (numS xs n).size ≤ 100 ∧
    (upB xs i = true → ∃ u : Nat, upI xs i = (u : Int) ∧ u < xs.length ∧ askB xs (u : Int) = true ∧ dAt xs u = dAt xs n - 1 ∧ ∃ t : ByteArray, numS xs n = numS xs u ++ ⟨#[46]⟩ ++ t) := by
  obtain ⟨hd, h12, n, rfl, hn⟩ := ask_at h
  obtain ⟨f1, f2⟩ := fs_num hd hn
  obtain ⟨u1, u2⟩ := up_dep hd hn
  obtain ⟨g1, g2, g3, g4⟩ := doc_dep hd hn
  have hnn : ((n : Nat) : Int).toNat = n := by omega
  have hub : upB xs (n : Int) = decide (0 ≤ upN xs n) := by unfold upB; rw [h, hnn]; rfl
  have hlt := upN_lt xs n
  have hsz := numS_size (xs := xs) (show n < 20 by omega)
  refine ⟨n, rfl, hn, by unfold snS; rw [if_pos h, hnn], f1, f2, ?_, g1, g3, by omega, fun hb => ?_⟩
  · rw [hub]
    by_cases hu : upN xs n < 0
    · have := u1 hu
      rw [decide_eq_false (by omega), decide_eq_false (by omega)]
    · obtain ⟨u, hu2⟩ : ∃ u : Nat, upN xs n = (u : Int) := ⟨(upN xs n).toNat, by omega⟩
      have h3 := u2 u hu2
      have h4 := (doc_dep hd (k := u) (by omega)).1
      rw [decide_eq_true (by omega), decide_eq_true (by omega)]
  · rw [hub] at hb
    have hb := of_decide_eq_true hb
    obtain ⟨u, hu2⟩ : ∃ u : Nat, upN xs n = (u : Int) := ⟨(upN xs n).toNat, by omega⟩
    refine ⟨u, ?_, by omega, ?_, u2 u hu2, _, numS_sub hu2⟩
    · unfold upI
      rw [hub, if_pos (decide_eq_true hb), hnn, hu2]
    · unfold askB
      rw [hd, Bool.true_and]
      exact inB_iff.2 (by omega)
theorem snS_size {xs : List Sec} (i : Int) : (snS xs i).size ≤ 1048576 := by
  by_cases h : askB xs i = true
  · obtain ⟨n, _, _, e, _, _, _, _, _, hs, _⟩ := sec_law h
    rw [e]
    omega
  · unfold snS
    rw [if_neg h]
    exact Nat.zero_le _
theorem SectionNumber_any (A : Option Addr) (c : Nat) (xs : List Sec) (i : Int) (w : World) (h : Cells w A (SectionK.row xs)) (hn : xs.length ≤ 1048576) (hf : ∀ x ∈ xs, SectionK.fit x) :
    Calls Tryd.prog 28 #[.slice A xs.length c, .int .i64 i] w fun e w' => e = .returned (.tuple #[.string (snS xs i), .bool (askB xs i)]) ∧ Below w.heap.size w w' := by
  have H := Lib.hid h
  have HF := Lib.hid hf
  clear h hf
  go_enter Tryd.func28, Tryd.ntmps28
  go_wp2_with fail
  refine (hasSection_any A c xs i _ H.out hn HF.out).mono ?_
  rintro e w1 ⟨rfl, hb⟩
  have HB := Lib.hid hb
  have H1 := Lib.hid (H.out.below hb)
  clear hb
  rcases Bool.eq_false_or_eq_true (askB xs i) with hd | hd
  · obtain ⟨_, h12, n, rfl, hlt⟩ := ask_at hd
    have HR := Lib.hid (show snS xs (n : Int) = numS xs n by unfold snS; rw [if_pos hd]; rfl)
    have HD := Lib.hid hd
    rw [hd]
    clear hd
    go_wp2_with fail
    refine (sectionNumber_any A c xs h12 n _ H1.out hlt).mono ?_
    rintro e w2 ⟨rfl, hw⟩
    have HB2 := Lib.hid (below_drews HB.out hw)
    clear hw
    go_wp2
    go_ret2
    exact ⟨by rw [HR.out, HD.out]; rfl, HB2.out⟩
  · have HR := Lib.hid (show snS xs i = ByteArray.empty by unfold snS; rw [if_neg (by rw [hd]; simp)])
    have HD := Lib.hid hd
    rw [hd]
    clear hd
    go_wp2
    go_ret2
    exact ⟨by rw [HR.out, HD.out]; rfl, HB.out⟩
theorem sSectionNumber_any (A : Option Addr) (c : Nat) (xs : List Sec) (i : Int) (w : World) (h : Cells w A (SectionK.row xs)) (hn : xs.length ≤ 1048576) (hf : ∀ x ∈ xs, SectionK.fit x) :
    Calls Tryd.prog 29 #[.slice A xs.length c, .int .i64 i] w fun e w' => e = .returned (.tuple #[.string (snS xs i), .bool (askB xs i)]) ∧ Below w.heap.size w w' := by
  have H := Lib.hid h
  have HF := Lib.hid hf
  clear h hf
  go_enter Tryd.func29, Tryd.ntmps29
  go_wp2_with fail
  refine (l6Asked_any A c xs i _ H.out hn HF.out).mono ?_
  rintro e w1 ⟨rfl, hw⟩
  have HB := Lib.hid hw
  have H1 := Lib.hid (H.out.below HB.out)
  clear hw
  rcases Bool.eq_false_or_eq_true (askB xs i) with hd | hd
  · obtain ⟨_, h12, n, rfl, hlt⟩ := ask_at hd
    have HR := Lib.hid (show snS xs (n : Int) = numS xs n by unfold snS; rw [if_pos hd]; rfl)
    have HD := Lib.hid hd
    rw [hd]
    clear hd
    go_wp2_with fail
    refine (l6Number_any A c xs h12 n _ H1.out hlt).mono ?_
    rintro e w2 ⟨rfl, hw⟩
    have HB2 := Lib.hid (below_drews HB.out hw)
    clear hw
    go_wp2
    go_ret2
    exact ⟨by rw [HR.out, HD.out]; rfl, HB2.out⟩
  · have HR := Lib.hid (show snS xs i = ByteArray.empty by unfold snS; rw [if_neg (by rw [hd]; simp)])
    have HD := Lib.hid hd
    rw [hd]
    clear hd
    go_wp2
    go_ret2
    exact ⟨by rw [HR.out, HD.out]; rfl, HB.out⟩
end Go.Proofs.YtajfbiihlfccnaaDoor
