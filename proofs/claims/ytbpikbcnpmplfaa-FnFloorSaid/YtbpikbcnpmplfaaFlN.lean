/- New floors, of the program and of the reference. Conditions: the ranges named. -/
import Derived.Test.YtbpikbcnpmplfaaFlG
import Derived.Test.YtbpikbcnpmplfaaFlE1
namespace Go.Proofs.Ytbpikbcnpmplfaa
open Go.RowKit
set_option linter.unusedVariables false

/-- A call that returns a floor of its own and whether it could. -/
def ToFB (w : World) (f : Flr) (ok : Bool) (e : Ending) (w' : World) : Prop := ∃ (A : Option Addr) (c : Nat) (D : Option Addr) (d : Nat), e = .returned (.tuple #[.agg #[.int .i64 f.t, .int .i64 f.s, .int .i64 f.sp, .slice A f.wt.length c, .slice D f.sh.length d], .bool ok]) ∧ Ow IntK 3 w.heap.size w'.heap.size w' A c f.wt ∧ Ow ShareK 43 w.heap.size w'.heap.size w' D d f.sh ∧ Below w.heap.size w w'
theorem ow_nil {α : Type} {K : Kd α} {e : TypeId} {lo hi : Nat} {w : World} : Ow K e lo hi w none 0 [] := ⟨⟨by simp [Kd.row], .inl ⟨rfl, rfl⟩⟩, (fun a h => (by cases h)), by simp, (fun x h => (by simp at h))⟩
/-- An append, with the word on what else has turned. -/
theorem list_append_g {P : Program} {T E : TypeId} {size bytes : Nat} (el : ElT P T E size bytes) (w : World) {ops : Array Oper} {rest : List Oper} {o : Oper} {a : Act} {Q : Exit → Act → World → Prop} (hgd : o.guard = none) (s x : Operand)
    (ho : o.op = .call { callee := .builtin .append, args := #[s, x], argTypes := #[T, T] }) (base : Nat) (O A : Option Addr) (oc n m c : Nat) (xs news : List Value) (hs : a.eval s = .slice O n oc) (hx : a.eval x = .slice A m c) (hl : news.length = m * size) (hown : w.ownsRow base E size (.slice O n oc) n xs) (hc : Cells w A news) (h1 : ∀ u ∈ news, u.oneCell' = true) (hb : base ≤ w.heap.size) (h63 : n + m ≤ 1100000)
    (h : ∀ (O' : Option Addr) (d : Nat) (w' : World), w'.ownsRow base E size (.slice O' (n + m) d) (n + m) (xs ++ news) → Below base w w' → w.grownBy w' (Value.slice O n oc).ownBlock → wpList P ops Q rest (a.put o.dst (.slice O' (n + m) d)) w') :
    wpList P ops Q (o :: rest) a w := by
  obtain ⟨O', d, w', hrun, g1, g2, g3⟩ := append_own el w o.type base O A oc n m c xs news hown hl hc h1 hb h63
  exact Lib.wpList_append_run w hgd s x _ _ ho _ _ hs hx _ _ hrun (h O' d w' g1 g2 g3)
theorem cells_one (w : World) (v : Value) (t : TypeId) (g : Nat) (hg : g = w.heap.size) : Cells (w.alloc (.cells #[v] t)) (some ⟨g, 0, none⟩) [v] := fun i u hi => by
  subst hg
  match i, hi with
  | 0, hi =>
    simp at hi
    subst hi
    exact ⟨_, rfl, by simp [Addr.add, go_sem]⟩
/-- A row's block bears the type of its elements. -/
theorem own_off_type {w : World} {lo e size n c g : Nat} {A : Option Addr} {xs : List Value} {cs : Array Value} {t : TypeId} {fr : Nat × Nat} (h : w.ownsRow lo e size (.slice A n c) n xs) (hb : w.heap[g]? = some (.cells cs t fr)) (hne : e ≠ t) : (Value.slice A n c).ownBlock ≠ some g := by
  rcases h.2 with ⟨hv, _⟩ | ⟨g1, cap, cur, hv, _, hh, _⟩
  · rw [hv]; simp [Value.ownBlock]
  · rw [hv]
    intro he
    obtain rfl : g1 = g := by simpa [Value.ownBlock] using he
    rw [hh] at hb
    injection hb with hb
    injection hb with _ ht
    exact hne ht
theorem own_app {w w1 : World} {lo e size n c : Nat} {A : Option Addr} {xs : List Value} (h : w.ownsRow lo e size (.slice A n c) n xs) (hb : Below w.heap.size w w1) : w1.ownsRow lo e size (.slice A n c) n xs := own_keep h hb
def zeroF : Flr := ⟨0, 0, 0, [], []⟩
theorem ToFB.none_ {w w' : World} {f : Flr} {ok : Bool} (hf : f = zeroF) (ho : ok = false) (hb : Below w.heap.size w w') : ToFB w f ok (.returned (.tuple #[.agg #[.int .i64 0, .int .i64 0, .int .i64 0, .slice none 0 0, .slice none 0 0], .bool false])) w' := by
  subst hf ho
  exact ⟨none, 0, none, 0, rfl, ow_nil, ow_nil, hb⟩
def nfB (t s : Int) : Bool := vldF ⟨t, s, 0, [], []⟩
def nfF (t s : Int) : Flr := if nfB t s then ⟨t, s, 0, [], []⟩ else zeroF
set_option maxHeartbeats 1000000 in
theorem NewFloor_any (t s : Int) (w : World) : Calls Try.prog 40 #[.int .i64 t, .int .i64 s] w (ToFB w (nfF t s) (nfB t s)) := by
  rcases Bool.eq_false_or_eq_true (vldF ⟨t, s, 0, [], []⟩) with hv | hv
  · have HK := Lib.hid (show nfB t s = true from hv)
    have HF := Lib.hid (show nfF t s = ⟨t, s, 0, [], []⟩ by unfold nfF; rw [HK.out]; rfl)
    go_enter Try.func40, Try.ntmps40
    go_wp2_with fail
    refine (IsValidFloor_any none none 0 0 ⟨t, s, 0, [], []⟩ _ Cells.nil_ (by simp) (by simp) Cells.nil_ (by simp)).mono ?_
    rintro e w1 ⟨rfl, hb⟩
    rw [hv]
    obtain ⟨hc, hfz⟩ := bcell hb
    have hB := Lib.hid (after (w := w) (by go_grown) hb)
    have hz : w.heap.size + 1 < w1.heap.size := by have := hb.size; simp at this; omega
    have hz0 : w.heap.size < w1.heap.size := by omega
    have h0 := fun o => hc w.heap.size o (by simp; omega)
    have h1 := fun o => hc (w.heap.size + 1) o (by simp)
    have f0 := fun o => hfz w.heap.size o (by simp; omega)
    clear hc hfz hb hv
    go_wp2
    refine bodyPost_ret (v := .tuple #[.agg #[.int .i64 t, .int .i64 s, .int .i64 0, .slice none 0 0, .slice none 0 0], .bool true]) (by simp [results, Try.results40, go_sem, h0]) rfl ?_
    rw [HF.out, HK.out]
    refine ⟨none, 0, none, 0, rfl, ow_nil, ow_nil, ?_⟩
    have := hB.out
    go_grown
  · have HK := Lib.hid (show nfB t s = false from hv)
    have HF := Lib.hid (show nfF t s = zeroF by unfold nfF; rw [HK.out]; rfl)
    go_enter Try.func40, Try.ntmps40
    go_wp2_with fail
    refine (IsValidFloor_any none none 0 0 ⟨t, s, 0, [], []⟩ _ Cells.nil_ (by simp) (by simp) Cells.nil_ (by simp)).mono ?_
    rintro e w1 ⟨rfl, hb⟩
    rw [hv]
    obtain ⟨hc, hfz⟩ := bcell hb
    have hB := Lib.hid (after (w := w) (by go_grown) hb)
    have hz : w.heap.size + 1 < w1.heap.size := by have := hb.size; simp at this; omega
    have hz0 : w.heap.size < w1.heap.size := by omega
    have h0 := fun o => hc w.heap.size o (by simp; omega)
    have h1 := fun o => hc (w.heap.size + 1) o (by simp)
    have f0 := fun o => hfz w.heap.size o (by simp; omega)
    clear hc hfz hb hv
    go_wp2
    refine bodyPost_ret (v := .tuple #[.agg #[.int .i64 0, .int .i64 0, .int .i64 0, .slice none 0 0, .slice none 0 0], .bool false]) (by simp [results, Try.results40, go_sem, h0]) rfl (ToFB.none_ HF.out HK.out ?_)
    have := hB.out
    go_grown
set_option maxHeartbeats 1000000 in
theorem sNewFloor_any (t s : Int) (w : World) : Calls Try.prog 41 #[.int .i64 t, .int .i64 s] w (ToFB w (nfF t s) (nfB t s)) := by
  rcases Bool.eq_false_or_eq_true (vldF ⟨t, s, 0, [], []⟩) with hv | hv
  · have HK := Lib.hid (show nfB t s = true from hv)
    have HF := Lib.hid (show nfF t s = ⟨t, s, 0, [], []⟩ by unfold nfF; rw [HK.out]; rfl)
    go_enter Try.func41, Try.ntmps41
    go_wp2_with fail
    refine (l8Good_any none none 0 0 ⟨t, s, 0, [], []⟩ _ Cells.nil_ (by simp) (by simp) Cells.nil_ (by simp)).mono ?_
    rintro e w1 ⟨rfl, hb⟩
    rw [hv]
    obtain ⟨hc, hfz⟩ := bcell hb
    have hB := Lib.hid (after (w := w) (by go_grown) hb)
    have hz : w.heap.size + 1 < w1.heap.size := by have := hb.size; simp at this; omega
    have hz0 : w.heap.size < w1.heap.size := by omega
    have h0 := fun o => hc w.heap.size o (by simp; omega)
    have h1 := fun o => hc (w.heap.size + 1) o (by simp)
    have f0 := fun o => hfz w.heap.size o (by simp; omega)
    clear hc hfz hb hv
    go_wp2
    refine bodyPost_ret (v := .tuple #[.agg #[.int .i64 t, .int .i64 s, .int .i64 0, .slice none 0 0, .slice none 0 0], .bool true]) (by simp [results, Try.results41, go_sem, h0]) rfl ?_
    rw [HF.out, HK.out]
    refine ⟨none, 0, none, 0, rfl, ow_nil, ow_nil, ?_⟩
    have := hB.out
    go_grown
  · have HK := Lib.hid (show nfB t s = false from hv)
    have HF := Lib.hid (show nfF t s = zeroF by unfold nfF; rw [HK.out]; rfl)
    go_enter Try.func41, Try.ntmps41
    go_wp2_with fail
    refine (l8Good_any none none 0 0 ⟨t, s, 0, [], []⟩ _ Cells.nil_ (by simp) (by simp) Cells.nil_ (by simp)).mono ?_
    rintro e w1 ⟨rfl, hb⟩
    rw [hv]
    obtain ⟨hc, hfz⟩ := bcell hb
    have hB := Lib.hid (after (w := w) (by go_grown) hb)
    have hz : w.heap.size + 1 < w1.heap.size := by have := hb.size; simp at this; omega
    have hz0 : w.heap.size < w1.heap.size := by omega
    have h0 := fun o => hc w.heap.size o (by simp; omega)
    have h1 := fun o => hc (w.heap.size + 1) o (by simp)
    have f0 := fun o => hfz w.heap.size o (by simp; omega)
    clear hc hfz hb hv
    go_wp2
    refine bodyPost_ret (v := .tuple #[.agg #[.int .i64 0, .int .i64 0, .int .i64 0, .slice none 0 0, .slice none 0 0], .bool false]) (by simp [results, Try.results41, go_sem, h0]) rfl (ToFB.none_ HF.out HK.out ?_)
    have := hB.out
    go_grown
end Go.Proofs.Ytbpikbcnpmplfaa
