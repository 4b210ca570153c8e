/- The laws' marks once more, with the number that the walk has; small words on objects. Conditions: the ranges named. -/
import Derived.Test.YtnnphhhjkhoglaaGreatDoorAmd2
import Derived.Test.YtnnphhhjkhoglaaGreatDoorSetc2
namespace Go.Proofs.YtnnphhhjkhoglaaGreatDoor
open Go.RowKit
set_option linter.unusedVariables false
theorem callO {B : Nat} {W0 W w1 : World} (hS : Below B W0 W ∧ (∀ b o, b < B → W.cell? ⟨b, o, none⟩ = W0.cell? ⟨b, o, none⟩)) (hB : B ≤ W0.heap.size) (hb : Below W.heap.size W w1) : B ≤ W.heap.size := Nat.le_trans hB hS.1.size
section
variable {B B' lo hi lo' : Nat} {w : World} {A A' : Option Addr} {c c' : Nat} {ss : List ByteArray} {a : Amd}
theorem OwS.low (h : OwS lo hi w A c ss) (hl : lo' ≤ lo) : OwS lo' hi w A c ss := ⟨own_mono h.1 hl, h.2⟩
theorem RdS.step {w' : World} (h : RdS w.heap.size w A c ss) (hb : Below w.heap.size w w') : RdS w'.heap.size w' A c ss := ⟨h.1, fun i u hi => by obtain ⟨ad, h1, h2, h3⟩ := h.2.1.below hb (Nat.le_refl _) i u hi; exact ⟨ad, h1, Nat.lt_of_lt_of_le h2 hb.size, h3⟩, h.2.2⟩
theorem OwS.fin_new {L : Nat} (o : OwS lo w.heap.size w A c ss) (hl : L ≤ lo) (x : Obj) : OwS L (w.alloc x).heap.size (w.alloc x) A c ss := ⟨own_fin_new o.1 hl x, o.2.1.mono (by simp), o.2.2⟩
theorem OwS.fin_old3 {L b : Nat} (o : OwS lo w.heap.size w A c ss) (hl : L ≤ lo) (hb : b < lo) (v0 v1 v2 : Value) : OwS L (((w.setCell ⟨b, 0, none⟩ v0).setCell ⟨b, 1, none⟩ v1).setCell ⟨b, 2, none⟩ v2).heap.size (((w.setCell ⟨b, 0, none⟩ v0).setCell ⟨b, 1, none⟩ v1).setCell ⟨b, 2, none⟩ v2) A c ss := ⟨own_fin_old3 o.1 hl hb v0 v1 v2, o.2.1.mono (by simp), o.2.2⟩
theorem OwS.fin_old4 {L b : Nat} (o : OwS lo w.heap.size w A c ss) (hl : L ≤ lo) (hb : b < lo) (v0 v1 v2 v3 : Value) : OwS L ((((w.setCell ⟨b, 0, none⟩ v0).setCell ⟨b, 1, none⟩ v1).setCell ⟨b, 2, none⟩ v2).setCell ⟨b, 3, none⟩ v3).heap.size ((((w.setCell ⟨b, 0, none⟩ v0).setCell ⟨b, 1, none⟩ v1).setCell ⟨b, 2, none⟩ v2).setCell ⟨b, 3, none⟩ v3) A c ss := ⟨own_fin_old4 o.1 hl hb v0 v1 v2 v3, o.2.1.mono (by simp), o.2.2⟩
theorem OwS.fin_old5 {L b : Nat} (o : OwS lo w.heap.size w A c ss) (hl : L ≤ lo) (hb : b < lo) (v0 v1 v2 v3 v4 : Value) : OwS L (((((w.setCell ⟨b, 0, none⟩ v0).setCell ⟨b, 1, none⟩ v1).setCell ⟨b, 2, none⟩ v2).setCell ⟨b, 3, none⟩ v3).setCell ⟨b, 4, none⟩ v4).heap.size (((((w.setCell ⟨b, 0, none⟩ v0).setCell ⟨b, 1, none⟩ v1).setCell ⟨b, 2, none⟩ v2).setCell ⟨b, 3, none⟩ v3).setCell ⟨b, 4, none⟩ v4) A c ss := ⟨own_fin_old5 o.1 hl hb v0 v1 v2 v3 v4, o.2.1.mono (by simp), o.2.2⟩
end
end Go.Proofs.YtnnphhhjkhoglaaGreatDoor
