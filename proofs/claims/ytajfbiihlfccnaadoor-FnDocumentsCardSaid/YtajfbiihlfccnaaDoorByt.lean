/- Slices of bytes as arguments. Conditions: none. -/
import Derived.Test.YtajfbiihlfccnaaDoorOpn
import Derived.Test.YtajfbiihlfccnaaDoorCu1
namespace Go.Proofs.YtajfbiihlfccnaaDoor
open Go.ChangeShapes Go.WideShapes Go.ChangeAt Go.RowKit Go.Joins
set_option linter.unusedVariables false
def ByteK : Kd Int := ⟨1, fun x => [.int .u8 x], fun _ => rfl, fun x => 0 ≤ x ∧ x ≤ 255⟩
theorem bytesC_of {w : World} {A : Option Addr} {xs : List Int} (h : Cells w A (ByteK.row xs)) (hf : ∀ x ∈ xs, ByteK.fit x) : BytesC w A xs.length := fun i hi => by
  obtain ⟨ad, hA, hc⟩ := Rd.at_ h hi (by decide)
  have h0 := hc 0 _ rfl
  have h1 := hf _ (List.getElem_mem hi)
  exact ⟨ad, xs[i], hA, h1.1, h1.2, by simpa [ByteK] using h0⟩
section
variable {H : Type} {enc : TypeId × Value → H} {w : World} {base : Nat} {spare : Nat → Bool} {held : Bool}
theorem byte_dec {n : Nat} {cs : List Value} {y : DataW H × List MemPlace} (h : DataW.trod enc Tryd.prog w base spare held n 5 cs = some y) : ∃ x : Int, ByteK.enc x = cs ∧ ByteK.fit x := by
  obtain ⟨x, rfl, _, hw⟩ := DataW.trod_int Tryd.underlying5 h
  refine ⟨x, rfl, ?_⟩
  have h1 : IntKind.u8.min ≤ x ∧ x ≤ IntKind.u8.max := by simpa [Lit.wf] using hw
  exact h1
set_option maxRecDepth 100000 in
theorem codeIn {r : Reach} {b0 : Nat} {v : Value} {d : DataW H} {p : List MemPlace} (hv : Value.okWide Tryd.prog w r b0 28 v) (h : DataW.Trod enc Tryd.prog w base spare held 28 v d p) :
    ∃ (A : Option Addr) (c : Nat) (xs : List Int), v = .slice A xs.length c ∧ (xs.length ≤ c ∧ Cells w A (ByteK.row xs) ∧ xs.length ≤ maxLen ∧ ∀ x ∈ xs, ByteK.fit x) := by
  obtain ⟨A, c, xs, rfl, h1⟩ := slice_in ByteK Tryd.underlying28 (by kernel_rfl) (fun _ _ _ h => byte_dec h) hv h
  exact ⟨A, c, xs, rfl, h1⟩
end
end Go.Proofs.YtajfbiihlfccnaaDoor
