/- A struct in a new block of the call's own. No program is named here. Conditions: none. -/
import Derived.Test.YtnnphhhjkhoglaaGreatDoorSetc
namespace Go.Proofs.YtnnphhhjkhoglaaGreatDoor
open Go.RowKit
set_option linter.unusedVariables false
theorem BoxF.new1 (w : World) (v0 : Value) (t : TypeId) (g : Nat) (hg : g = w.heap.size) : BoxF (w.alloc (.cells #[v0] t)) g [v0] := BoxF.new' w #[v0] t g hg
theorem cut_new1 (w : World) (v0 : Value) (t : TypeId) : BoxL (w.alloc (.cells #[v0] t)).heap.size (w.alloc (.cells #[v0] t)) w.heap.size [v0] := cut_new w #[v0] t
theorem BoxF.new2 (w : World) (v0 v1 : Value) (t : TypeId) (g : Nat) (hg : g = w.heap.size) : BoxF (w.alloc (.cells #[v0, v1] t)) g [v0, v1] := BoxF.new' w #[v0, v1] t g hg
theorem cut_new2 (w : World) (v0 v1 : Value) (t : TypeId) : BoxL (w.alloc (.cells #[v0, v1] t)).heap.size (w.alloc (.cells #[v0, v1] t)) w.heap.size [v0, v1] := cut_new w #[v0, v1] t
theorem BoxF.new3 (w : World) (v0 v1 v2 : Value) (t : TypeId) (g : Nat) (hg : g = w.heap.size) : BoxF (w.alloc (.cells #[v0, v1, v2] t)) g [v0, v1, v2] := BoxF.new' w #[v0, v1, v2] t g hg
theorem cut_new3 (w : World) (v0 v1 v2 : Value) (t : TypeId) : BoxL (w.alloc (.cells #[v0, v1, v2] t)).heap.size (w.alloc (.cells #[v0, v1, v2] t)) w.heap.size [v0, v1, v2] := cut_new w #[v0, v1, v2] t
theorem BoxF.new4 (w : World) (v0 v1 v2 v3 : Value) (t : TypeId) (g : Nat) (hg : g = w.heap.size) : BoxF (w.alloc (.cells #[v0, v1, v2, v3] t)) g [v0, v1, v2, v3] := BoxF.new' w #[v0, v1, v2, v3] t g hg
theorem cut_new4 (w : World) (v0 v1 v2 v3 : Value) (t : TypeId) : BoxL (w.alloc (.cells #[v0, v1, v2, v3] t)).heap.size (w.alloc (.cells #[v0, v1, v2, v3] t)) w.heap.size [v0, v1, v2, v3] := cut_new w #[v0, v1, v2, v3] t
theorem BoxF.new5 (w : World) (v0 v1 v2 v3 v4 : Value) (t : TypeId) (g : Nat) (hg : g = w.heap.size) : BoxF (w.alloc (.cells #[v0, v1, v2, v3, v4] t)) g [v0, v1, v2, v3, v4] := BoxF.new' w #[v0, v1, v2, v3, v4] t g hg
theorem cut_new5 (w : World) (v0 v1 v2 v3 v4 : Value) (t : TypeId) : BoxL (w.alloc (.cells #[v0, v1, v2, v3, v4] t)).heap.size (w.alloc (.cells #[v0, v1, v2, v3, v4] t)) w.heap.size [v0, v1, v2, v3, v4] := cut_new w #[v0, v1, v2, v3, v4] t
theorem BoxF.new6 (w : World) (v0 v1 v2 v3 v4 v5 : Value) (t : TypeId) (g : Nat) (hg : g = w.heap.size) : BoxF (w.alloc (.cells #[v0, v1, v2, v3, v4, v5] t)) g [v0, v1, v2, v3, v4, v5] := BoxF.new' w #[v0, v1, v2, v3, v4, v5] t g hg
theorem cut_new6 (w : World) (v0 v1 v2 v3 v4 v5 : Value) (t : TypeId) : BoxL (w.alloc (.cells #[v0, v1, v2, v3, v4, v5] t)).heap.size (w.alloc (.cells #[v0, v1, v2, v3, v4, v5] t)) w.heap.size [v0, v1, v2, v3, v4, v5] := cut_new w #[v0, v1, v2, v3, v4, v5] t
theorem BoxF.new7 (w : World) (v0 v1 v2 v3 v4 v5 v6 : Value) (t : TypeId) (g : Nat) (hg : g = w.heap.size) : BoxF (w.alloc (.cells #[v0, v1, v2, v3, v4, v5, v6] t)) g [v0, v1, v2, v3, v4, v5, v6] := BoxF.new' w #[v0, v1, v2, v3, v4, v5, v6] t g hg
theorem cut_new7 (w : World) (v0 v1 v2 v3 v4 v5 v6 : Value) (t : TypeId) : BoxL (w.alloc (.cells #[v0, v1, v2, v3, v4, v5, v6] t)).heap.size (w.alloc (.cells #[v0, v1, v2, v3, v4, v5, v6] t)) w.heap.size [v0, v1, v2, v3, v4, v5, v6] := cut_new w #[v0, v1, v2, v3, v4, v5, v6] t
end Go.Proofs.YtnnphhhjkhoglaaGreatDoor
