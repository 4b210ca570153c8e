/- The contracts of the exported functions, in the words of objects. Conditions: the ranges named. -/
import Derived.Test.YtgchbimjgdoifaaConf
namespace Go.Proofs.Ytgchbimjgdoifaa
open Go.RowKit
set_option linter.unusedVariables false
section
variable {B B' : Nat} {w : World} {T A : Option Addr} {t c : Nat} {ss : List ByteArray} {a : Amd}
theorem FitsText_abs (h : RdS B w T t ss) (h' : RdS B' w A c a.ws) : Calls Try.prog 31 #[.slice T ss.length t, .agg #[.int .i64 a.k, .int .i64 a.p, .int .i64 a.n, .slice A a.ws.length c]] w fun e w' => e = .returned (.tuple #[.bool (canB ss a), .bool (wordsB ss 0 20 && vldA a)]) ∧ Below w.heap.size w w' :=
  FitsText_any T A t c ss a w h.cells h.1 h.2.2 h'.cells h'.2.2
theorem sFitsText_abs (h : RdS B w T t ss) (h' : RdS B' w A c a.ws) : Calls Try.prog 32 #[.slice T ss.length t, .agg #[.int .i64 a.k, .int .i64 a.p, .int .i64 a.n, .slice A a.ws.length c]] w fun e w' => e = .returned (.tuple #[.bool (canB ss a), .bool (wordsB ss 0 20 && vldA a)]) ∧ Below w.heap.size w w' :=
  sFitsText_any T A t c ss a w h.cells h.1 h.2.2 h'.cells h'.2.2
end
end Go.Proofs.Ytgchbimjgdoifaa
