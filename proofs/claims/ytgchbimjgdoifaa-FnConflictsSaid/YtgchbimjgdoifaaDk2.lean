/- The laws' helpers on proposals. Conditions: the ranges named. -/
import Derived.Test.YtgchbimjgdoifaaDk1
import Derived.Deep.Cut
import Derived.Deep.DeepCutAuto
namespace Go.Proofs.Ytgchbimjgdoifaa
open Go.RowKit
set_option linter.unusedVariables false
set_option linter.unusedSimpArgs false
end Go.Proofs.Ytgchbimjgdoifaa
