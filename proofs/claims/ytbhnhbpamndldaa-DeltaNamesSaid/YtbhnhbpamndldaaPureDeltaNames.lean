/- The examples of delta; values that are too long; bytes that are no delta. No condition: the pure statement behind the walk. -/
import Derived.Test.YtbhnhbpamndldaaPDeltaNamesx1
import Derived.Test.YtbhnhbpamndldaaDelta4
namespace Go.Proofs.Ytbhnhbpamndldaa.Pure
open Go.RowKit Go.Proofs.Ytbhnhbpamndldaa.Delta Go.Proofs.Ytbhnhbpamndldaa.PDeltaNames Go.Proofs.YtbhnhbpamndldaaW.PrintWords Go.Proofs.YtbhnhbpamndldaaW.PrintLast
set_option linter.unusedVariables false

theorem DeltaNames : ferrymanlaw07_DeltaNames.Pure := ⟨60, by decide +kernel⟩
end Go.Proofs.Ytbhnhbpamndldaa.Pure
