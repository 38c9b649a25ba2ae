/- The examples; places that are none; lists that are too short. Of every input, no condition: the pure statement behind the printed walk. -/
import Derived.Test.YtbhnhbpamndldaaPBitsNamesx1
import Derived.Test.YtbhnhbpamndldaaBitsMath
namespace Go.Proofs.Ytbhnhbpamndldaa.Pure
open Go.RowKit Go.Proofs.Ytbhnhbpamndldaa.Bits Go.Proofs.Ytbhnhbpamndldaa.PBitsNames Go.Proofs.YtbhnhbpamndldaaW.PrintWords Go.Proofs.YtbhnhbpamndldaaW.PrintLast
set_option linter.unusedVariables false
set_option linter.unusedSimpArgs false

theorem BitsNames : ferrymanlaw01_BitsNames.Pure := ⟨40, by decide +kernel⟩

end Go.Proofs.Ytbhnhbpamndldaa.Pure
