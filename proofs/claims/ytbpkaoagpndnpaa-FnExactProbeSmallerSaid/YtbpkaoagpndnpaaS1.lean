/- Bounds and spans: the walks of the program's and of the reference's. -/
import Derived.Test.YtbpkaoagpndnpaaX2
import Derived.Test.YtbpkaoagpndnpaaG
import Derived.Test.YtbpkaoagpndnpaaM2
set_option linter.unusedVariables false
set_option linter.unusedSimpArgs false
namespace Go.Proofs.Ytbpkaoagpndnpaa
open Go.RowKit
attribute [local go_sem] w_lt_add w_le_of w_le_add max2_i min2_i
end Go.Proofs.Ytbpkaoagpndnpaa
