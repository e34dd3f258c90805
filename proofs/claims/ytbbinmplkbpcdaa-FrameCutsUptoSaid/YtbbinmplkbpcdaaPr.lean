-- PRINTED by print.py (a twelfth state) out of the translation. Not trusted: Lean checks it.
import Derived.Test.YtbbinmplkbpcdaaPr0
import Derived.Test.YtbbinmplkbpcdaaPr1
import Derived.Test.YtbbinmplkbpcdaaPr2
import Derived.Test.YtbbinmplkbpcdaaPr3
import Derived.Test.YtbbinmplkbpcdaaPr4
import Derived.Test.YtbbinmplkbpcdaaPr5
import Derived.Test.YtbbinmplkbpcdaaPr6
import Derived.Test.YtbbinmplkbpcdaaPr7
import Derived.Test.YtbbinmplkbpcdaaPr8
import Derived.Test.YtbbinmplkbpcdaaPr9
import Derived.Test.YtbbinmplkbpcdaaPr10
namespace Go.Proofs.Ytbbinmplkbpcdaa.Pr
open Go.RowKit Go.Proofs.YtbbinmplkbpcdaaW.PrintWords Go.Proofs.YtbbinmplkbpcdaaW.PrintLast Go.Proofs.YtbbinmplkbpcdaaW.PrintMore
attribute [local go_sem] max2_int min2_int max_two min_two max_three min_three max_four min_four   -- for this text's walks alone
set_option linter.unusedVariables false
set_option linter.unusedSimpArgs false

end Go.Proofs.Ytbbinmplkbpcdaa.Pr
