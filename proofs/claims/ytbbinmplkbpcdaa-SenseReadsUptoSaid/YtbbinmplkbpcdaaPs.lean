-- PRINTED by print.py (a twelfth state) out of the translation. Not trusted: Lean checks it.
import Derived.Test.YtbbinmplkbpcdaaPs0
import Derived.Test.YtbbinmplkbpcdaaPs1
import Derived.Test.YtbbinmplkbpcdaaPs2
import Derived.Test.YtbbinmplkbpcdaaPs3
import Derived.Test.YtbbinmplkbpcdaaPs4
import Derived.Test.YtbbinmplkbpcdaaPs5
namespace Go.Proofs.Ytbbinmplkbpcdaa.Ps
open Go.RowKit Go.Proofs.YtbbinmplkbpcdaaW.PrintWords Go.Proofs.YtbbinmplkbpcdaaW.PrintLast Go.Proofs.YtbbinmplkbpcdaaW.PrintMore
attribute [local go_sem] max2_int min2_int max_two min_two max_three min_three max_four min_four   -- for this text's walks alone
set_option linter.unusedVariables false
set_option linter.unusedSimpArgs false

end Go.Proofs.Ytbbinmplkbpcdaa.Ps
