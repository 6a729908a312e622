-- Printed by a program of this workplace (a turned printer): functions, and proofs that the calls come to them.
import Derived.Test.YtekkkohncfmmfaaDoorPAx0
import Derived.Test.YtekkkohncfmmfaaDoorPAx1
import Derived.Test.YtekkkohncfmmfaaDoorPAx2
import Derived.Test.YtekkkohncfmmfaaDoorPAx3
namespace Go.Proofs.YtekkkohncfmmfaaDoor.PA
open Go.RowKit Go.Proofs.YtekkkohncfmmfaaDoorW.PrintWords Go.Proofs.YtekkkohncfmmfaaDoorW.PrintLast Go.Proofs.YtekkkohncfmmfaaDoorW.PrintMore
attribute [local go_sem] max2_int min2_int max_two min_two max_three min_three max_four min_four   -- for this text's walks alone
set_option linter.unusedVariables false
set_option linter.unusedSimpArgs false

end Go.Proofs.YtekkkohncfmmfaaDoor.PA
