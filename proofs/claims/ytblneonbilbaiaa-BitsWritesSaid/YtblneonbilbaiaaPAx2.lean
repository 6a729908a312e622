-- Printed by a program of this workplace (a turned printer): functions, and proofs that the calls come to them.
import Derived.Test.YtblneonbilbaiaaPAx0
namespace Go.Proofs.Ytblneonbilbaiaa.PA
open Go.RowKit Go.Proofs.YtblneonbilbaiaaW.PrintWords Go.Proofs.YtblneonbilbaiaaW.PrintLast Go.Proofs.YtblneonbilbaiaaW.PrintMore
attribute [local go_sem] max2_int min2_int max_two min_two max_three min_three max_four min_four   -- for this text's walks alone
set_option linter.unusedVariables false
set_option linter.unusedSimpArgs false

-- NOT PRINTED: function 28 (bits_Reader_Get)

-- NOT PRINTED: function 5 (rubricatorlaw1_BitsBack)

-- NOT PRINTED: function 6 (rubricatorlaw1_BitsCodes)

-- NOT PRINTED: function 35 (rubricatorref1_Reader_Left)

-- NOT PRINTED: function 30 (rubricatorref1_Reader_Get)

-- NOT PRINTED: function 31 (bits_Reader_Align)

-- NOT PRINTED: function 32 (rubricatorref1_Reader_Align)

-- NOT PRINTED: function 33 (bits_Reader_Raw)

-- NOT PRINTED: function 34 (rubricatorref1_Reader_Raw)

-- NOT PRINTED: function 7 (rubricatorlaw1_BitsReads)

-- NOT PRINTED: function 8 (rubricatorlaw1_BitsOfNothing)

-- NOT PRINTED: function 9 (rubricatorlaw1_BitsEdges)

end Go.Proofs.Ytblneonbilbaiaa.PA
