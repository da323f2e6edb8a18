-- LAID BY gprint.py: a scratch copy of the print, with functions that this session proved by hand among the printed ones
import Derived.Test.YtajlgbonapfckaaPExprNobodyx0
import Derived.Test.YtajlgbonapfckaaPExprNobodyx1
import Derived.Test.YtajlgbonapfckaaPExprNobodyx2
import Derived.Test.YtajlgbonapfckaaPExprNobodyx3
import Derived.Test.YtajlgbonapfckaaPExprNobodyx4
namespace Go.Proofs.Ytajlgbonapfckaa.PExprNobody
open Go.RowKit Go.Proofs.YtajlgbonapfckaaW.PrintWords Go.Proofs.YtajlgbonapfckaaW.PrintLast Go.Proofs.Ytajlgbonapfckaa.Conv Go.Proofs.YtajlgbonapfckaaW.PrintMore
attribute [local go_sem] max2_int min2_int max_two min_two max_three min_three max_four min_four gtr_less   -- for this text's walks alone
set_option linter.unusedVariables false
set_option linter.unusedSimpArgs false

end Go.Proofs.Ytajlgbonapfckaa.PExprNobody
