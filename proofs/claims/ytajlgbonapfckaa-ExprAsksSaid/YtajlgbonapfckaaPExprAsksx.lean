-- LAID BY gprint.py: a scratch copy of the print, with functions that this session proved by hand among the printed ones
import Derived.Test.YtajlgbonapfckaaPExprAsksx0
import Derived.Test.YtajlgbonapfckaaPExprAsksx1
import Derived.Test.YtajlgbonapfckaaPExprAsksx2
import Derived.Test.YtajlgbonapfckaaPExprAsksx3
import Derived.Test.YtajlgbonapfckaaPExprAsksx4
import Derived.Test.YtajlgbonapfckaaPExprAsksx5
import Derived.Test.YtajlgbonapfckaaPExprAsksx6
import Derived.Test.YtajlgbonapfckaaPExprAsksx7
import Derived.Test.YtajlgbonapfckaaPExprAsksx8
import Derived.Test.YtajlgbonapfckaaPExprAsksx9
namespace Go.Proofs.Ytajlgbonapfckaa.PExprAsks
open Go.RowKit Go.Proofs.YtajlgbonapfckaaW.PrintWords Go.Proofs.YtajlgbonapfckaaW.PrintLast Go.Proofs.Ytajlgbonapfckaa.Conv Go.Proofs.YtajlgbonapfckaaW.PrintMore
attribute [local go_sem] max2_int min2_int max_two min_two max_three min_three max_four min_four gtr_less   -- for this text's walks alone
set_option linter.unusedVariables false
set_option linter.unusedSimpArgs false

end Go.Proofs.Ytajlgbonapfckaa.PExprAsks
