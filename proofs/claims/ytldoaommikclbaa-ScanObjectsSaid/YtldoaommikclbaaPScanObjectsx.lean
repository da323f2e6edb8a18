-- LAID BY gprint.py: a scratch copy of the print, with functions that this session proved by hand among the printed ones
import Derived.Test.YtldoaommikclbaaPScanObjectsx0
import Derived.Test.YtldoaommikclbaaPScanObjectsx1
import Derived.Test.YtldoaommikclbaaPScanObjectsx2
import Derived.Test.YtldoaommikclbaaPScanObjectsx3
import Derived.Test.YtldoaommikclbaaPScanObjectsx4
import Derived.Test.YtldoaommikclbaaPScanObjectsx5
import Derived.Test.YtldoaommikclbaaPScanObjectsx6
import Derived.Test.YtldoaommikclbaaPScanObjectsx7
import Derived.Test.YtldoaommikclbaaPScanObjectsx8
import Derived.Test.YtldoaommikclbaaPScanObjectsx9
import Derived.Test.YtldoaommikclbaaPScanObjectsx10
namespace Go.Proofs.Ytldoaommikclbaa.PScanObjects
open Go.RowKit Go.Proofs.YtldoaommikclbaaW.PrintWords Go.Proofs.YtldoaommikclbaaW.PrintLast Go.Proofs.Ytldoaommikclbaa.Conv Go.Proofs.YtldoaommikclbaaW.PrintMore
attribute [local go_sem] max2_int min2_int max_two min_two max_three min_three max_four min_four gtr_less   -- for this text's walks alone
set_option linter.unusedVariables false
set_option linter.unusedSimpArgs false

end Go.Proofs.Ytldoaommikclbaa.PScanObjects
