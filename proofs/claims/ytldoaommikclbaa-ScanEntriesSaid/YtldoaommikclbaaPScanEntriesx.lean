-- LAID BY gprint.py: a scratch copy of the print, with functions that this session proved by hand among the printed ones
import Derived.Test.YtldoaommikclbaaPScanEntriesx0
import Derived.Test.YtldoaommikclbaaPScanEntriesx1
import Derived.Test.YtldoaommikclbaaPScanEntriesx2
import Derived.Test.YtldoaommikclbaaPScanEntriesx3
import Derived.Test.YtldoaommikclbaaPScanEntriesx4
import Derived.Test.YtldoaommikclbaaPScanEntriesx5
import Derived.Test.YtldoaommikclbaaPScanEntriesx6
import Derived.Test.YtldoaommikclbaaPScanEntriesx7
import Derived.Test.YtldoaommikclbaaPScanEntriesx8
import Derived.Test.YtldoaommikclbaaPScanEntriesx9
import Derived.Test.YtldoaommikclbaaPScanEntriesx10
import Derived.Test.YtldoaommikclbaaPScanEntriesx11
import Derived.Test.YtldoaommikclbaaPScanEntriesx12
import Derived.Test.YtldoaommikclbaaPScanEntriesx13
import Derived.Test.YtldoaommikclbaaPScanEntriesx14
namespace Go.Proofs.Ytldoaommikclbaa.PScanEntries
open Go.RowKit Go.Proofs.YtldoaommikclbaaW.PrintWords Go.Proofs.YtldoaommikclbaaW.PrintLast Go.Proofs.Ytldoaommikclbaa.Conv Go.Proofs.YtldoaommikclbaaW.PrintMore
attribute [local go_sem] max2_int min2_int max_two min_two max_three min_three max_four min_four gtr_less   -- for this text's walks alone
set_option linter.unusedVariables false
set_option linter.unusedSimpArgs false

end Go.Proofs.Ytldoaommikclbaa.PScanEntries
