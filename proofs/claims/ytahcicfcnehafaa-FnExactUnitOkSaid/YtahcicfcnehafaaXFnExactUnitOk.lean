-- Written by xp.py of this workplace out of Lean's own print of the translation. Not trusted: Lean checks it.
import Derived.Test.YtahcicfcnehafaaXFnExactUnitOk0
import Derived.Test.YtahcicfcnehafaaXFnExactUnitOk1
import Derived.Test.YtahcicfcnehafaaXFnExactUnitOk2
import Derived.Test.YtahcicfcnehafaaXFnExactUnitOk3
import Derived.Test.YtahcicfcnehafaaXFnExactUnitOk4
import Derived.Test.YtahcicfcnehafaaXFnExactUnitOk5
import Derived.Test.YtahcicfcnehafaaXFnExactUnitOk6
import Derived.Test.YtahcicfcnehafaaXFnExactUnitOk7
import Derived.Test.YtahcicfcnehafaaXFnExactUnitOk8
import Derived.Test.YtahcicfcnehafaaXFnExactUnitOk9
namespace Go.Proofs.Ytahcicfcnehafaa.XFnExactUnitOk
open Go.RowKit Go.Proofs.YtahcicfcnehafaaW.PrintWords Go.Proofs.YtahcicfcnehafaaW.PrintLast Go.Proofs.YtahcicfcnehafaaW.PrintMore
attribute [local go_sem] max2_int min2_int max_two min_two max_three min_three max_four min_four   -- for this text's walks alone
set_option linter.unusedVariables false
set_option linter.unusedSimpArgs false

end Go.Proofs.Ytahcicfcnehafaa.XFnExactUnitOk
