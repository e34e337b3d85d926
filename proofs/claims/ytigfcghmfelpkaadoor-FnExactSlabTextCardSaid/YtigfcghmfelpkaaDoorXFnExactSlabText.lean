-- Written by xp.py of this workplace out of Lean's own print of the translation. Not trusted: Lean checks it.
import Derived.Test.YtigfcghmfelpkaaDoorXFnExactSlabText0
import Derived.Test.YtigfcghmfelpkaaDoorXFnExactSlabText1
import Derived.Test.YtigfcghmfelpkaaDoorXFnExactSlabText2
import Derived.Test.YtigfcghmfelpkaaDoorXFnExactSlabText3
import Derived.Test.YtigfcghmfelpkaaDoorXFnExactSlabText4
namespace Go.Proofs.YtigfcghmfelpkaaDoor.XFnExactSlabText
open Go.RowKit Go.Proofs.YtigfcghmfelpkaaDoorW.PrintWords Go.Proofs.YtigfcghmfelpkaaDoorW.PrintLast Go.Proofs.YtigfcghmfelpkaaDoorW.PrintMore
attribute [local go_sem] max2_int min2_int max_two min_two max_three min_three max_four min_four   -- for this text's walks alone
set_option linter.unusedVariables false
set_option linter.unusedSimpArgs false

end Go.Proofs.YtigfcghmfelpkaaDoor.XFnExactSlabText
