-- Written by xp.py of this workplace out of Lean's own print of the translation. Not trusted: Lean checks it.
import Derived.Test.YtjlkkappngnbjaaDoorXFnTokens0
import Derived.Test.YtjlkkappngnbjaaDoorXFnTokens1
import Derived.Test.YtjlkkappngnbjaaDoorXFnTokens2
import Derived.Test.YtjlkkappngnbjaaDoorXFnTokens3
import Derived.Test.YtjlkkappngnbjaaDoorXFnTokens4
import Derived.Test.YtjlkkappngnbjaaDoorXFnTokens5
import Derived.Test.YtjlkkappngnbjaaDoorXFnTokens6
import Derived.Test.YtjlkkappngnbjaaDoorXFnTokens7
import Derived.Test.YtjlkkappngnbjaaDoorXFnTokens8
import Derived.Test.YtjlkkappngnbjaaDoorXFnTokens9
namespace Go.Proofs.YtjlkkappngnbjaaDoor.XFnTokens
open Go.RowKit Go.Proofs.YtjlkkappngnbjaaDoorW.PrintWords Go.Proofs.YtjlkkappngnbjaaDoorW.PrintLast Go.Proofs.YtjlkkappngnbjaaDoorW.PrintMore
attribute [local go_sem] max2_int min2_int max_two min_two max_three min_three max_four min_four   -- for this text's walks alone
set_option linter.unusedVariables false
set_option linter.unusedSimpArgs false

end Go.Proofs.YtjlkkappngnbjaaDoor.XFnTokens
