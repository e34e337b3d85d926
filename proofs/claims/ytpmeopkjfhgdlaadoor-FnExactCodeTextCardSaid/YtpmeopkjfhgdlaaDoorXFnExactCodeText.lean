-- Written by xp.py of this workplace out of Lean's own print of the translation. Not trusted: Lean checks it.
import Derived.Test.YtpmeopkjfhgdlaaDoorXFnExactCodeText0
import Derived.Test.YtpmeopkjfhgdlaaDoorXFnExactCodeText1
import Derived.Test.YtpmeopkjfhgdlaaDoorXFnExactCodeText2
import Derived.Test.YtpmeopkjfhgdlaaDoorXFnExactCodeText3
import Derived.Test.YtpmeopkjfhgdlaaDoorXFnExactCodeText4
import Derived.Test.YtpmeopkjfhgdlaaDoorXFnExactCodeText5
import Derived.Test.YtpmeopkjfhgdlaaDoorXFnExactCodeText6
namespace Go.Proofs.YtpmeopkjfhgdlaaDoor.XFnExactCodeText
open Go.RowKit Go.Proofs.YtpmeopkjfhgdlaaDoorW.PrintWords Go.Proofs.YtpmeopkjfhgdlaaDoorW.PrintLast Go.Proofs.YtpmeopkjfhgdlaaDoorW.PrintMore
attribute [local go_sem] max2_int min2_int max_two min_two max_three min_three max_four min_four   -- for this text's walks alone
set_option linter.unusedVariables false
set_option linter.unusedSimpArgs false

end Go.Proofs.YtpmeopkjfhgdlaaDoor.XFnExactCodeText
