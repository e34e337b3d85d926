-- Written by xp.py of this workplace out of Lean's own print of the translation. Not trusted: Lean checks it.
import Derived.Test.YtpdgcpgdjdkpbaaDoorXFnExactTokens0
import Derived.Test.YtpdgcpgdjdkpbaaDoorXFnExactTokens1
import Derived.Test.YtpdgcpgdjdkpbaaDoorXFnExactTokens2
import Derived.Test.YtpdgcpgdjdkpbaaDoorXFnExactTokens3
import Derived.Test.YtpdgcpgdjdkpbaaDoorXFnExactTokens4
import Derived.Test.YtpdgcpgdjdkpbaaDoorXFnExactTokens5
import Derived.Test.YtpdgcpgdjdkpbaaDoorXFnExactTokens6
import Derived.Test.YtpdgcpgdjdkpbaaDoorXFnExactTokens7
import Derived.Test.YtpdgcpgdjdkpbaaDoorXFnExactTokens8
namespace Go.Proofs.YtpdgcpgdjdkpbaaDoor.XFnExactTokens
open Go.RowKit Go.Proofs.YtpdgcpgdjdkpbaaDoorW.PrintWords Go.Proofs.YtpdgcpgdjdkpbaaDoorW.PrintLast Go.Proofs.YtpdgcpgdjdkpbaaDoorW.PrintMore
attribute [local go_sem] max2_int min2_int max_two min_two max_three min_three max_four min_four   -- for this text's walks alone
set_option linter.unusedVariables false
set_option linter.unusedSimpArgs false

end Go.Proofs.YtpdgcpgdjdkpbaaDoor.XFnExactTokens
