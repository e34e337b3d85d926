-- Written by xp.py of this workplace out of Lean's own print of the translation. Not trusted: Lean checks it.
import Derived.Test.YtpjfnjnidmlhcaaXFnExactDeep0
import Derived.Test.YtpjfnjnidmlhcaaXFnExactDeep1
import Derived.Test.YtpjfnjnidmlhcaaXFnExactDeep2
import Derived.Test.YtpjfnjnidmlhcaaXFnExactDeep3
namespace Go.Proofs.Ytpjfnjnidmlhcaa.XFnExactDeep
open Go.RowKit Go.Proofs.YtpjfnjnidmlhcaaW.PrintWords Go.Proofs.YtpjfnjnidmlhcaaW.PrintLast Go.Proofs.YtpjfnjnidmlhcaaW.PrintMore
attribute [local go_sem] max2_int min2_int max_two min_two max_three min_three max_four min_four   -- for this text's walks alone
set_option linter.unusedVariables false
set_option linter.unusedSimpArgs false

end Go.Proofs.Ytpjfnjnidmlhcaa.XFnExactDeep
