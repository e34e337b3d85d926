-- Written by xp.py of this workplace out of Lean's own print of the translation. Not trusted: Lean checks it.
import Derived.Test.YtpjfnjnidmlhcaaProg
import Derived.Below
import Derived.Deep.Draws
import Derived.Deep.AppendLies
import Derived.Maps.AppendAt
import Derived.OwnWalk
import Derived.Laws.BytesArg
import Derived.Laws.MakeOwn
import Derived.Laws.OwnMore
import Derived.Deep.OwnRows
import Derived.Tactics
import Derived.Lib.ConvBytes
import Derived.Laws.Slices
import Derived.WalkKit
import Derived.KernelRfl
import Derived.RowKit3
import Derived.Deep.LoopGhost
import Derived.Deep.QuietTactic
import Derived.BigQuiet
import Derived.WideLaws
import Derived.Deep.DeepCutAuto
import Derived.Deep.CutBlock
import Derived.Deep.RegionHeld3
import Derived.Laws.Rows
import Derived.Lib.AppendStr
import Derived.ArgAppend
import Derived.Laws.IdiomCopy
import Derived.OrdersHeld
import Derived.Laws.BitsLemmas
import Derived.RowKit
import Derived.Test.YtpjfnjnidmlhcaaWWords
import Derived.Test.YtpjfnjnidmlhcaaWLast
import Derived.Test.YtpjfnjnidmlhcaaWTab
import Derived.Test.YtpjfnjnidmlhcaaWFour
import Derived.Test.YtpjfnjnidmlhcaaWQPut
import Derived.Test.YtpjfnjnidmlhcaaWApart
import Derived.Test.YtpjfnjnidmlhcaaWArr
import Derived.Test.YtpjfnjnidmlhcaaWZeros
import Derived.Test.YtpjfnjnidmlhcaaWFoot
import Derived.Test.YtpjfnjnidmlhcaaWKept
import Derived.Test.YtpjfnjnidmlhcaaWShare
import Derived.Test.YtpjfnjnidmlhcaaWN
import Derived.Test.YtpjfnjnidmlhcaaWFootNe
import Derived.Test.YtpjfnjnidmlhcaaWAt
import Derived.Test.YtpjfnjnidmlhcaaWEqStruct
import Derived.Test.YtpjfnjnidmlhcaaWRepsOne
import Derived.Test.YtpjfnjnidmlhcaaWInv
import Derived.Test.YtpjfnjnidmlhcaaWInvWords
import Derived.Test.YtpjfnjnidmlhcaaWGuard
import Derived.Test.YtpjfnjnidmlhcaaWNEv
import Derived.Test.YtpjfnjnidmlhcaaWMore
namespace Go.Proofs.Ytpjfnjnidmlhcaa.XFnExactAlike
open Go.RowKit Go.Proofs.YtpjfnjnidmlhcaaW.PrintWords Go.Proofs.YtpjfnjnidmlhcaaW.PrintLast Go.Proofs.YtpjfnjnidmlhcaaW.PrintMore
attribute [local go_sem] max2_int min2_int max_two min_two max_three min_three max_four min_four   -- for this text's walks alone
set_option linter.unusedVariables false
set_option linter.unusedSimpArgs false



def errW : Option Int → Value
  | none => .nilIface
  | some c => .iface 0 (.int .i64 c)
theorem errW_none : errW none = .nilIface := rfl
theorem errW_some (c : Int) : errW (some c) = .iface 0 (.int .i64 c) := rfl

theorem info9 : (Try.prog.info? 9).map (fun i => (i.zero, i.size, i.bytes)) = some (some (.string ⟨#[]⟩), 1, 16) := by kernel_rfl
-- the values' own types

end Go.Proofs.Ytpjfnjnidmlhcaa.XFnExactAlike
