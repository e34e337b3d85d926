-- Written by xp.py of this workplace out of Lean's own print of the translation. Not trusted: Lean checks it.
import Derived.Test.YtpmeopkjfhgdlaaDoorProg
import Derived.Below
import Derived.Deep.Draws
import Derived.Deep.AppendLies
import Derived.Maps.AppendAt
import Derived.OwnWalk
import Derived.Laws.BytesArg
import Derived.Laws.MakeOwn
import Derived.Laws.OwnMore
import Derived.Deep.OwnRows
import Derived.Tactics
import Derived.Lib.ConvBytes
import Derived.Laws.Slices
import Derived.WalkKit
import Derived.KernelRfl
import Derived.RowKit3
import Derived.Deep.LoopGhost
import Derived.Deep.QuietTactic
import Derived.BigQuiet
import Derived.WideLaws
import Derived.Deep.DeepCutAuto
import Derived.Deep.CutBlock
import Derived.Deep.RegionHeld3
import Derived.Laws.Rows
import Derived.Lib.AppendStr
import Derived.ArgAppend
import Derived.Laws.IdiomCopy
import Derived.OrdersHeld
import Derived.Laws.BitsLemmas
import Derived.RowKit
import Derived.Test.YtpmeopkjfhgdlaaDoorShelf
import Derived.Lib.AppendIntMem
import Derived.Test.YtpmeopkjfhgdlaaDoorWWords
import Derived.Test.YtpmeopkjfhgdlaaDoorWLast
import Derived.Test.YtpmeopkjfhgdlaaDoorWTab
import Derived.Test.YtpmeopkjfhgdlaaDoorWFour
import Derived.Test.YtpmeopkjfhgdlaaDoorWQPut
import Derived.Test.YtpmeopkjfhgdlaaDoorWApart
import Derived.Test.YtpmeopkjfhgdlaaDoorWArr
import Derived.Test.YtpmeopkjfhgdlaaDoorWZeros
import Derived.Test.YtpmeopkjfhgdlaaDoorWFoot
import Derived.Test.YtpmeopkjfhgdlaaDoorWKept
import Derived.Test.YtpmeopkjfhgdlaaDoorWShare
import Derived.Test.YtpmeopkjfhgdlaaDoorWN
import Derived.Test.YtpmeopkjfhgdlaaDoorWFootNe
import Derived.Test.YtpmeopkjfhgdlaaDoorWAt
import Derived.Test.YtpmeopkjfhgdlaaDoorWEqStruct
import Derived.Test.YtpmeopkjfhgdlaaDoorWRepsOne
import Derived.Test.YtpmeopkjfhgdlaaDoorWInv
import Derived.Test.YtpmeopkjfhgdlaaDoorWInvWords
import Derived.Test.YtpmeopkjfhgdlaaDoorWGuard
import Derived.Test.YtpmeopkjfhgdlaaDoorWNEv
import Derived.Test.YtpmeopkjfhgdlaaDoorWMore
namespace Go.Proofs.YtpmeopkjfhgdlaaDoor.XFnExactOutText
open Go.RowKit Go.Proofs.YtpmeopkjfhgdlaaDoorW.PrintWords Go.Proofs.YtpmeopkjfhgdlaaDoorW.PrintLast Go.Proofs.YtpmeopkjfhgdlaaDoorW.PrintMore
attribute [local go_sem] max2_int min2_int max_two min_two max_three min_three max_four min_four   -- for this text's walks alone
set_option linter.unusedVariables false
set_option linter.unusedSimpArgs false



def errW : Option Int → Value
  | none => .nilIface
  | some c => .iface 0 (.int .i64 c)
theorem errW_none : errW none = .nilIface := rfl
theorem errW_some (c : Int) : errW (some c) = .iface 0 (.int .i64 c) := rfl

theorem info5 : (Tryd.prog.info? 5).map (fun i => (i.zero, i.size, i.bytes)) = some (some (.int .u8 0), 1, 1) := by kernel_rfl
theorem info9 : (Tryd.prog.info? 9).map (fun i => (i.zero, i.size, i.bytes)) = some (some (.string ⟨#[]⟩), 1, 16) := by kernel_rfl
-- the values' own types

end Go.Proofs.YtpmeopkjfhgdlaaDoor.XFnExactOutText
