-- Written by xp.py of this workplace out of Lean's own print of the translation. Not trusted: Lean checks it.
import Derived.Test.YtigfcghmfelpkaaDoorProg
import Derived.Below
import Derived.Deep.Draws
import Derived.Deep.AppendLies
import Derived.Maps.AppendAt
import Derived.OwnWalk
import Derived.Laws.BytesArg
import Derived.Laws.MakeOwn
import Derived.Laws.OwnMore
import Derived.Deep.OwnRows
import Derived.Tactics
import Derived.Lib.ConvBytes
import Derived.Laws.Slices
import Derived.WalkKit
import Derived.KernelRfl
import Derived.RowKit3
import Derived.Deep.LoopGhost
import Derived.Deep.QuietTactic
import Derived.BigQuiet
import Derived.WideLaws
import Derived.Deep.DeepCutAuto
import Derived.Deep.CutBlock
import Derived.Deep.RegionHeld3
import Derived.Laws.Rows
import Derived.Lib.AppendStr
import Derived.ArgAppend
import Derived.Laws.IdiomCopy
import Derived.OrdersHeld
import Derived.Laws.BitsLemmas
import Derived.RowKit
import Derived.Test.YtigfcghmfelpkaaDoorShelf
import Derived.Lib.AppendIntMem
import Derived.Test.YtigfcghmfelpkaaDoorWWords
import Derived.Test.YtigfcghmfelpkaaDoorWLast
import Derived.Test.YtigfcghmfelpkaaDoorWTab
import Derived.Test.YtigfcghmfelpkaaDoorWFour
import Derived.Test.YtigfcghmfelpkaaDoorWQPut
import Derived.Test.YtigfcghmfelpkaaDoorWApart
import Derived.Test.YtigfcghmfelpkaaDoorWArr
import Derived.Test.YtigfcghmfelpkaaDoorWZeros
import Derived.Test.YtigfcghmfelpkaaDoorWFoot
import Derived.Test.YtigfcghmfelpkaaDoorWKept
import Derived.Test.YtigfcghmfelpkaaDoorWShare
import Derived.Test.YtigfcghmfelpkaaDoorWN
import Derived.Test.YtigfcghmfelpkaaDoorWFootNe
import Derived.Test.YtigfcghmfelpkaaDoorWAt
import Derived.Test.YtigfcghmfelpkaaDoorWEqStruct
import Derived.Test.YtigfcghmfelpkaaDoorWRepsOne
import Derived.Test.YtigfcghmfelpkaaDoorWInv
import Derived.Test.YtigfcghmfelpkaaDoorWInvWords
import Derived.Test.YtigfcghmfelpkaaDoorWGuard
import Derived.Test.YtigfcghmfelpkaaDoorWNEv
import Derived.Test.YtigfcghmfelpkaaDoorWMore
namespace Go.Proofs.YtigfcghmfelpkaaDoor.XFnExactSlabText
open Go.RowKit Go.Proofs.YtigfcghmfelpkaaDoorW.PrintWords Go.Proofs.YtigfcghmfelpkaaDoorW.PrintLast Go.Proofs.YtigfcghmfelpkaaDoorW.PrintMore
attribute [local go_sem] max2_int min2_int max_two min_two max_three min_three max_four min_four   -- for this text's walks alone
set_option linter.unusedVariables false
set_option linter.unusedSimpArgs false



def errW : Option Int → Value
  | none => .nilIface
  | some c => .iface 0 (.int .i64 c)
theorem errW_none : errW none = .nilIface := rfl
theorem errW_some (c : Int) : errW (some c) = .iface 0 (.int .i64 c) := rfl

theorem info3 : (Tryd.prog.info? 3).map (fun i => (i.zero, i.size, i.bytes)) = some (some (.int .i64 0), 1, 8) := by kernel_rfl
theorem info5 : (Tryd.prog.info? 5).map (fun i => (i.zero, i.size, i.bytes)) = some (some (.int .u8 0), 1, 1) := by kernel_rfl
theorem info9 : (Tryd.prog.info? 9).map (fun i => (i.zero, i.size, i.bytes)) = some (some (.string ⟨#[]⟩), 1, 16) := by kernel_rfl
-- the values' own types

end Go.Proofs.YtigfcghmfelpkaaDoor.XFnExactSlabText
