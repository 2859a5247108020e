/- Each function that the law reaches, as a Lean function with the same answers, and the proof that the call comes to them. -/
import Derived.Test.YtfhonidhhipllaaDoorProg
import Derived.Below
import Derived.Deep.Draws
import Derived.Deep.AppendLies
import Derived.Maps.AppendAt
import Derived.OwnWalk
import Derived.Laws.BytesArg
import Derived.Laws.MakeOwn
import Derived.Laws.OwnMore
import Derived.Deep.OwnRows
import Derived.Tactics
import Derived.Lib.ConvBytes
import Derived.Laws.Slices
import Derived.WalkKit
import Derived.KernelRfl
import Derived.RowKit3
import Derived.Deep.LoopGhost
import Derived.Deep.QuietTactic
import Derived.BigQuiet
import Derived.WideLaws
import Derived.Deep.DeepCutAuto
import Derived.Deep.CutBlock
import Derived.Deep.RegionHeld3
import Derived.Laws.Rows
import Derived.Lib.AppendStr
import Derived.ArgAppend
import Derived.Laws.IdiomCopy
import Derived.OrdersHeld
import Derived.Laws.BitsLemmas
import Derived.RowKit
import Derived.Test.YtfhonidhhipllaaDoorLaid
import Derived.Test.YtfhonidhhipllaaDoorWWords
import Derived.Test.YtfhonidhhipllaaDoorWLast
import Derived.Test.YtfhonidhhipllaaDoorWTab
import Derived.Test.YtfhonidhhipllaaDoorWFour
import Derived.Test.YtfhonidhhipllaaDoorWQPut
import Derived.Test.YtfhonidhhipllaaDoorWApart
import Derived.Test.YtfhonidhhipllaaDoorWArr
import Derived.Test.YtfhonidhhipllaaDoorWZeros
import Derived.Test.YtfhonidhhipllaaDoorWFoot
import Derived.Test.YtfhonidhhipllaaDoorWKept
import Derived.Test.YtfhonidhhipllaaDoorWShare
import Derived.Test.YtfhonidhhipllaaDoorWN
import Derived.Test.YtfhonidhhipllaaDoorWFootNe
import Derived.Test.YtfhonidhhipllaaDoorWAt
import Derived.Test.YtfhonidhhipllaaDoorWEqStruct
import Derived.Test.YtfhonidhhipllaaDoorWRepsOne
import Derived.Test.YtfhonidhhipllaaDoorWInv
import Derived.Test.YtfhonidhhipllaaDoorWInvWords
import Derived.Test.YtfhonidhhipllaaDoorWGuard
import Derived.Test.YtfhonidhhipllaaDoorWNEv
import Derived.Test.YtfhonidhhipllaaDoorWMore
namespace Go.Proofs.YtfhonidhhipllaaDoor.QFnExactReadPattern
open Go.RowKit Go.Proofs.YtfhonidhhipllaaDoorW.PrintWords Go.Proofs.YtfhonidhhipllaaDoorW.PrintLast Go.Proofs.YtfhonidhhipllaaDoorW.PrintMore
attribute [local go_sem] max2_int min2_int max_two min_two max_three min_three max_four min_four   -- for this text's walks alone
set_option linter.unusedVariables false
set_option linter.unusedSimpArgs false



def errW : Option Int → Value
  | none => .nilIface
  | some c => .iface 0 (.int .i64 c)
theorem errW_none : errW none = .nilIface := rfl
theorem errW_some (c : Int) : errW (some c) = .iface 0 (.int .i64 c) := rfl

theorem info2 : (Tryd.prog.info? 2).map (fun i => (i.zero, i.size, i.bytes)) = some (some (.int .i64 0), 1, 8) := by kernel_rfl
theorem info9 : (Tryd.prog.info? 9).map (fun i => (i.zero, i.size, i.bytes)) = some (some (.string ⟨#[]⟩), 1, 16) := by kernel_rfl
-- the values' own types

end Go.Proofs.YtfhonidhhipllaaDoor.QFnExactReadPattern
