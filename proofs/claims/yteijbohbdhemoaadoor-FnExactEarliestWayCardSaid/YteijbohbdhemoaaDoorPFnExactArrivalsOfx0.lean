-- PRINTED BY print.sh 35421559b90ae4d0a3588c463048766b98c2df88dd9212a6774a882060cdf62d: not written by this session
import Derived.Test.YteijbohbdhemoaaDoorProg
import Derived.Below
import Derived.Deep.Draws
import Derived.Deep.AppendLies
import Derived.Maps.AppendAt
import Derived.OwnWalk
import Derived.Laws.BytesArg
import Derived.Laws.MakeOwn
import Derived.Laws.OwnMore
import Derived.Deep.OwnRows
import Derived.Tactics
import Derived.Lib.ConvBytes
import Derived.Laws.Slices
import Derived.WalkKit
import Derived.KernelRfl
import Derived.RowKit3
import Derived.Deep.LoopGhost
import Derived.Deep.QuietTactic
import Derived.BigQuiet
import Derived.WideLaws
import Derived.Deep.DeepCutAuto
import Derived.Deep.CutBlock
import Derived.Deep.RegionHeld3
import Derived.Laws.Rows
import Derived.Lib.AppendStr
import Derived.ArgAppend
import Derived.Laws.IdiomCopy
import Derived.OrdersHeld
import Derived.Laws.BitsLemmas
import Derived.RowKit
import Derived.Test.YteijbohbdhemoaaDoorWWords
import Derived.Test.YteijbohbdhemoaaDoorWLast
import Derived.Test.YteijbohbdhemoaaDoorWTab
import Derived.Test.YteijbohbdhemoaaDoorWFour
import Derived.Test.YteijbohbdhemoaaDoorWQPut
import Derived.Test.YteijbohbdhemoaaDoorWApart
import Derived.Test.YteijbohbdhemoaaDoorWArr
import Derived.Test.YteijbohbdhemoaaDoorWZeros
import Derived.Test.YteijbohbdhemoaaDoorWFoot
import Derived.Test.YteijbohbdhemoaaDoorWKept
import Derived.Test.YteijbohbdhemoaaDoorWShare
import Derived.Test.YteijbohbdhemoaaDoorWN
import Derived.Test.YteijbohbdhemoaaDoorWFootNe
import Derived.Test.YteijbohbdhemoaaDoorWAt
import Derived.Test.YteijbohbdhemoaaDoorWEqStruct
import Derived.Test.YteijbohbdhemoaaDoorWRepsOne
import Derived.Test.YteijbohbdhemoaaDoorWInv
import Derived.Test.YteijbohbdhemoaaDoorWInvWords
import Derived.Test.YteijbohbdhemoaaDoorWGuard
import Derived.Test.YteijbohbdhemoaaDoorWNEv
import Derived.Test.YteijbohbdhemoaaDoorWMore
namespace Go.Proofs.YteijbohbdhemoaaDoor.PFnExactArrivalsOf
open Go.RowKit Go.Proofs.YteijbohbdhemoaaDoorW.PrintWords Go.Proofs.YteijbohbdhemoaaDoorW.PrintLast Go.Proofs.YteijbohbdhemoaaDoorW.PrintMore
attribute [local go_sem] max2_int min2_int max_two min_two max_three min_three max_four min_four   -- for this text's walks alone
set_option linter.unusedVariables false
set_option linter.unusedSimpArgs false



def errW : Option Int → Value
  | none => .nilIface
  | some c => .iface 0 (.int .i64 c)
theorem errW_none : errW none = .nilIface := rfl
theorem errW_some (c : Int) : errW (some c) = .iface 0 (.int .i64 c) := rfl

theorem info3 : (Tryd.prog.info? 3).map (fun i => (i.zero, i.size, i.bytes)) = some (some (.int .i64 0), 1, 8) := by kernel_rfl
theorem info4 : (Tryd.prog.info? 4).map (fun i => (i.zero, i.size, i.bytes)) = some (some (.bool false), 1, 1) := by kernel_rfl
-- the values' own types

end Go.Proofs.YteijbohbdhemoaaDoor.PFnExactArrivalsOf
