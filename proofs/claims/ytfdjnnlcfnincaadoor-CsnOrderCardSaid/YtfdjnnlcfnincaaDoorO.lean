-- Written by hprint.py (this repo's program) with the kit's printer. Not trusted: Lean checks it.
import Derived.Test.YtfdjnnlcfnincaaDoorProg
import Derived.Below
import Derived.Deep.Draws
import Derived.Deep.AppendLies
import Derived.Maps.AppendAt
import Derived.OwnWalk
import Derived.Laws.BytesArg
import Derived.Laws.MakeOwn
import Derived.Laws.OwnMore
import Derived.Deep.OwnRows
import Derived.Tactics
import Derived.Lib.ConvBytes
import Derived.Laws.Slices
import Derived.WalkKit
import Derived.KernelRfl
import Derived.RowKit3
import Derived.Deep.LoopGhost
import Derived.Deep.QuietTactic
import Derived.BigQuiet
import Derived.WideLaws
import Derived.Deep.DeepCutAuto
import Derived.Deep.CutBlock
import Derived.Deep.RegionHeld3
import Derived.Laws.Rows
import Derived.Lib.AppendStr
import Derived.ArgAppend
import Derived.Laws.IdiomCopy
import Derived.OrdersHeld
import Derived.Laws.BitsLemmas
import Derived.RowKit
import Derived.Test.YtfdjnnlcfnincaaDoorWWords
import Derived.Test.YtfdjnnlcfnincaaDoorWLast
import Derived.Test.YtfdjnnlcfnincaaDoorWTab
import Derived.Test.YtfdjnnlcfnincaaDoorWFour
import Derived.Test.YtfdjnnlcfnincaaDoorWQPut
import Derived.Test.YtfdjnnlcfnincaaDoorWApart
import Derived.Test.YtfdjnnlcfnincaaDoorWArr
import Derived.Test.YtfdjnnlcfnincaaDoorWZeros
import Derived.Test.YtfdjnnlcfnincaaDoorWFoot
import Derived.Test.YtfdjnnlcfnincaaDoorWKept
import Derived.Test.YtfdjnnlcfnincaaDoorWShare
import Derived.Test.YtfdjnnlcfnincaaDoorWN
import Derived.Test.YtfdjnnlcfnincaaDoorWFootNe
import Derived.Test.YtfdjnnlcfnincaaDoorWAt
import Derived.Test.YtfdjnnlcfnincaaDoorWEqStruct
import Derived.Test.YtfdjnnlcfnincaaDoorWRepsOne
import Derived.Test.YtfdjnnlcfnincaaDoorWInv
import Derived.Test.YtfdjnnlcfnincaaDoorWInvWords
import Derived.Test.YtfdjnnlcfnincaaDoorWGuard
import Derived.Test.YtfdjnnlcfnincaaDoorWNEv
import Derived.Test.YtfdjnnlcfnincaaDoorWMore
namespace Go.Proofs.YtfdjnnlcfnincaaDoor.O
open Go.RowKit Go.Proofs.YtfdjnnlcfnincaaDoorW.PrintWords Go.Proofs.YtfdjnnlcfnincaaDoorW.PrintLast Go.Proofs.YtfdjnnlcfnincaaDoorW.PrintMore
attribute [local go_sem] max2_int min2_int max_two min_two max_three min_three max_four min_four   -- for this text's walks alone
set_option linter.unusedVariables false
set_option linter.unusedSimpArgs false



def errW : Option Int → Value
  | none => .nilIface
  | some c => .iface 0 (.int .i64 c)
theorem errW_none : errW none = .nilIface := rfl
theorem errW_some (c : Int) : errW (some c) = .iface 0 (.int .i64 c) := rfl

theorem info3 : (Tryd.prog.info? 3).map (fun i => (i.zero, i.size, i.bytes)) = some (some (.int .i64 0), 1, 8) := by kernel_rfl
-- the values' own types

def Glob (_ : World) : Prop := True
theorem Glob.of_below {w W : World} (_ : Glob w) (_ : Below w.heap.size w W) : Glob W := True.intro
theorem Glob.drewN {w : World} (_ : Glob w) (n : Nat) : Glob (w.drewN n) := True.intro
theorem Glob.drew {w : World} (_ : Glob w) : Glob w.drew := True.intro

theorem eqA23 (d : Nat) (w : World) (x0 y0 : Int) (x1 y1 : Int) :
    (Op.equalIn (d + 2) 23 (.agg #[.int .i64 x0, .int .i64 x1]) (.agg #[.int .i64 y0, .int .i64 y1])).run Tryd.prog w = .ok (x0 == y0 && (x1 == y1)) w := by
  refine eqA_of Tryd.underlying23 (by kernel_rfl) ?_
  refine eqf_cons (by rfl) (by go_simp; rfl) (by go_simp; rfl) (by go_simp) ?_
  exact eqf_last (by rfl) (by go_simp; rfl) (by go_simp; rfl) (by go_simp)
end Go.Proofs.YtfdjnnlcfnincaaDoor.O
