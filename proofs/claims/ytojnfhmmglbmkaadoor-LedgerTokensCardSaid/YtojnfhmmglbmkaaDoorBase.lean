/- The kit's modules that my walks use, brought together; steps of a walk that are laws of no program. -/
import Derived.Test.YtojnfhmmglbmkaaDoorChecked
import Derived.Test.YtojnfhmmglbmkaaDoorFrame
import Derived.Test.YtojnfhmmglbmkaaDoorBlk
import Derived.Deep.Cut
import Derived.Deep.CutRange
import Derived.Deep.QuietTactic
import Derived.BigQuiet
import Derived.LoopTactic
import Derived.Laws.AppendOwnNone
import Derived.Laws.OwnMore
import Derived.Maps.AppendAt
import Derived.ArgAppend
import Derived.WalkSmall
import Derived.WalkSpells
import Derived.Lib.SmallJoins
import Derived.Deep.Slices
import Derived.ChangeSlices
import Derived.ChangeMaps5
namespace Go.Proofs.YtojnfhmmglbmkaaDoor.Base
open Go.RowKit Go.Lib
theorem dummy_base : True := trivial
end Go.Proofs.YtojnfhmmglbmkaaDoor.Base
