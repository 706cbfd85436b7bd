-- written by a program of this session's over the kit's print (xp.py)
import Derived.Test.YtancjdpdinbddaaDoorWInv
import Derived.Test.YtancjdpdinbddaaDoorWFootNe
namespace Go.Proofs.YtancjdpdinbddaaDoorW.PrintWords
open Go.RowKit
end Go.Proofs.YtancjdpdinbddaaDoorW.PrintWords
namespace Go.Proofs.YtancjdpdinbddaaDoorW.PrintLast
section
variable {ops : Array Oper} {a : Act} {o og : Oper} {g : Nat} {t : Tmp} {u : Bool}
end
end Go.Proofs.YtancjdpdinbddaaDoorW.PrintLast
