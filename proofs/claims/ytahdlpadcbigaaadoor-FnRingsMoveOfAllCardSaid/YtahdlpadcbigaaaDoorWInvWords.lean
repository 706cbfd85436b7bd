-- written by a program of this session's over the kit's print (xp.py)
import Derived.Test.YtahdlpadcbigaaaDoorWInv
import Derived.Test.YtahdlpadcbigaaaDoorWFootNe
namespace Go.Proofs.YtahdlpadcbigaaaDoorW.PrintWords
open Go.RowKit
end Go.Proofs.YtahdlpadcbigaaaDoorW.PrintWords
namespace Go.Proofs.YtahdlpadcbigaaaDoorW.PrintLast
section
variable {ops : Array Oper} {a : Act} {o og : Oper} {g : Nat} {t : Tmp} {u : Bool}
end
end Go.Proofs.YtahdlpadcbigaaaDoorW.PrintLast
