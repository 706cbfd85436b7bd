-- written by a program of this session's over the kit's print (xp.py)
import Derived.Test.YtbklkcfmlmneaaaDoorWInv
import Derived.Test.YtbklkcfmlmneaaaDoorWFootNe
namespace Go.Proofs.YtbklkcfmlmneaaaDoorW.PrintWords
open Go.RowKit
end Go.Proofs.YtbklkcfmlmneaaaDoorW.PrintWords
namespace Go.Proofs.YtbklkcfmlmneaaaDoorW.PrintLast
section
variable {ops : Array Oper} {a : Act} {o og : Oper} {g : Nat} {t : Tmp} {u : Bool}
end
end Go.Proofs.YtbklkcfmlmneaaaDoorW.PrintLast
