-- written by a program of this session's over the kit's print (xp.py)
import Derived.Test.YtfcphekdimeodaaDoorWInv
import Derived.Test.YtfcphekdimeodaaDoorWFootNe
namespace Go.Proofs.YtfcphekdimeodaaDoorW.PrintWords
open Go.RowKit
end Go.Proofs.YtfcphekdimeodaaDoorW.PrintWords
namespace Go.Proofs.YtfcphekdimeodaaDoorW.PrintLast
section
variable {ops : Array Oper} {a : Act} {o og : Oper} {g : Nat} {t : Tmp} {u : Bool}
end
end Go.Proofs.YtfcphekdimeodaaDoorW.PrintLast
