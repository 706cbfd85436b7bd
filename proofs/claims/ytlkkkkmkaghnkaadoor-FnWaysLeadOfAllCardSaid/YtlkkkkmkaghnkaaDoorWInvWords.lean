-- written by a program of this session's over the kit's print (xp.py)
import Derived.Test.YtlkkkkmkaghnkaaDoorWInv
import Derived.Test.YtlkkkkmkaghnkaaDoorWFootNe
namespace Go.Proofs.YtlkkkkmkaghnkaaDoorW.PrintWords
open Go.RowKit
end Go.Proofs.YtlkkkkmkaghnkaaDoorW.PrintWords
namespace Go.Proofs.YtlkkkkmkaghnkaaDoorW.PrintLast
section
variable {ops : Array Oper} {a : Act} {o og : Oper} {g : Nat} {t : Tmp} {u : Bool}
end
end Go.Proofs.YtlkkkkmkaghnkaaDoorW.PrintLast
