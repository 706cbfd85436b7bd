-- written by a program of this session's over the kit's print (xp.py)
import Derived.Test.YtcgilnmljflebaaWInv
import Derived.Test.YtcgilnmljflebaaWFootNe
namespace Go.Proofs.YtcgilnmljflebaaW.PrintWords
open Go.RowKit
end Go.Proofs.YtcgilnmljflebaaW.PrintWords
namespace Go.Proofs.YtcgilnmljflebaaW.PrintLast
section
variable {ops : Array Oper} {a : Act} {o og : Oper} {g : Nat} {t : Tmp} {u : Bool}
end
end Go.Proofs.YtcgilnmljflebaaW.PrintLast
