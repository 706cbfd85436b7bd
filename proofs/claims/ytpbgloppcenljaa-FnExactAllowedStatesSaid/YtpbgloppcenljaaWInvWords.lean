-- written by a program of this session's over the kit's print (xp.py)
import Derived.Test.YtpbgloppcenljaaWInv
import Derived.Test.YtpbgloppcenljaaWFootNe
namespace Go.Proofs.YtpbgloppcenljaaW.PrintWords
open Go.RowKit
end Go.Proofs.YtpbgloppcenljaaW.PrintWords
namespace Go.Proofs.YtpbgloppcenljaaW.PrintLast
section
variable {ops : Array Oper} {a : Act} {o og : Oper} {g : Nat} {t : Tmp} {u : Bool}
end
end Go.Proofs.YtpbgloppcenljaaW.PrintLast
