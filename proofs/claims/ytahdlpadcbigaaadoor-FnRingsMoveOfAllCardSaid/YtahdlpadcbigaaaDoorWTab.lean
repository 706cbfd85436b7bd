-- written by a program of this session's over the kit's print (xp.py)
import Derived.Test.YtahdlpadcbigaaaDoorWLast
import Derived.Test.YtahdlpadcbigaaaDoorWWords
namespace Go.Proofs.YtahdlpadcbigaaaDoorW.PrintLast
open Go.Proofs.YtahdlpadcbigaaaDoorW.PrintWords (Aside0)
section
variable {md : Region.Mode} {ops : Array Oper} {T : Bool × List (List Nat × List Nat)} {l l' li lj lk : Array Bool} {ds : List Nat} {i j k : Nat}
end
end Go.Proofs.YtahdlpadcbigaaaDoorW.PrintLast
