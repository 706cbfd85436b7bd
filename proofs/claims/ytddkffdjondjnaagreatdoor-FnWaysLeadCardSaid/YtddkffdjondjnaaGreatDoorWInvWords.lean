-- written by a program of this session's over the kit's print (xp.py)
import Derived.Test.YtddkffdjondjnaaGreatDoorWInv
import Derived.Test.YtddkffdjondjnaaGreatDoorWFootNe
namespace Go.Proofs.YtddkffdjondjnaaGreatDoorW.PrintWords
open Go.RowKit
end Go.Proofs.YtddkffdjondjnaaGreatDoorW.PrintWords
namespace Go.Proofs.YtddkffdjondjnaaGreatDoorW.PrintLast
section
variable {ops : Array Oper} {a : Act} {o og : Oper} {g : Nat} {t : Tmp} {u : Bool}
end
end Go.Proofs.YtddkffdjondjnaaGreatDoorW.PrintLast
