-- written by a program of this session's over the kit's print (xp.py)
import Derived.Test.YtpbgloppcenljaaWWords
import Derived.Laws.StructEq
namespace Go.Proofs.YtpbgloppcenljaaW.PrintWords
open Go.RowKit
section
variable {P : Program} {d : Nat} {xs ys : Array Value} {f : Field} {fs : List Field} {a b : Value} {r s : Bool} {w : World}
end
end Go.Proofs.YtpbgloppcenljaaW.PrintWords
