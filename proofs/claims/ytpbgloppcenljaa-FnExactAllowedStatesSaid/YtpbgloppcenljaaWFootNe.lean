-- written by a program of this session's over the kit's print (xp.py)
import Derived.Test.YtpbgloppcenljaaWN
namespace Go.Proofs.YtpbgloppcenljaaW.PrintWords
open Go.RowKit
namespace Kd
section
variable {α : Type} {d : Kd α} {W : World} {g n : Nat} {S ok : Nat → Prop} {A : Option Addr} {ad : Addr} {xs : List α}
end
end Kd
end Go.Proofs.YtpbgloppcenljaaW.PrintWords
