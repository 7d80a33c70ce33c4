/- trie: strip, Drop, DropOwner, Get, Find, All. -/
import Derived.Test.YtgpleldhddpcgaaGreatDoorTw5
import Derived.Test.YtgpleldhddpcgaaGreatDoorTrY
--%T
namespace Go.Proofs.YtgpleldhddpcgaaGreatDoor
open Go.RowKit Go.Sort
set_option linter.unusedVariables false
set_option linter.unusedSimpArgs false
set_option maxRecDepth 100000

def ndP (p : Key) (o : ByteArray) (l r : TR) : PV := .pt [.v (.int .u32 (addrK p)), .v (.int .i64 p.length), .v (.string o), trP l, trP r]





end Go.Proofs.YtgpleldhddpcgaaGreatDoor
