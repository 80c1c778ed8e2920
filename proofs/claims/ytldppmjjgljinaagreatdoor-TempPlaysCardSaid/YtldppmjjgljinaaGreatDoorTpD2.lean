import Derived.Test.YtldppmjjgljinaaGreatDoorTpC3
import Derived.Deep.RegionHeld
open Go.Proofs.Tryz
namespace Go.Proofs.YtldppmjjgljinaaGreatDoor
open Go.RowKit
section
end
section
end
end Go.Proofs.YtldppmjjgljinaaGreatDoor
