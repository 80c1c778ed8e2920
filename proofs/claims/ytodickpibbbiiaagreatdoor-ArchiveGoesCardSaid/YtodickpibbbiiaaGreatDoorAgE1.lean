import Derived.Test.YtodickpibbbiiaaGreatDoorAgD2
import Derived.Test.YtodickpibbbiiaaGreatDoorAgA1
open Go.Proofs.Tryz
namespace Go.Proofs.YtodickpibbbiiaaGreatDoor
open Go.RowKit
section
end
section
structure OutAt (w0 wr:World) (u:Value) (o:Nodes) (room:Nat):Prop where
 blk:wr.heap[w0.heap.size]?=some (.cells #[u,.int .i64 (room:Nat)] 180 (0,0))
 row:wr.ownsRow (w0.heap.size+1) 86 5 u o.length (rows5 o)
 ext:Ext w0 wr
end
section
end
section
structure Made (w wr:World) (t:Nat) (l:Nodes) (room:Nat):Prop where
 tree:∃ v,RTreeAt wr t v l room/\∀ b,v.ownBlock=some b->w.heap.size<=b
 at':w.heap.size<=t
 ext:Ext w wr
end
section
end
section
end
section
end
section
end
section
end
section
end
section
def FileOk (l:Nodes):Prop:=∀ x∈l,x.2.kind=1->x.2.target=emp
end
section
end
end Go.Proofs.YtodickpibbbiiaaGreatDoor
