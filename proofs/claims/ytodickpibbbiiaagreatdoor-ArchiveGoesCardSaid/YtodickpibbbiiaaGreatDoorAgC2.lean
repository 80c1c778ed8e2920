import Derived.Test.YtodickpibbbiiaaGreatDoorAgC1
import Derived.Outline
import Derived.Lib.SlTrimSet
open Go.Proofs.Tryz
namespace Go.Proofs.YtodickpibbbiiaaGreatDoor
open Go.RowKit
section
end
section
def RElt (w:World) (Far:Nat->Prop):GE->Array Value->Prop
 | .all,cs=>cs=#[.int .i64 1,.int .u8 0,.bool false,.slice none 0 0]
 | .some,cs=>cs=#[.int .i64 2,.int .u8 0,.bool false,.slice none 0 0]
 | .any,cs=>cs=#[.int .i64 3,.int .u8 0,.bool false,.slice none 0 0]
 | .set neg rs,cs=>∃ v,cs=#[.int .i64 4,.int .u8 0,.bool neg,v]/\RangesFrom w Far v rs
 | .byt c,cs=>cs=#[.int .i64 5,.int .u8 c.toNat,.bool false,.slice none 0 0]
def RShape (cs:Array Value):Prop:=∃ k b nn a n c,cs=#[.int .i64 k,.int .u8 b,.bool nn,.slice a n c]
structure RClsInv (w:World) (neg:Bool) (wr:World) (v:Value) (rs:List (UInt8×UInt8)):Prop where
 ext:Ext w wr
 res:wr.heap[w.heap.size]?=some (.cells #[.int .i64 0,.int .u8 0,.bool false,.slice none 0 0] 303 (0,0))
 x:wr.heap[w.heap.size+1]?=some (.cells #[.int .i64 4,.int .u8 0,.bool neg,v] 303 (0,0))
 own:wr.ownsRow (w.heap.size+2) 337 2 v rs.length (flatR rs)
end
section
def flatC (l:List (GE×Array Value)):List Value:=l.flatMap fun x=>x.2.toList
structure REltsAt (w:World) (Far:Nat->Prop) (v:Value) (l:List (GE×Array Value)):Prop where
 row:∃ a cap,v=.slice a l.length cap/\l.length<=cap/\cap<=maxLen/\∀ (j:Nat) x,l[j]?=some x->∃ g,a=some ⟨g,0,none⟩/\Far g/\∀ (i:Nat) u,x.2[i]?=some u->w.cell? ⟨g,4*j+i,none⟩=some u
 elts:∀ x∈l,RElt w Far x.1 x.2/\RShape x.2
structure RParInv (w:World) (m:Marks) (r:Bool) (wr:World) (v:Value) (l:List (GE×Array Value)):Prop where
 ext:Ext w wr
 res:wr.heap[w.heap.size]?=some (.cells #[.bool false,.bool false,.bool false,.bool false,.slice none 0 0] 247 (0,0))
 p:wr.heap[w.heap.size+1]?=some (.cells #[.bool m.neg,.bool m.fold,.bool m.del,.bool r,v] 247 (0,0))
 own:wr.ownsRow (w.heap.size+2) 303 4 v l.length (flatC l)
 elts:∀ x∈l,RElt wr (fun b=>w.heap.size+2<=b/\some b≠v.ownBlock) x.1 x.2/\RShape x.2
structure RMkInv (w:World) (m:Marks) (wr:World):Prop where
 ext:Ext w wr
 res:wr.heap[w.heap.size]?=some (.cells #[.bool false,.bool false,.bool false,.bool false,.slice none 0 0] 247 (0,0))
 p:wr.heap[w.heap.size+1]?=some (.cells #[.bool m.neg,.bool m.fold,.bool m.del,.bool false,.slice none 0 0] 247 (0,0))
end
section
end
section
def brA (n k:Nat) (f:Nat->Bool):Array Value:=blA n n fun i=>decide (k<=i)&&f i
structure WhInv (w:World) (T n m q:Nat) (f:Nat->Nat->Bool) (wr:World):Prop where
 ext:Ext w wr
 tab:∃ A,wr.heap[T]?=some (.cells A 290 (0,0))/\A.size=n/\(q<n->∃ r,A[q]?=some (.slice (some ⟨r,0,none⟩) m m)/\T<r/\wr.heap[r]?=some (.cells (blA m m (f q)) 4 (0,0)))
 ge:w.heap.size<=T
structure WrInv (w:World) (T R n m q k:Nat) (f:Nat->Nat->Bool) (wr:World):Prop where
 ext:Ext w wr
 ge:w.heap.size<=T
 lt:T<R
 tab:∃ A,wr.heap[T]?=some (.cells A 290 (0,0))/\A.size=n/\A[q]?=some (.slice (some ⟨R,0,none⟩) m m)/\(q+1<n->∃ r,A[q+1]?=some (.slice (some ⟨r,0,none⟩) m m)/\T<r/\r≠R/\wr.heap[r]?=some (.cells (blA m m (f (q+1))) 4 (0,0)))
 row:wr.heap[R]?=some (.cells (brA m k (f q)) 4 (0,0))
end
section
end
section
abbrev Txt:=List UInt8
structure RSt where
 pats:List Txt
 inc:Nat
structure RSt.fine (st:RSt):Prop where
 inc:st.inc<=64
 len:st.pats.length<=64
 pat:∀ t∈st.pats,∃ p,patL t=.ok p
end
section
end
end Go.Proofs.YtodickpibbbiiaaGreatDoor
