import Derived.Test.YtodickpibbbiiaaGreatDoorAgC2
import Derived.Test.YtodickpibbbiiaaGreatDoorAgA1
import Derived.Laws.AppendOwnNone
import Derived.Maps.Range
import Derived.Shelf.Strings.SlTrimAscii
import Derived.Outline
open Go.Proofs.Tryz
namespace Go.Proofs.YtodickpibbbiiaaGreatDoor
open Go.RowKit
section
end
section
def Avoid (v u:Value):Prop:=∀ g,u.ownBlock=some g->v.ownBlock≠some g
structure RdInv (w0 w wr:World) (vl v vd vs:Value) (dp ls pats:List ByteArray):Prop where
 grown:w.grownBy wr vl.ownBlock
 ext:Ext w0 wr
 own:wr.ownsRow w0.heap.size 9 1 v pats.length (pats.map Value.string)
 at_:v.ownBlock=vl.ownBlock\/∃ g,v.ownBlock=some g/\w.heap.size<=g
 cd:CellsAt wr vd (dp.map Value.string)
 cs:CellsAt wr vs (ls.map Value.string)
 ad:Avoid v vd
 as_:Avoid v vs
end
section
end
section
def findB:List (ByteArray×ByteArray)->ByteArray->Option (ByteArray×ByteArray)
 | [],_=>none
 | f::fs,n=>if f.1=n then some f else findB fs n
def textV (f:ByteArray×ByteArray):Value:=.agg #[.string f.1,.string f.2]
def FarV (s1:Nat) (v:Value) (b:Nat):Prop:=s1+7<=b/\some b≠v.ownBlock
structure IgInv (w0:World) (s0 s1:Nat) (fs:List (ByteArray×ByteArray)) (wi:List ByteArray) (v:Value) (ps:List (ByteArray×Pat×Nat)) (inc n:Nat) (w:World):Prop where
 ext:Ext w0 w
 env:Env w0
 ord:w0.heap.size<=s0/\s0+2<=s1
 ct:w.cell? ⟨s0+1,0,none⟩=some (.map (some s0))
 texts:∃ k,MapAt w s0 k fun x=>(findB fs x).map textV
 co:w.cell? ⟨s1+3,0,none⟩=some (.map (some (s1+2)))
 opens:∃ f,MapAt w (s1+2) n f/\∀ x,x.size<=maxLen->(f x).getD (.int .i64 0)=.int .i64 (if (wi.map (·.toList)).contains x.toList then 1 else 0)
 ci:w.heap[s1+4]?=some (.cells #[.int .i64 inc] 3 (0,0))
 cr:w.cell? ⟨s1+5,0,none⟩=some (.func (.func 66) #[] #[.pointer (some ⟨s0+1,0,none⟩),.pointer (some ⟨s1+3,0,none⟩),.pointer (some ⟨s1+4,0,none⟩),.pointer (some ⟨s1+6,0,none⟩)])
 cn:w.cell? ⟨s1+6,0,none⟩=some (.func (.func 62) #[] #[.pointer (some ⟨s1+4,0,none⟩),.pointer (some ⟨s1+5,0,none⟩),.pointer (some ⟨s1+1,0,none⟩)])
 cl:w.cell? ⟨s1+1,0,none⟩=some (.pointer (some ⟨s1,0,none⟩))
 blk:w.heap[s1]?=some (.cells #[v] 139 (0,0))
 size:s1+7<=w.heap.size
 own:w.ownsRow (s1+7) 144 1 v ps.length (ps.map fun x=>Value.pointer (some ⟨x.2.2,0,none⟩))
 pats:∀ x∈ps,PatAt w (FarV s1 v) x.2.2 x.1 x.2.1/\patL x.1.toList=.ok x.2.1
structure IgStep (s1:Nat) (v v':Value) (w w':World):Prop where
 stays:Stays (FarV s1 v) w w'
 far:∀ b,b<w.heap.size->FarV s1 v b->FarV s1 v' b
end
section
end
section
end
section
end
section
end
section
end
section
end
section
end
end Go.Proofs.YtodickpibbbiiaaGreatDoor
