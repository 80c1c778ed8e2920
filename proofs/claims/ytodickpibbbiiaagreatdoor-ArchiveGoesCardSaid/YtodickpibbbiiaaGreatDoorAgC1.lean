import Derived.Test.YtodickpibbbiiaaGreatDoorAgA1
import Derived.Test.YtodickpibbbiiaaGreatDoorShelf
import Derived.Deep.RegionWith
import Derived.Outline
import Derived.Deep.RegionLaw
open Go.Proofs.Tryz
namespace Go.Proofs.YtodickpibbbiiaaGreatDoor
open Go.RowKit
section
inductive GE where
 | all | some | any
 | set (neg:Bool) (rs:List (UInt8×UInt8))
 | byt (c:UInt8)
def GE.many:GE->Bool
 | .all=>true
 | .some=>true
 | _=>false
def writtenL:List UInt8->Option (UInt8×List UInt8)
 | []=>none
 | c::t=>if c==92 then (match t with
   | []=>none
   | d::u=>if d==47 then none else some (d,u))
  else if c==47 then none else some (c,t)
def rangeL (s:List UInt8):Option ((UInt8×UInt8)×List UInt8) :=
 match writtenL s with
 | none=>none
 | some (f,45::d::u)=>if d==93 then some ((f,f),45::d::u) else
   match writtenL (d::u) with
   | none=>none
   | some (t,r)=>if decide (t.toNat<f.toNat) then none else some ((f,t),r)
 | some (f,r)=>some ((f,f),r)
def rangesL:Nat->List (UInt8×UInt8)->List UInt8->Option (List (UInt8×UInt8)×List UInt8)
 | 0,_,_=>none
 | n+1,acc,s=>match s with
  | []=>none
  | c::t=>if c==93 then (if acc.isEmpty then none else some (acc,t)) else
   match rangeL (c::t) with
   | none=>none
   | some (r,u)=>rangesL n (acc++[r]) u
def negL:List UInt8->Bool×List UInt8
 | 33::t=>(true,t)
 | s=>(false,s)
def classL (s:List UInt8):Option (GE×List UInt8) :=
 match rangesL (s.length+1) [] (negL s).2 with
 | none=>none
 | some (rs,r)=>some (.set (negL s).1 rs,r)
def elementL:List UInt8->Option (GE×List UInt8)
 | 42::42::t=>some (.all,t)
 | 42::t=>some (.some,t)
 | 63::t=>some (.any,t)
 | 47::t=>some (.byt 47,t)
 | 91::t=>classL t
 | s=>match writtenL s with
  | none=>none
  | some (c,r)=>some (.byt c,r)
def elementsL:Nat->List GE->List UInt8->Option (List GE)
 | 0,_,_=>none
 | n+1,acc,s=>if s.isEmpty then some acc else
  match elementL s with
  | none=>none
  | some (e,r)=>elementsL n (acc++[e]) r
structure Marks where
 neg:Bool
 del:Bool
 fold:Bool
def gmarkL (s:List UInt8):Option (Nat×Nat) :=
 if [33].isPrefixOf s then some (1,1)
 else if [40,63,105,41].isPrefixOf s then some (3,4)
 else if [40,63,100,41].isPrefixOf s then some (2,4)
 else none
def Marks.get (m:Marks) (k:Nat):Bool:=if k==1 then m.neg else if k==2 then m.del else m.fold
def Marks.put (m:Marks) (k:Nat):Marks:=if k==1 then { m with neg:=true } else if k==2 then { m with del:=true } else { m with fold:=true }
def marksL:Nat->Marks->List UInt8->Option (Marks×List UInt8)
 | 0,_,_=>none
 | n+1,m,s=>match gmarkL s with
  | none=>some (m,s)
  | some (k,l)=>if m.get k then none else marksL n (m.put k) (s.drop l)
structure Pat where
 marks:Marks
 rooted:Bool
 es:List GE
def rootL:List UInt8->Bool×List UInt8
 | 47::t=>(true,t)
 | s=>(false,s)
def patL (s:List UInt8):Except Nat Pat :=
 if s.length>128 then .error 3
 else match marksL (s.length+1) ⟨false,false,false⟩ s with
  | none=>.error 4
  | some (m,r)=>if (rootL r).2.isEmpty then .error 4 else
   match elementsL (s.length+1) [] (rootL r).2 with
   | none=>.error 4
   | some es=>.ok ⟨m,(rootL r).1,es⟩
end
section
end
section
def RangesAt (w:World) (v:Value) (rs:List (UInt8×UInt8)):Prop :=
 ∃ (a:Option Addr) (cap:Nat),v=.slice a rs.length cap/\rs.length<=cap/\cap<=maxLen/\∀ (j:Nat) r,rs[j]?=some r->∃ g,a=some ⟨g,0,none⟩ /\
  w.cell? ⟨g,2*j,none⟩=some (.int .u8 r.1.toNat)/\w.cell? ⟨g,2*j+1,none⟩=some (.int .u8 r.2.toNat)
structure RangesFrom (w:World) (Far:Nat->Prop) (v:Value) (rs:List (UInt8×UInt8)):Prop where
 at_:RangesAt w v rs
 far:∀ g n cap,v=.slice (some ⟨g,0,none⟩) n cap->Far g/\g<w.heap.size
end
section
def GFn (w:World) (bp:Nat) (Far:Nat->Prop):GE->Value->Prop
 | .all,v=>v=.func (.func 203) #[] #[]
 | .some,v=>v=.func (.func 202) #[] #[]
 | .any,v=>v=.func (.func 202) #[] #[]
 | .byt c,v=>∃ bw bq,v=.func (.func 262) #[] #[.pointer (some ⟨bw,0,none⟩),.pointer (some ⟨bq,0,none⟩)]/\Far bw/\Far bq/\w.cell? ⟨bw,0,none⟩=some (.int .u8 c.toNat)/\w.cell? ⟨bq,0,none⟩=some (.pointer (some ⟨bp,0,none⟩))
 | .set neg rs,v=>∃ b5 b10 b0 br u,v=.func (.func 265) #[] #[.pointer (some ⟨b5,0,none⟩),.pointer (some ⟨b10,0,none⟩),.pointer (some ⟨b0,0,none⟩)] /\
   Far b5/\Far b10/\Far b0/\Far br/\w.cell? ⟨b5,0,none⟩=some (.bool neg)/\w.cell? ⟨b10,0,none⟩=some (.func (.func 264) #[] #[.pointer (some ⟨br,0,none⟩)]) /\
   w.cell? ⟨b0,0,none⟩=some (.pointer (some ⟨bp,0,none⟩))/\w.cell? ⟨br,0,none⟩=some u/\RangesFrom w Far u rs
structure Keeps (Far:Nat->Prop) (w w':World):Prop where
 size:w.heap.size<=w'.heap.size
 cell:∀ b o,Far b->b<w.heap.size->w'.cell? ⟨b,o,none⟩=w.cell? ⟨b,o,none⟩
end
section
def flatR (rs:List (UInt8×UInt8)):List Value:=rs.flatMap fun r=>[.int .u8 r.1.toNat,.int .u8 r.2.toNat]
end
section
end
section
structure ClsInv (w:World) (bp:Nat) (neg:Bool) (wr:World) (v:Value) (rs:List (UInt8×UInt8)):Prop where
 ext:Ext w wr
 size:w.heap.size+1+1+1+1<=wr.heap.size
 p:wr.heap[w.heap.size]?=some (.cells #[.pointer (some ⟨bp,0,none⟩)] 144 (0,0))
 r:wr.heap[w.heap.size+1]?=some (.cells #[.nilFunc,.bool false] 227 (0,0))
 t:wr.heap[w.heap.size+1+1]?=some (.cells #[.bool neg] 4 (0,0))
 c:wr.heap[w.heap.size+1+1+1]?=some (.cells #[v] 301 (0,0))
 o:wr.ownsRow (w.heap.size+1+1+1+1) 337 2 v rs.length (flatR rs)
theorem own_block_ge_k {w:World} {base k:Nat} {e:TypeId} {v:Value} {n:Nat} {xs:List Value} (h:w.ownsRow base e k v n xs):∀ j,v.ownBlock=some j->base<=j:=by
 intro j hk;rcases h.2 with ⟨h1,_⟩ | ⟨g,cap,cur,hv,hb,_⟩
 ·subst h1;simp [Value.ownBlock] at hk
 ·subst hv;simp [Value.ownBlock] at hk;omega
end
section
def patCells (t:Value) (m:Marks) (rooted:Bool) (el:Value):Array Value:=#[t,.bool m.neg,.bool m.del,.bool m.fold,.bool rooted,el]
end
section
end
section
def blA (n k:Nat) (f:Nat->Bool):Array Value:=((List.range n).map fun i=>Value.bool (decide (i<k)&&f i)).toArray
end
section
def flatE (l:List (GE×Value)):List Value:=l.flatMap fun x=>[x.2,.bool x.1.many]
structure EltsAt (w:World) (bp:Nat) (Far:Nat->Prop) (v:Value) (l:List (GE×Value)):Prop where
 row:∃ a cap,v=.slice a l.length cap/\l.length<=cap/\cap<=maxLen/\∀ (j:Nat) x,l[j]?=some x->∃ g,a=some ⟨g,0,none⟩/\Far g/\w.cell? ⟨g,2*j,none⟩=some x.2/\w.cell? ⟨g,2*j+1,none⟩=some (.bool x.1.many)
 fns:∀ x∈l,GFn w bp Far x.1 x.2
structure PatAt (w:World) (Far:Nat->Prop) (bp:Nat) (t:ByteArray) (p:Pat):Prop where
 far:Far bp
 blk:∃ v l,w.heap[bp]?=some (.cells (patCells (.string t) p.marks p.rooted v) 224 (0,0))/\EltsAt w bp Far v l/\l.map (·.1)=p.es
structure Stays (Far:Nat->Prop) (w w':World):Prop where
 size:w.heap.size<=w'.heap.size
 block:∀ b,Far b->b<w.heap.size->w'.heap[b]?=w.heap[b]?
structure ParInv (w:World) (bp:Nat) (t:ByteArray) (m:Marks) (r:Bool) (wr:World) (v:Value) (l:List (GE×Value)):Prop where
 ext:Ext w wr
 ge:w.heap.size<=bp
 blk:wr.heap[bp]?=some (.cells (patCells (.string t) m r v) 224 (0,0))
 own:wr.ownsRow (bp+1) 227 2 v l.length (flatE l)
 fns:∀ x∈l,GFn wr bp (fun b=>bp<b/\some b≠v.ownBlock) x.1 x.2
end
section
end
section
structure EndsInv (w:World) (n:Nat) (wr:World) (g:Nat) (f:Nat->Bool):Prop where
 ext:Ext w wr
 now:wr.heap[g]?=some (.cells (blA n n f) 4 (0,0))
structure NextInv (w wr:World) (n:Nat) (wi:World) (x:Value) (many:Bool) (i:Nat) (f:Nat->Bool):Prop where
 ext:Ext wr wi
 elt:wi.heap[wr.heap.size]?=some (.cells #[x,.bool many] 227 (0,0))
 next:wi.heap[wr.heap.size+1]?=some (.cells (blA n i f) 4 (0,0))
end
end Go.Proofs.YtodickpibbbiiaaGreatDoor
