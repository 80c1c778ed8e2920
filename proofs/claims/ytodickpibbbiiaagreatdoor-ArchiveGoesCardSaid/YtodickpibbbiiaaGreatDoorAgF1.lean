import Derived.Test.YtodickpibbbiiaaGreatDoorAgA1
import Derived.Test.YtodickpibbbiiaaGreatDoorAgB1
import Derived.Test.YtodickpibbbiiaaGreatDoorAgD2
import Derived.Test.YtodickpibbbiiaaGreatDoorShelf
import Derived.Lib.ConvBytes
import Derived.OwnWalkIn
import Derived.Great.BuildSlice
import Derived.Lib.ReflectliteSwap
import Derived.RangeFuncNested
import Derived.RangeFuncBound
import Derived.RangeFuncCalls
import Derived.RangeFuncLeaves
import Derived.Shelf.Abstract
import Derived.Shelf.RegionOpen
import Derived.WalkKit
import Derived.TacticsInMore
import Derived.LoopNIn
import Derived.LoopIn
open Go.Proofs.Tryz
namespace Go.Proofs.YtodickpibbbiiaaGreatDoor
section
open Go.RowKit
end
section
open Go.RowKit
end
section
open Go.RowKit
end
section
open Go.RowKit
def itoaS (n:Int):ByteArray:=⟨(Lib.itoa n).toArray⟩
def padS (n:Int) (d:Nat):ByteArray:=⟨(Lib.repeatL [48] (d - (itoaS n).size)).toArray⟩++itoaS n
end
section
def fixed (n:Nat):Nat->List UInt8
 | 0=>[]
 | d+1=>fixed (n / 10) d++[UInt8.ofNat (48+n % 10)]
theorem fixed_length (d:Nat):∀ n,(fixed n d).length=d:=by
 induction d with
 | zero=>intro n;rfl
 | succ d ih=>intro n;simp [fixed,ih]
theorem repeat_snoc (x:UInt8):∀ k,Lib.repeatL [x] (k+1)=Lib.repeatL [x] k++[x]
 | 0=>rfl
 | k+1=>by
  show [x]++Lib.repeatL [x] (k+1)=([x]++Lib.repeatL [x] k)++[x]
  rw [repeat_snoc x k,List.append_assoc]
theorem fixed_zero:∀ d,fixed 0 d=Lib.repeatL [48] d
 | 0=>rfl
 | d+1=>by rw [repeat_snoc,<-fixed_zero d];rfl
theorem dec_le:∀ (d n:Nat),1<=d->n<10 ^ d->(Lib.decDigits n).length<=d
 | 0,n,h,_=>by omega
 | d+1,n,_,hn=>by
  by_cases h:n<10
  ·rw [Lib.decDigits_one h];simp
  ·rw [Lib.decDigits,dif_neg h,List.length_append]
   have:1<=d:=by
    rcases Nat.eq_zero_or_pos d with h0 | h0
    ·subst h0;simp at hn;omega
    ·exact h0
   have h2:n / 10<10 ^ d:=by rw [Nat.pow_succ] at hn;omega
   have:=dec_le d (n / 10) this h2;simp;omega
theorem pad_fixed:∀ (d n:Nat),1<=d->n<10 ^ d->Lib.repeatL [48] (d - (Lib.decDigits n).length)++Lib.decDigits n=fixed n d
 | 0,n,h,_=>by omega
 | d+1,n,_,hn=>by
  by_cases h:n<10
  ·rw [Lib.decDigits_one h];have e1:n / 10=0:=by omega
   have e2:n % 10=n:=by omega
   show Lib.repeatL [48] (d+1 - 1)++_=fixed (n / 10) d++_
   rw [e1,e2,fixed_zero];rfl
  ·have hd:1<=d:=by
    rcases Nat.eq_zero_or_pos d with h0 | h0
    ·subst h0;simp at hn;omega
    ·exact h0
   have h2:n / 10<10 ^ d:=by rw [Nat.pow_succ] at hn;omega
   have hl:=dec_le d (n / 10) hd h2;have ih:=pad_fixed d (n / 10) hd h2;rw [Lib.decDigits,dif_neg h,List.length_append]
   show Lib.repeatL [48] (d+1 - ((Lib.decDigits (n / 10)).length+1))++(Lib.decDigits (n / 10)++_)=fixed (n / 10) d++_
   rw [show d+1 - ((Lib.decDigits (n / 10)).length+1)=d - (Lib.decDigits (n / 10)).length from by omega,<-List.append_assoc,ih]
theorem padS_toList (n:Int) (d:Nat) (h0:0<=n) (hd:1<=d) (h:n.toNat<10 ^ d):(padS n d).toList=fixed n.toNat d:=by
 obtain ⟨k,rfl⟩:=Int.eq_ofNat_of_zero_le h0;rw [Int.toNat_natCast] at h ⊢;have e:Lib.itoa (k:Int)=Lib.decDigits k:=by unfold Lib.itoa;rw [if_neg (by omega)];simp
 unfold padS itoaS;rw [toList_append,toList_mk,toList_mk,e,size_mk];simp only [List.size_toArray];exact pad_fixed d k hd h
theorem itoaS_le (n:Int) (h0:0<=n) (h:n<=9223372036854775807):(itoaS n).size<=100:=by
 obtain ⟨k,rfl⟩:=Int.eq_ofNat_of_zero_le h0;have e:Lib.itoa (k:Int)=Lib.decDigits k:=by unfold Lib.itoa;rw [if_neg (by omega)];simp
 unfold itoaS;rw [e,size_mk];have:=dec_le 100 k (by decide) (Nat.lt_of_le_of_lt (by omega:k<=9223372036854775807) (by decide))
 simpa using this
end
section
open Go.RowKit
end
section
open Go.RowKit Go.Shelf
attribute [local go_sem] Oper.semAt_some
theorem wpList_store1 {P:Program} {ops:Array Oper} {rest:List Oper} {o:Oper} {a:Act} {Q:Exit->Act->World->Prop} {w:World} (hgd:o.guard=none) (ty:TypeId) (x y:Operand) (ho:o.op=.store ty x y)
  (g k:Nat) (v:Value) (hx:a.eval x=.pointer (some ⟨g,k,none⟩)) (hy:a.eval y=v) (hi:(P.info? ty).map (·.size)=some 1) (h1:v.oneCell'=true)
  (cs:Array Value) (t:TypeId) (hg:w.heap[g]?=some (.cells cs t (0,0))) (hk:k<cs.size)
  (h:∀ w1,w1=w.setCell ⟨g,k,none⟩ v->wpList P ops Q rest (a.put o.dst undef) w1):wpList P ops Q (o::rest) a w:=by
 refine wpList_plain hgd fun K hK=>?_;have h2:=hK _ _ (h _ rfl)
 cases hq:P.info? ty with
 | none=>simp [hq] at hi
 | some i =>
  have hs:i.size=1:=by simpa [hq] using hi
  have hc:w.cell? ⟨g,k,none⟩=some cs[k]:=(cellB hg).trans (Array.getElem?_eq_getElem hk);unfold Oper.wp execOp;simp only [ho,hx,hy,Instr.storeAt,Instr.sureAddr,Sem.run_bind,Sem.run_pure,Result.andThen_ok,Lib.rl_storeVar_one ty i hq hs ⟨g,k,none⟩ v cs[k] h1 w hc (frozenB hg)];exact h2
end
section
open Go.RowKit
def itemC (p:ByteArray) (n:Nd) (sz bs:Int) (bl:Value):Array Value:=#[.string p,.int .i64 n.kind,.bool false,.int .i64 sz,.int .i64 n.time,.int .i64 0,.int .u32 0,.int .u32 0,.int .u32 0,.int .u32 0,.int .u32 0,.int .u32 0,.int .u32 0,.int .u32 0,.int .u32 0,.int .u32 0,.int .u32 0,.int .u32 0,.int .u32 0,.int .u32 0,.int .u32 0,.int .u32 0,.int .i64 bs,bl,.string n.target,.int .i64 0,.int .i64 0]
end
section
open Go.RowKit Go.Shelf
attribute [local go_sem] Oper.semAt_some
def Solid (o:Obj):Prop:=o.isCells=true\/o.isWalk=true
structure KpK (K:World->List Nat) (nb:Nat) (W W':World):Prop where
 low:Below nb W W'
 same:∀ b o,W.heap[b]?=some o->Solid o->b∉K W->W'.heap[b]?=some o
 sub:∀ b∈K W',b∈K W\/W.heap.size<=b
def SameF (F:List Nat) (w w':World):Prop:=∀ b∈F,∀ o,w.heap[b]?=some o->Solid o->w'.heap[b]?=some o
structure Sf (K:World->List Nat) (F:List Nat) (W1 wr:World):Prop where
 size:W1.heap.size<=wr.heap.size
 same:SameF F W1 wr
 out:∀ b∈F,b∉K wr
end
section
open Go.RowKit
theorem owns_down {w:World} {base base' k n:Nat} {e:TypeId} {v:Value} {xs:List Value} (h:w.ownsRow base e k v n xs) (hb:base'<=base):w.ownsRow base' e k v n xs :=
 ⟨h.1,h.2.elim .inl fun ⟨g,cap,cur,hv,hg,hh,hr⟩=>.inr ⟨g,cap,cur,hv,Nat.le_trans hb hg,hh,hr⟩⟩
end
section
open Go.RowKit
end
section
open Go.RowKit
def isTempB (s:ByteArray):Bool:=Lib.hasPrefix (baseS s).toList [126,116,126]
end
section
open Go.RowKit
structure WSt where
 items:Nodes
 temps:List ByteArray
 ign:List ByteArray
 bad:List ByteArray
 over:ByteArray
def badN (n:Nd):Bool:=decide (n.kind=1)&&decide (4096<n.data.size)
def itemU (x:ByteArray×Nd) (u:Value):List Value :=
 if x.2.kind=1 then (itemC x.1 x.2 (x.2.data.size:Nat) (sizeN x.2.data.size:Nat) u).toList else (itemC x.1 x.2 0 0 u).toList
def HashU (w:World) (base:Nat) (F:List Nat) (x:ByteArray×Nd) (u:Value):Prop :=
 (x.2.kind≠1/\u=.slice none 0 0)\/(x.2.kind=1/\x.2.data.size<=4096/\w.ownsRow base 54 32 u (countN x.2.data.size) (hrow (hashesL x.2.data.toList))/\∀ b,u.ownBlock=some b->b∉F)
def foundB (cs:Array Value):List Nat:=rowB (cs.getD 0 undef)++rowB (cs.getD 1 undef)++rowB (cs.getD 2 undef)++rowB (cs.getD 3 undef)
def walkK (b6 b9:Nat) (W:World):List Nat:=[b6,b9]++(match W.heap[b6]? with | some (.cells cs _ _)=>foundB cs | _=>[])
end
section
open Go.RowKit
def rowsU (l:Nodes) (us:List Value):List Value:=(l.zip us).flatMap fun p=>itemU p.1 p.2
def rowOf (s:WSt) (us:List Value):Nat->TypeId×Nat×Nat×List Value
 | 0=>(45,27,s.items.length,rowsU s.items us)
 | 1=>(9,1,s.temps.length,s.temps.map Value.string)
 | 2=>(9,1,s.ign.length,s.ign.map Value.string)
 | _=>(9,1,s.bad.length,s.bad.map Value.string)
structure FoundIn (n0 b6 b9:Nat) (s:WSt) (w:World) (vs:Nat->Value) (us:List Value):Prop where
 blk:w.heap[b6]?=some (.cells #[vs 0,vs 1,vs 2,vs 3] 37 (0,0))
 over:w.heap[b9]?=some (.cells #[.string s.over] 9 (0,0))
 row:∀ j,j<4->w.ownsRow n0 (rowOf s us j).1 (rowOf s us j).2.1 (vs j) (rowOf s us j).2.2.1 (rowOf s us j).2.2.2
 nd:∀ i j,i<4->j<4->i≠j->∀ b,(vs i).ownBlock=some b->(vs j).ownBlock≠some b
 len:us.length=s.items.length
 hs:∀ (k:Nat) x u,s.items[k]?=some x->us[k]?=some u->HashU w n0 [] x u
 hd:∀ (k:Nat) u,us[k]?=some u->∀ b,u.ownBlock=some b->∀ j,j<4->(vs j).ownBlock≠some b
 lt:b6<n0/\b9<n0/\b6≠b9
end
section
open Go.RowKit
structure Rnd (b6 b9 nb:Nat) (W W':World):Prop where
 ko:KeepsOthers W W'
 kp:KpK (walkK b6 b9) nb W W'
end
section
open Go.RowKit Go.Shelf
attribute [local go_sem] Oper.semAt_some
theorem elText:ElemK prog 35 9 (.string ⟨#[]⟩) 1 16:=⟨by kernel_rfl,by kernel_rfl,rfl,by decide,by decide⟩
end
section
open Go.RowKit
def whyB (ig:ByteArray->Bool) (x:ByteArray×Nd):Bool:=isTempB x.1||ig x.1||badN x.2
def covB (ig:ByteArray->Bool) (l:Nodes) (p:ByteArray):Bool:=l.any fun y=>withinB p y.1&&whyB ig y
structure Tidy (l:Nodes):Prop where
 sorted:Sorted l
 may:∀ x∈l,mayB x.1=true
structure WalkInv (ig:ByteArray->Bool) (l pre post:Nodes) (s:WSt):Prop where
 items:s.items=pre.filter fun x=>!covB ig l x.1&&!whyB ig x
 temps:s.temps=(pre.filter fun x=>!covB ig l x.1&&isTempB x.1).map (·.1)
 ign:s.ign=(pre.filter fun x=>!covB ig l x.1&&(!isTempB x.1&&ig x.1)).map (·.1)
 bad:s.bad=(pre.filter fun x=>!covB ig l x.1&&(!isTempB x.1&&!ig x.1&&badN x.2)).map (·.1)
 over:s.over.toList.isEmpty=false->∃ y∈pre,y.1=s.over/\whyB ig y=true
 cov:∀ z∈post,covB ig pre z.1=true->s.over.toList.isEmpty=false/\withinB z.1 s.over=true
end
section
open Go.RowKit
end
section
open Go.RowKit
theorem row_cells {w:World} {base m n:Nat} {e:TypeId} {v:Value} {xs:List Value} (h:w.ownsRow base e m v n xs):∃ (a:Option Addr) (cap:Nat),v=.slice a n cap/\n<=cap/\cap<=9223372036854775807/\(a=none->n=0/\cap=0)/\∀ (k:Nat) x,xs[k]?=some x->∃ g,a=some ⟨g,0,none⟩/\base<=g/\g<w.heap.size/\w.cell? ⟨g,k,none⟩=some x:=by
 rcases h.2 with ⟨rfl,rfl⟩ | ⟨g,cap,cur,rfl,hb,hh,h1,h2,h3,h4⟩
 ·refine ⟨none,0,rfl,by omega,by omega,fun _=>⟨rfl,rfl⟩,fun k x hx=>?_⟩;have h1:=(List.getElem?_eq_some_iff.1 hx).1;rw [h.1,Nat.zero_mul] at h1;omega
 ·refine ⟨_,cap,rfl,h1,h2,fun e=>(by cases e),fun k x hx=>⟨g,rfl,hb,ltB hh,?_⟩⟩;refine (cellB hh).trans ?_;rw [<-h4] at hx;rw [List.getElem?_take] at hx;split at hx
  ·rw [<-Array.getElem?_toList];exact hx
  ·cases hx
end
section
open Go.RowKit
end
section
open Go.RowKit
end
end Go.Proofs.YtodickpibbbiiaaGreatDoor
