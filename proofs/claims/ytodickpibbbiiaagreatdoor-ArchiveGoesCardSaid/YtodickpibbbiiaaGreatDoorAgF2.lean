import Derived.Test.YtodickpibbbiiaaGreatDoorAgF1
import Derived.Test.YtodickpibbbiiaaGreatDoorAgB1
import Derived.Test.YtodickpibbbiiaaGreatDoorAgA1
import Derived.Test.YtodickpibbbiiaaGreatDoorAgE1
import Derived.Test.YtodickpibbbiiaaGreatDoorAgD2
import Derived.Test.YtodickpibbbiiaaGreatDoorAgE2
import Derived.Test.YtodickpibbbiiaaGreatDoorAgC3
import Derived.Laws.AppendOwnNone
import Derived.Deep.RegionHeldLaw
open Go.Proofs.Tryz
namespace Go.Proofs.YtodickpibbbiiaaGreatDoor
open Go.RowKit
section
end
section
theorem append_lots {P:Program} {ops:Array Oper} {rest:List Oper} {o:Oper} {a:Act} {Q:Exit->Act->World->Prop} {w:World} {t e:TypeId} {z:Value} {bytes:Nat} (el:Elem P t e z bytes)
  (base:Nat) (v:Value) (n:Nat) (xs:List Value) (hown:w.ownsRow base e 1 v n xs) (ad:Option Addr) (m c:Nat) (us:List Value) (s x:Operand)
  (hgd:o.guard=none) (ho:o.op=.call { callee:=.builtin .append,args:=#[s,x],argTypes:=#[t,t] })
  (hs:a.eval s=v) (hx:a.eval x=.slice ad m c) (hl:us.length=m) (hz:ad=none->m=0/\c=0) (hnew:0<m->∃ g k,ad=some ⟨g,k,none⟩/\∀ (j:Nat) u,us[j]?=some u->w.cell? ⟨g,k+j,none⟩=some u) (h1:∀ u∈us,u.oneCell'=true) (hn:n+m<=68719476736) (hbase:base<=w.heap.size)
  (h:∀ v' w',w'.ownsRow base e 1 v' (n+m) (xs++us)->w.grownBy w' v.ownBlock->wpList P ops Q rest (a.put o.dst v') w'):wpList P ops Q (o::rest) a w:=by
 obtain ⟨i,hi,hz0,hsz,hby⟩:=info_parts el.info;have hf:=el.few
 cases ad with
 | none =>
  obtain ⟨rfl,rfl⟩:=hz rfl;have:us=[]:=List.length_eq_zero_iff.1 hl;subst this;refine wpList_append_own_none hgd s x t ho base e i 1 el.ut hi v n xs hs hown hx ?_;exact h v w (by simpa using hown) ⟨rfl,rfl,rfl,Nat.le_refl _,fun _ _ _=>rfl⟩
 | some A =>
  refine wpList_append_own w hgd s x t ho base e i z 1 bytes el.ut hi hz0 hsz hby el.one (by decide) v n xs hs hown A m c us hx (by omega) ?_ h1 ?_ ?_ hbase ?_
  ·intro j u hj;obtain ⟨g,k,e1,e2⟩:=hnew (by have:=(List.getElem?_eq_some_iff.1 hj).1;omega);injection e1 with e1
   subst e1
   rw [show (⟨g,k,none⟩:Addr).add j=⟨g,k+j,none⟩ from by
    unfold Addr.add;split
    ·rename_i h;subst h;rfl
    ·rfl]
   exact e2 j u hj
  ·unfold maxLen;omega
  ·have:(n+m)*bytes<=(n+m)*1024:=Nat.mul_le_mul_left _ hf;omega
  ·intro v' w' h2 h3 _;exact h v' w' h2 h3
end
section
end
section
end
section
end
section
end
section
end
section
end
section
end
section
end
section
end
section
structure PutR where
 kind:Int
 p:ByteArray
 text:ByteArray
 long:Int
 time:Int
structure PutOk (x:PutR):Prop where
 kind:IntKind.i64.min<=x.kind/\x.kind<=IntKind.i64.max
 long:IntKind.i64.min<=x.long/\x.long<=IntKind.i64.max
 p:x.p.size<=reach
 text:x.text.size<=reach
end
section
structure RunF (k:Nat) (D:Dk):Prop where
 run:DkRun k D
 fl:Fl D
end
section
end
section
end
section
end
section
end
section
structure FoundR (n0 b6:Nat) (s:WSt) (w:World) (vs:Nat->Value) (us:List Value):Prop where
 blk:w.heap[b6]?=some (.cells #[vs 0,vs 1,vs 2,vs 3] 67 (0,0))
 row:∀ j,j<4->w.ownsRow n0 (rowOf s us j).1 (rowOf s us j).2.1 (vs j) (rowOf s us j).2.2.1 (rowOf s us j).2.2.2
 nd:∀ i j,i<4->j<4->i≠j->∀ b,(vs i).ownBlock=some b->(vs j).ownBlock≠some b
 len:us.length=s.items.length
 hs:∀ (k:Nat) x u,s.items[k]?=some x->us[k]?=some u->HashU w n0 [] x u
 hd:∀ (k:Nat) u,us[k]?=some u->∀ b,u.ownBlock=some b->∀ j,j<4->(vs j).ownBlock≠some b
 lt:b6<n0
theorem wpQuiet_load_ag {P:Program} {ops:Array Oper} {C:World->Prop} {Q:Act->Prop} {a:Act} {o:Oper} {rest:List Oper} (hw:Region.wanted o (yielded ops a.tmps)=true) (ty:TypeId) (x:Operand) (ho:o.op=.load ty x)
  (b off:Nat) (hx:a.eval x=.pointer (some ⟨b,off,none⟩)) (cs:Array Value) (d:TypeDesc) (hc:∀ w,C w->w.rangeAt b off cs.toList)
  (hu:P.underlying ty=some d) (hd:d.isRow=true) (hi:(P.info? ty).map (·.size)=some cs.size)
  (h:wpQuiet P ops C Q rest (a.put o.dst (.agg cs))):wpQuiet P ops C Q (o::rest) a :=
 wpQuiet_step fun K hK=>by
  rw [if_pos hw];refine ⟨.agg cs,fun w hw=>?_,hK _ h⟩;unfold Oper.quietAt execOp;simp only [ho,hx,Instr.loadAt,Instr.sureAddr,Sem.run_bind,Sem.run_pure,Result.andThen_ok,run_loadVar_mid w b off ty cs.toList d (hc w hw) hu hd (by rw [hi];simp)];exact ⟨rfl,by simp⟩
section
variable {P:Program} {ops:Array Oper} {Q:Exit->Act->World->Prop} {md:Region.Mode} {S:World->Prop} {a:Act}
theorem wpAnyH_skip {o:Oper} {i:Nat} {fuel:Nat} {listed:Array Bool} {w w':World} {rest:List Oper} (hr:Region.ready md ops listed=[i]) (hi:ops.toList.drop i=o::rest) (hgd:o.guard=none) (hrun:(execOp a.eval o).run P w=.ok .skip w') (hS:S w')
  (h:wpAnyH P md ops Q S fuel (listed.setIfInBounds i true) (a.put o.dst undef) w'):wpAnyH P md ops Q S (fuel+1) listed a w :=
 wpAnyH_all hr (by simp) fun j hj=>by
  obtain rfl:=List.mem_singleton.1 hj;unfold wpOp;simp only [ops_get hi];rw [if_pos (by simp only [Region.wanted,hgd])];left;unfold Oper.wp;rw [hrun];exact ⟨hS,h⟩
theorem run_storeOpT {o:Oper} {w:World} (ty:TypeId) (x y:Operand) (ho:o.op=.store ty x y) (g:Nat) (cells:Array Value) (hx:a.eval x=.pointer (some ⟨g,0,none⟩)) (hy:a.eval y=.agg cells)
  (t:TypeId) (old:Array Value) (hg:w.heap[g]?=some (.cells old t (0,0))) (hi:(P.info? ty).map (·.size)=some cells.size) (hold:old.size=cells.size) (h1:cells.all (·.oneCell')=true) :
  ∃ w1,(execOp a.eval o).run P w=.ok .skip w1/\w1.heap[g]?=some (.cells cells t (0,0))/\Touch g w w1:=by
 refine ⟨_,?_,setRow_heap _ _ _ _ _ _ hg,⟨rfl,rfl,rfl,by rw [setRow_size];exact Nat.le_refl _,fun i _ hne=>setRow_other _ _ _ _ fun e=>hne (by rw [e])⟩⟩;unfold execOp;simp only [ho,hx,hy,Instr.storeAt,Instr.sureAddr,Sem.run_bind,Sem.run_pure,Result.andThen_ok,run_storeVar_row w g t ty old cells hg hi hold h1]
end
theorem wpList_buildOne {P:Program} {ops:Array Oper} {rest:List Oper} {a:Act} {Q:Exit->Act->World->Prop} {w:World} {t e:TypeId} {z:Value} {k bytes:Nat} (el:ElemK P t e z k bytes) (hk:k<=1000) {o:Oper} (hg:o.guard=none) (x:Operand)
  (ho:o.op=.buildSlice t 1 #[(0,x)]) (C:Array Value) (hx:a.eval x=.agg C) (hC:C.size=k) (h:wpList P ops Q rest (a.put o.dst (.slice (some ⟨w.heap.size,0,none⟩) 1 1)) (w.alloc (.cells C e))):wpList P ops Q (o::rest) a w:=by
 obtain ⟨i,hi,hz,hs,_⟩:=info_parts el.info;have hp:=el.pos;refine wpList_buildSlice hg t e 1 #[(0,x)] ho C i z el.ut hi hz (by rw [hs];omega) (by rw [hs];omega) ?_ h;have h1:=Go.Great.fill_whole (s:=i.size) (by rw [hs];exact hp) [.agg C] ((Array.range (1*i.size)).map (z.cells[· % z.cells.size]!)) (fun v hv=>by rw [List.mem_singleton.1 hv,hs];exact hC) (by simp);have h2:((#[(0,x)]:Array (Nat×Operand)).map fun (i,x)=>(i,a.eval x)).toList=(([.agg C]:List Value).zipIdx 0).map fun x=>(x.2,x.1):=by simp [hx]
 rw [h2,h1];simp [Value.cells]
theorem wpAnyH_storeT {P:Program} {ops:Array Oper} {Q:Exit->Act->World->Prop} {md:Region.Mode} {S:World->Prop} {a:Act} {o:Oper} {i:Nat} {fuel:Nat} {listed:Array Bool} {w:World} {rest:List Oper} (hr:Region.ready md ops listed=[i]) (hi:ops.toList.drop i=o::rest) (hgd:o.guard=none)
  (ty:TypeId) (x y:Operand) (ho:o.op=.store ty x y) (g:Nat) (cells:Array Value) (hx:a.eval x=.pointer (some ⟨g,0,none⟩)) (hy:a.eval y=.agg cells)
  (t:TypeId) (old:Array Value) (hg:w.heap[g]?=some (.cells old t (0,0))) (hif:(P.info? ty).map (·.size)=some cells.size) (hold:old.size=cells.size) (h1:cells.all (·.oneCell')=true)
  (h:∀ w1,w1.heap[g]?=some (.cells cells t (0,0))->Touch g w w1->S w1/\wpAnyH P md ops Q S fuel (listed.setIfInBounds i true) (a.put o.dst undef) w1):wpAnyH P md ops Q S (fuel+1) listed a w:=by
 obtain ⟨w1,h2,h3,h4⟩:=run_storeOpT (P:=P) (a:=a) (o:=o) ty x y ho g cells hx hy t old hg hif hold h1;obtain ⟨h5,h6⟩:=h w1 h3 h4;exact wpAnyH_skip hr hi hgd h2 h5 h6
end
end Go.Proofs.YtodickpibbbiiaaGreatDoor
