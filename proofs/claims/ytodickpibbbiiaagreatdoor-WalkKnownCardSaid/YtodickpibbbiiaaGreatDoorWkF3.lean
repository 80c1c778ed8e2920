import Derived.Test.YtodickpibbbiiaaGreatDoorWkF2
import Derived.Test.YtodickpibbbiiaaGreatDoorWkA1
import Derived.Test.YtodickpibbbiiaaGreatDoorWkF1
import Derived.Test.YtodickpibbbiiaaGreatDoorWkE1
import Derived.Test.YtodickpibbbiiaaGreatDoorWkE2
import Derived.Test.YtodickpibbbiiaaGreatDoorWkC3
import Derived.Deep.RegionHeldLaw
open Go.Proofs.Tryz
namespace Go.Proofs.YtodickpibbbiiaaGreatDoor
section
open Go.RowKit
end
section
end
section
open Go.RowKit
end
section
open Go.RowKit
end
section
open Go.RowKit
end
section
open Go.RowKit
end
section
open Go.RowKit
end
section
open Go.RowKit Go.Shelf
attribute [local go_sem] Oper.semAt_some
theorem wpList_store1 {P:Program} {ops:Array Oper} {rest:List Oper} {o:Oper} {a:Act} {Q:Exit->Act->World->Prop} {w:World} (hgd:o.guard=none) (ty:TypeId) (x y:Operand) (ho:o.op=.store ty x y)
  (g k:Nat) (v:Value) (hx:a.eval x=.pointer (some ⟨g,k,none⟩)) (hy:a.eval y=v) (hi:(P.info? ty).map (·.size)=some 1) (h1:v.oneCell'=true)
  (cs:Array Value) (t:TypeId) (hg:w.heap[g]?=some (.cells cs t (0,0))) (hk:k<cs.size)
  (h:∀ w1,w1=w.setCell ⟨g,k,none⟩ v->wpList P ops Q rest (a.put o.dst undef) w1):wpList P ops Q (o::rest) a w:=by
 refine wpList_plain hgd fun K hK=>?_;have h2:=hK _ _ (h _ rfl)
 cases hq:P.info? ty with
 | none=>simp [hq] at hi
 | some i =>
  have hs:i.size=1:=by simpa [hq] using hi
  have hc:w.cell? ⟨g,k,none⟩=some cs[k]:=(cellB hg).trans (Array.getElem?_eq_getElem hk);unfold Oper.wp execOp;simp only [ho,hx,hy,Instr.storeAt,Instr.sureAddr,Sem.run_bind,Sem.run_pure,Result.andThen_ok,Lib.rl_storeVar_one ty i hq hs ⟨g,k,none⟩ v cs[k] h1 w hc (frozenB hg)];exact h2
theorem wpList_storeB {P:Program} {ops:Array Oper} {rest:List Oper} {o:Oper} {a:Act} {Q:Exit->Act->World->Prop} {w:World} (hgd:o.guard=none) (ty:TypeId) (x y:Operand) (ho:o.op=.store ty x y)
  (g:Nat) (v u:Value) (hx:a.eval x=.pointer (some ⟨g,0,none⟩)) (hy:a.eval y=v) (hi:(P.info? ty).map (·.size)=some 1) (h1:v.oneCell'=true)
  (t:TypeId) (hg:w.heap[g]?=some (.cells #[u] t (0,0)))
  (h:∀ w1,w1.heap[g]?=some (.cells #[v] t (0,0))->Touch g w w1->wpList P ops Q rest (a.put o.dst undef) w1):wpList P ops Q (o::rest) a w:=by
 refine wpList_store1 hgd ty x y ho g 0 v hx hy hi h1 #[u] t hg Nat.zero_lt_one fun w1 e=>h w1 ?_ ?_
 ·rw [e,setCellB hg];rfl
 ·rw [e];exact ⟨rfl,rfl,rfl,by unfold World.setCell;simp,fun i _ hne=>setCellO fun e=>hne (by rw [e])⟩
end
section
open Go.RowKit
end
section
open Go.RowKit
end
section
open Go.RowKit
structure FoundR (n0 b6:Nat) (s:WSt) (w:World) (vs:Nat->Value) (us:List Value):Prop where
 blk:w.heap[b6]?=some (.cells #[vs 0,vs 1,vs 2,vs 3] 67 (0,0))
 row:∀ j,j<4->w.ownsRow n0 (rowOf s us j).1 (rowOf s us j).2.1 (vs j) (rowOf s us j).2.2.1 (rowOf s us j).2.2.2
 nd:∀ i j,i<4->j<4->i≠j->∀ b,(vs i).ownBlock=some b->(vs j).ownBlock≠some b
 len:us.length=s.items.length
 hs:∀ (k:Nat) x u,s.items[k]?=some x->us[k]?=some u->HashU w n0 [] x u
 hd:∀ (k:Nat) u,us[k]?=some u->∀ b,u.ownBlock=some b->∀ j,j<4->(vs j).ownBlock≠some b
 lt:b6<n0
theorem wpQuiet_load_ag {P:Program} {ops:Array Oper} {C:World->Prop} {Q:Act->Prop} {a:Act} {o:Oper} {rest:List Oper} (hw:Region.wanted o (yielded ops a.tmps)=true) (ty:TypeId) (x:Operand) (ho:o.op=.load ty x)
  (b off:Nat) (hx:a.eval x=.pointer (some ⟨b,off,none⟩)) (cs:Array Value) (d:TypeDesc) (hc:∀ w,C w->w.rangeAt b off cs.toList)
  (hu:P.underlying ty=some d) (hd:d.isRow=true) (hi:(P.info? ty).map (·.size)=some cs.size)
  (h:wpQuiet P ops C Q rest (a.put o.dst (.agg cs))):wpQuiet P ops C Q (o::rest) a :=
 wpQuiet_step fun K hK=>by
  rw [if_pos hw];refine ⟨.agg cs,fun w hw=>?_,hK _ h⟩;unfold Oper.quietAt execOp;simp only [ho,hx,Instr.loadAt,Instr.sureAddr,Sem.run_bind,Sem.run_pure,Result.andThen_ok,run_loadVar_mid w b off ty cs.toList d (hc w hw) hu hd (by rw [hi];simp)];exact ⟨rfl,by simp⟩
section
variable {P:Program} {ops:Array Oper} {Q:Exit->Act->World->Prop} {md:Region.Mode} {S:World->Prop} {a:Act}
theorem wpAnyH_skip {o:Oper} {i:Nat} {fuel:Nat} {listed:Array Bool} {w w':World} {rest:List Oper} (hr:Region.ready md ops listed=[i]) (hi:ops.toList.drop i=o::rest) (hgd:o.guard=none) (hrun:(execOp a.eval o).run P w=.ok .skip w') (hS:S w')
  (h:wpAnyH P md ops Q S fuel (listed.setIfInBounds i true) (a.put o.dst undef) w'):wpAnyH P md ops Q S (fuel+1) listed a w :=
 wpAnyH_all hr (by simp) fun j hj=>by
  obtain rfl:=List.mem_singleton.1 hj;unfold wpOp;simp only [ops_get hi];rw [if_pos (by simp only [Region.wanted,hgd])];left;unfold Oper.wp;rw [hrun];exact ⟨hS,h⟩
theorem yieldsIf_load_at {o:Oper} (hgd:o.guard=none) (ty:TypeId) (x:Operand) (ho:o.op=.load ty x) (b off:Nat) (hx:a.eval x=.pointer (some ⟨b,off,none⟩)) (cs:Array Value) (d:TypeDesc)
  (hc:∀ w,S w->w.rangeAt b off cs.toList) (hu:P.underlying ty=some d) (hd:d.isRow=true) (hi:(P.info? ty).map (·.size)=some cs.size):YieldsIf P ops S o (.agg cs) a :=
 .inl ⟨by simp only [Region.wanted,hgd],fun w hw=>by
  unfold execOp
  simp only [ho,hx,Instr.loadAt,Instr.sureAddr,Sem.run_bind,Sem.run_pure,Result.andThen_ok,run_loadVar_mid w b off ty cs.toList d (hc w hw) hu hd (by rw [hi];simp)]⟩
theorem run_storeOpT {o:Oper} {w:World} (ty:TypeId) (x y:Operand) (ho:o.op=.store ty x y) (g:Nat) (cells:Array Value) (hx:a.eval x=.pointer (some ⟨g,0,none⟩)) (hy:a.eval y=.agg cells)
  (t:TypeId) (old:Array Value) (hg:w.heap[g]?=some (.cells old t (0,0))) (hi:(P.info? ty).map (·.size)=some cells.size) (hold:old.size=cells.size) (h1:cells.all (·.oneCell')=true) :
  ∃ w1,(execOp a.eval o).run P w=.ok .skip w1/\w1.heap[g]?=some (.cells cells t (0,0))/\Touch g w w1:=by
 refine ⟨_,?_,setRow_heap _ _ _ _ _ _ hg,⟨rfl,rfl,rfl,by rw [setRow_size];exact Nat.le_refl _,fun i _ hne=>setRow_other _ _ _ _ fun e=>hne (by rw [e])⟩⟩;unfold execOp;simp only [ho,hx,hy,Instr.storeAt,Instr.sureAddr,Sem.run_bind,Sem.run_pure,Result.andThen_ok,run_storeVar_row w g t ty old cells hg hi hold h1]
end
theorem run_allocOp {P:Program} {o:Oper} {a:Act} (t:TypeId) (ho:o.op=.alloc t) (w:World) (cells:Array Value) (ie:TypeInfo) (hi:P.info? t=some ie) (hz:ie.zero=some (.agg cells)):(execOp a.eval o).run P w=.ok (.value (.pointer (some ⟨w.heap.size,0,none⟩))) (w.alloc (.cells cells t)):=by
 unfold execOp;simp [ho,Instr.alloc,zeroValue,typeInfo,hi,hz,newVar,newRow,Value.cells]
theorem wpAnyH_storeT {P:Program} {ops:Array Oper} {Q:Exit->Act->World->Prop} {md:Region.Mode} {S:World->Prop} {a:Act} {o:Oper} {i:Nat} {fuel:Nat} {listed:Array Bool} {w:World} {rest:List Oper} (hr:Region.ready md ops listed=[i]) (hi:ops.toList.drop i=o::rest) (hgd:o.guard=none)
  (ty:TypeId) (x y:Operand) (ho:o.op=.store ty x y) (g:Nat) (cells:Array Value) (hx:a.eval x=.pointer (some ⟨g,0,none⟩)) (hy:a.eval y=.agg cells)
  (t:TypeId) (old:Array Value) (hg:w.heap[g]?=some (.cells old t (0,0))) (hif:(P.info? ty).map (·.size)=some cells.size) (hold:old.size=cells.size) (h1:cells.all (·.oneCell')=true)
  (h:∀ w1,w1.heap[g]?=some (.cells cells t (0,0))->Touch g w w1->S w1/\wpAnyH P md ops Q S fuel (listed.setIfInBounds i true) (a.put o.dst undef) w1):wpAnyH P md ops Q S (fuel+1) listed a w:=by
 obtain ⟨w1,h2,h3,h4⟩:=run_storeOpT (P:=P) (a:=a) (o:=o) ty x y ho g cells hx hy t old hg hif hold h1;obtain ⟨h5,h6⟩:=h w1 h3 h4;exact wpAnyH_skip hr hi hgd h2 h5 h6
end
section
open Go.RowKit Go.Shelf
attribute [local go_sem] Oper.semAt_some
structure Seen (D:Dk) (root:ByteArray) (re:Int) (L:Nodes):Prop where
 ok:re=0->root.size<=160/\rootE D.live root=0/\L=eachL D root
 no:re≠0->L=[]
end
section
open Go.RowKit Go.Shelf
attribute [local go_sem] Oper.semAt_some
theorem results_bool {fn:Func} {p:Tmp} (h:fn.results=#[.cell p 4]) (tmps:Array Value) (w:World) (g:Nat) (b:Bool) (t:TypeId) (fr:Nat×Nat)
  (hp:tmps.getD p undef=.pointer (some ⟨g,0,none⟩)) (hg:w.heap[g]?=some (.cells #[.bool b] t fr)):(results fn tmps).run prog w=.ok (.bool b) w:=by
 have hp':tmps[p]?.getD undef=.pointer (some ⟨g,0,none⟩):=by simpa using hp
 have hc:w.cell? ⟨g,0,none⟩=some (.bool b):=cellB hg;simp [results,h,hp',asAddr,loadVar,go_sem,hc]
end
end Go.Proofs.YtodickpibbbiiaaGreatDoor
