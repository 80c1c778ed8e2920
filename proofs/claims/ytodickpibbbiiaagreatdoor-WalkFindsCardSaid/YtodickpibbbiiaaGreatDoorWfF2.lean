import Derived.Test.YtodickpibbbiiaaGreatDoorWfF1
import Derived.Test.YtodickpibbbiiaaGreatDoorWfB1
import Derived.Test.YtodickpibbbiiaaGreatDoorWfA1
import Derived.Test.YtodickpibbbiiaaGreatDoorWfC3
import Derived.Test.YtodickpibbbiiaaGreatDoorShelf
import Derived.OwnWalkIn
import Derived.Great.BuildSlice
import Derived.Lib.ReflectliteSwap
import Derived.Laws.AppendOwnNone
import Derived.Deep.RegionHeldLaw
open Go.Proofs.Tryz
namespace Go.Proofs.YtodickpibbbiiaaGreatDoor
open Go.RowKit
section
theorem KpK.ext {K:World->List Nat} {nb n0:Nat} (hK:Reads K n0) {W W':World} (x:Ext W W') (h0:n0<=W.heap.size) (hb:nb<=W.heap.size):KpK K nb W W' :=
 ⟨Below.mono x hb,fun _ _ ho _ _=>(x.block (ltB ho)).trans ho,fun b hm=>.inl (by rw [hK W W' fun b hb=>x.block (by omega)] at hm;exact hm)⟩
theorem ko_ext {W W':World} (x:Ext W W'):KeepsOthers W W':=⟨x.size,fun _ _ ho _=>(x.block (ltB ho)).trans ho⟩
theorem rowOf_over (s:WSt) (p:ByteArray) (us:List Value) (j:Nat):rowOf { s with over:=p } us j=rowOf s us j:=by
 match j with
 | 0=>rfl
 | 1=>rfl
 | 2=>rfl
 | _+3=>rfl
theorem FoundIn.k {n0 b6 b9:Nat} {s:WSt} {w:World} {vs:Nat->Value} {us:List Value} (h:FoundIn n0 b6 b9 s w vs us):walkK b6 b9 w=[b6,b9]++(rowB (vs 0)++rowB (vs 1)++rowB (vs 2)++rowB (vs 3)):=by
 unfold walkK;rw [h.blk];rfl
theorem FoundIn.mem_k {n0 b6 b9:Nat} {s:WSt} {w:World} {vs:Nat->Value} {us:List Value} (h:FoundIn n0 b6 b9 s w vs us) (b:Nat):b∈walkK b6 b9 w↔b=b6\/b=b9\/∃ j,j<4/\(vs j).ownBlock=some b:=by
 rw [h.k];simp only [List.mem_append,List.mem_cons,List.not_mem_nil,or_false,mem_rowB];constructor
 ·rintro ((h | h) | ((h | h) | h) | h)
  ·exact .inl h
  ·exact .inr (.inl h)
  ·exact .inr (.inr ⟨0,by omega,h⟩)
  ·exact .inr (.inr ⟨1,by omega,h⟩)
  ·exact .inr (.inr ⟨2,by omega,h⟩)
  ·exact .inr (.inr ⟨3,by omega,h⟩)
 ·rintro (h | h | ⟨j,hj,h⟩)
  ·exact .inl (.inl h)
  ·exact .inl (.inr h)
  ·match j,hj with
   | 0,_=>exact .inr (.inl (.inl (.inl h)))
   | 1,_=>exact .inr (.inl (.inl (.inr h)))
   | 2,_=>exact .inr (.inl (.inr h))
   | 3,_=>exact .inr (.inr h)
structure Rnd (b6 b9 nb:Nat) (W W':World):Prop where
 ko:KeepsOthers W W'
 kp:KpK (walkK b6 b9) nb W W'
theorem Rnd.trans {b6 b9 nb:Nat} {A B C:World} (h:Rnd b6 b9 nb A B) (k:Rnd b6 b9 nb B C):Rnd b6 b9 nb A C:=⟨h.ko.trans k.ko,h.kp.trans k.kp⟩
theorem Rnd.ext {b6 b9 nb:Nat} {W W':World} (x:Ext W W') (h6:b6<W.heap.size) (hb:nb<=W.heap.size):Rnd b6 b9 nb W W':=⟨ko_ext x,KpK.ext (walkK_reads (b9:=b9) (n0:=b6+1) (by omega)) x (by omega) hb⟩
theorem HashU.kept {w w':World} {n0:Nat} {x:ByteArray×Nd} {u:Value} (h:HashU w n0 [] x u) (k:∀ b,u.ownBlock=some b->w'.heap[b]?=w.heap[b]?):HashU w' n0 [] x u:=by
 rcases h with h1 | ⟨h1,h2,h3,h4⟩
 ·exact .inl h1
 ·exact .inr ⟨h1,h2,owns_blocks h3 k,h4⟩
theorem HashU.own {w:World} {n0:Nat} {x:ByteArray×Nd} {u:Value} (h:HashU w n0 [] x u) (b:Nat) (hb:u.ownBlock=some b):n0<=b/\b<w.heap.size:=by
 rcases h with ⟨_,rfl⟩ | ⟨_,_,h3,_⟩
 ·simp [Value.ownBlock] at hb
 ·exact ⟨own_ge h3 b hb,own_lt h3 b hb⟩
theorem FoundIn.kept {n0 b6 b9:Nat} {s:WSt} {w w':World} {vs:Nat->Value} {us:List Value} (h:FoundIn n0 b6 b9 s w vs us) (k:∀ b,b<w.heap.size->(∃ c t f,w.heap[b]?=some (.cells c t f))->w'.heap[b]?=w.heap[b]?):FoundIn n0 b6 b9 s w' vs us:=by
 have kr:∀ {e:TypeId} {m n:Nat} {v:Value} {xs:List Value},w.ownsRow n0 e m v n xs->∀ b,v.ownBlock=some b->w'.heap[b]?=w.heap[b]?:=fun {e m n v xs} hr b hb=>by
  refine k b (own_lt hr b hb) ?_;rcases hr.2 with ⟨he,_⟩ | ⟨g,cap,cur,he,_,hh,_⟩
  ·rw [he] at hb;simp [Value.ownBlock] at hb
  ·rw [he] at hb;simp [Value.ownBlock] at hb;subst hb;exact ⟨_,_,_,hh⟩
 refine ⟨(k b6 (ltB h.blk) ⟨_,_,_,h.blk⟩).trans h.blk,(k b9 (ltB h.over) ⟨_,_,_,h.over⟩).trans h.over,fun j hj=>owns_blocks (h.row j hj) (kr (h.row j hj)),h.nd,h.len,fun i x u hx hu=>?_,h.hd,h.lt⟩;rcases h.hs i x u hx hu with h1 | ⟨h1,h2,h3,h4⟩
 ·exact .inl h1
 ·exact .inr ⟨h1,h2,owns_blocks h3 (kr h3),h4⟩
theorem FoundIn.ext {n0 b6 b9:Nat} {s:WSt} {w w':World} {vs:Nat->Value} {us:List Value} (h:FoundIn n0 b6 b9 s w vs us) (x:Ext w w'):FoundIn n0 b6 b9 s w' vs us:=h.kept fun _ hb _=>x.block hb
theorem FoundIn.setOver {n0 b6 b9 nb:Nat} {s:WSt} {w:World} {vs:Nat->Value} {us:List Value} (h:FoundIn n0 b6 b9 s w vs us) (p:ByteArray) (hb:nb<=b9) :
  FoundIn n0 b6 b9 { s with over:=p } (w.setCell ⟨b9,0,none⟩ (.string p)) vs us/\Rnd b6 b9 nb w (w.setCell ⟨b9,0,none⟩ (.string p)):=by
 have hne:=h.lt.2.2;have ho:∀ b,b≠b9->(w.setCell ⟨b9,0,none⟩ (.string p)).heap[b]?=w.heap[b]?:=fun b hb=>setCellO hb;have h9:=setCellB (k:=0) (u:=.string p) h.over;have hl9:=ltB h.over;have c:Chg [b9] w (w.setCell ⟨b9,0,none⟩ (.string p)):=Chg.setCell w ⟨b9,0,none⟩ _ (by simp);refine ⟨⟨(ho b6 hne).trans h.blk,h9,fun j hj=>?_,h.nd,h.len,fun i x u hx hu=>(h.hs i x u hx hu).kept fun b hb=>?_,h.hd,h.lt⟩,⟨c.size,fun k o hk hc=>?_⟩,⟨c.os,c.tape,c.output,c.size,fun k hk=>?_⟩,fun b o hbo hs hn=>?_,fun b hm=>.inl ?_⟩
 ·rw [rowOf_over];exact owns_blocks (h.row j hj) fun b hb=>ho b (by have:=(h.below j hj b hb).1;have:=h.lt.2.1;omega)
 ·exact ho b (by have:=((h.hs i x u hx hu).own b hb).1;have:=h.lt.2.1;omega)
 ·refine (ho k fun e=>?_).trans hk;subst e;rw [h.over] at hk
  cases hk
  cases hc
 ·exact ho k (by omega)
 ·refine (ho b fun e=>hn ?_).trans hbo;rw [h.k,e];simp
 ·unfold walkK at hm ⊢;rw [ho b6 hne] at hm;exact hm
theorem FoundIn.addR {n0 b6 b9 nb:Nat} {s:WSt} {w w1:World} {vs:Nat->Value} {us:List Value} {v':Value} {j:Nat} (h:FoundIn n0 b6 b9 s w vs us) (hj:j<4)
  (hg:w.grownBy w1 (vs j).ownBlock) (hw:v'.ownBlock=(vs j).ownBlock\/v'.ownBlock=some w.heap.size) (hb:nb<=b6) (hb2:nb<=n0):Rnd b6 b9 nb w (w1.setCell ⟨b6,j,none⟩ v'):=by
 have hb6:b6<w.heap.size:=ltB h.blk
 have c:Chg (b6::rowB (vs j)) w (w1.setCell ⟨b6,j,none⟩ v') :=
  ((Chg.grownO hg (F:=rowB (vs j)) fun b hb=>.inl (mem_rowB.2 hb)).mono (fun x hx=>List.mem_cons_of_mem _ hx)).trans (Chg.setCell w1 ⟨b6,j,none⟩ v' (F:=[b6]) (by simp)) fun x hx=>.inl (by rw [List.mem_singleton.1 hx];simp)
 have h6j:(vs j).ownBlock≠some b6:=fun e=>by have:=(h.below j hj b6 e).1;have:=h.lt.1;omega
 have hb61:w1.heap[b6]?=some (.cells #[vs 0,vs 1,vs 2,vs 3] 37 (0,0)):=(hg.block b6 hb6 fun e=>h6j e.symm).trans h.blk;refine ⟨⟨c.size,fun k o hk hc=>?_⟩,⟨c.os,c.tape,c.output,c.size,fun k hk=>c.block k (by omega) fun hm=>?_⟩,fun b o hbo hs hn=>?_,fun b hm=>?_⟩
 ·refine (c.block k (ltB hk) fun hm=>?_).trans hk;rcases List.mem_cons.1 hm with e | e
  ·subst e;rw [h.blk] at hk
   cases hk
   cases hc
  ·have e:=mem_rowB.1 e;rcases (h.row j hj).2 with ⟨he,_⟩ | ⟨g,cap,cur,he,_,hh,_⟩
   ·rw [he] at e;simp [Value.ownBlock] at e
   ·rw [he] at e;simp [Value.ownBlock] at e;subst e;rw [hh] at hk
    cases hk
    cases hc
 ·rcases List.mem_cons.1 hm with e | e
  ·omega
  ·have:=(h.below j hj k (mem_rowB.1 e)).1;omega
 ·refine (c.block b (ltB hbo) fun hm=>hn ?_).trans hbo;rw [h.mem_k];rcases List.mem_cons.1 hm with e | e
  ·exact .inl e
  ·exact .inr (.inr ⟨j,hj,mem_rowB.1 e⟩)
 ·rw [h.mem_k];have h1:=setCellB (k:=j) (u:=v') hb61;unfold walkK at hm;rw [h1] at hm
  have key:∀ i,i<4->((fun i=>if i=j then v' else vs i) i).ownBlock=some b->(b=b6\/b=b9\/∃ j,j<4/\(vs j).ownBlock=some b)\/w.heap.size<=b:=fun i hi hb=>by
   by_cases e:i=j
   ·simp only [e,if_true] at hb;rcases hw with e2 | e2
    ·rw [hb] at e2;exact .inl (.inr (.inr ⟨j,hj,e2.symm⟩))
    ·rw [hb] at e2;exact .inr (by rw [Option.some.inj e2];exact Nat.le_refl _)
   ·simp only [if_neg e] at hb;exact .inl (.inr (.inr ⟨i,hi,hb⟩))
  rcases List.mem_append.1 hm with hm | hm
  ·simp only [List.mem_cons,List.not_mem_nil,or_false] at hm;exact .inl (hm.elim .inl fun e=>.inr (.inl e))
  ·have hcs:(#[vs 0,vs 1,vs 2,vs 3]:Array Value).setIfInBounds j v'=#[(fun i=>if i=j then v' else vs i) 0,(fun i=>if i=j then v' else vs i) 1,(fun i=>if i=j then v' else vs i) 2,(fun i=>if i=j then v' else vs i) 3]:=by
    match j,hj with
    | 0,_=>rfl
    | 1,_=>rfl
    | 2,_=>rfl
    | 3,_=>rfl
   dsimp only at hm;rw [hcs] at hm;unfold foundB at hm;simp only [List.mem_append,mem_rowB] at hm;rcases hm with ((hm | hm) | hm) | hm
   ·exact key 0 (by omega) hm
   ·exact key 1 (by omega) hm
   ·exact key 2 (by omega) hm
   ·exact key 3 (by omega) hm
theorem FoundIn.own {β:Type} {n0 b6 b9 b5 B:Nat} {w0:World} {o5:Array Value} {t5:TypeId} {f5:Nat×Nat} (S:β->WSt) (hB:w0.heap.size<=B) :
  OwnFrom B (fun pre W=>∃ vs us,Hid (FoundIn n0 b6 b9 (S pre) W vs us/\Ext w0 W/\W.heap[b5]?=some (.cells o5 t5 f5))):=by
 rintro pre W W' row ⟨vs,us,h,x,h5⟩ hg hr
 have key:∀ (b:Nat) (c:Array Value) (t:TypeId) (f:Nat×Nat),W.heap[b]?=some (Obj.cells c t f)->W'.heap[b]?=W.heap[b]?:=fun b c t f hc=>hg.block b (ltB hc) fun e=>by
  obtain ⟨_,o,ho,hn⟩:=hr b e.symm;rw [hc] at ho
  cases ho
  cases hn
 exact ⟨vs,us,h.kept fun b hb ⟨c,t,f,hc⟩=>key b c t f hc,x.grown hg x.size fun k e=>Nat.le_trans hB (hr k e).1,(key _ _ _ _ h5).trans h5⟩
theorem Rnd.keep {n0 b6 b9 nb b5:Nat} {s:WSt} {W W':World} {vs:Nat->Value} {us:List Value} {o5:Array Value} {t5:TypeId} {f5:Nat×Nat} (h:Rnd b6 b9 nb W W') (hF:FoundIn n0 b6 b9 s W vs us) (h5:W.heap[b5]?=some (.cells o5 t5 f5)) (hn:b5<n0) (h6:b5≠b6) (h9:b5≠b9):W'.heap[b5]?=some (.cells o5 t5 f5):=by
 refine h.kp.same b5 _ h5 (.inl rfl) fun hm=>?_;rcases (hF.mem_k b5).1 hm with e | e | ⟨j,hj,e⟩
 ·exact h6 e
 ·exact h9 e
 ·have:=(hF.below j hj b5 e).1;omega
def addT (s:WSt) (p:ByteArray):Nat->WSt
 | 1=>{ s with temps:=s.temps++[p] }
 | 2=>{ s with ign:=s.ign++[p] }
 | _=>{ s with bad:=s.bad++[p] }
theorem FoundIn.addText {n0 b6 b9:Nat} {s:WSt} {w w1:World} {vs:Nat->Value} {us:List Value} {v':Value} {j:Nat} (h:FoundIn n0 b6 b9 s w vs us) (h1:1<=j) (hj:j<4) (p:ByteArray)
  (hr:w1.ownsRow n0 9 1 v' ((rowOf s us j).2.2.1+1) ((rowOf s us j).2.2.2++[.string p])) (hg:w.grownBy w1 (vs j).ownBlock) (hw:v'.ownBlock=(vs j).ownBlock\/v'.ownBlock=some w.heap.size) :
  FoundIn n0 b6 b9 (addT s p j) (w1.setCell ⟨b6,j,none⟩ v') (fun i=>if i=j then v' else vs i) us:=by
 have hd:∀ (k:Nat) u,us[k]?=some u->∀ b,u.ownBlock=some b->b<w.heap.size/\∀ i,i<4->(vs i).ownBlock≠some b:=fun k u hu b hb=>by
  have hk:k<s.items.length:=by rw [<-h.len];exact (List.getElem?_eq_some_iff.1 hu).1
  exact ⟨((h.hs k _ u (List.getElem?_eq_getElem hk) hu).own b hb).2,h.hd k u hu b hb⟩
 have h3:j=1\/j=2\/j=3:=by omega
 rcases h3 with rfl | rfl | rfl
 ·exact h.add (s':=addT s p 1) (j:=1) (by omega) hr hg hw (by simp [rowOf,addT]) (fun i hi hne=>by rcases (by omega:i=0\/i=2\/i=3) with rfl | rfl | rfl <;> rfl) rfl h.len h.hs hd
 ·exact h.add (s':=addT s p 2) (j:=2) (by omega) hr hg hw (by simp [rowOf,addT]) (fun i hi hne=>by rcases (by omega:i=0\/i=1\/i=3) with rfl | rfl | rfl <;> rfl) rfl h.len h.hs hd
 ·exact h.add (s':=addT s p 3) (j:=3) (by omega) hr hg hw (by simp [rowOf,addT]) (fun i hi hne=>by rcases (by omega:i=0\/i=1\/i=2) with rfl | rfl | rfl <;> rfl) rfl h.len h.hs hd
theorem rowsU_snoc {l:Nodes} {us:List Value} (h:us.length=l.length) (x:ByteArray×Nd) (u:Value):rowsU (l++[x]) (us++[u])=rowsU l us++itemU x u:=by
 unfold rowsU;rw [List.zip_append h.symm];simp
theorem FoundIn.addItem {n0 b6 b9:Nat} {s:WSt} {w w1:World} {vs:Nat->Value} {us:List Value} {v' u:Value} (h:FoundIn n0 b6 b9 s w vs us) (x:ByteArray×Nd)
  (hr:w1.ownsRow n0 45 27 v' (s.items.length+1) (rowsU s.items us++itemU x u)) (hg:w.grownBy w1 (vs 0).ownBlock) (hw:v'.ownBlock=(vs 0).ownBlock\/v'.ownBlock=some w.heap.size)
  (hu:HashU w n0 [] x u) (hun:∀ b,u.ownBlock=some b->∀ i,i<4->(vs i).ownBlock≠some b) :
  FoundIn n0 b6 b9 { s with items:=s.items++[x] } (w1.setCell ⟨b6,0,none⟩ v') (fun i=>if i=0 then v' else vs i) (us++[u]):=by
 have snoc:∀ {α:Type} {l:List α} {k:Nat} {a y:α},(l++[a])[k]?=some y->l[k]?=some y\/(k=l.length/\y=a):=fun {α l k a y} hk=>by
  rcases Nat.lt_trichotomy k l.length with h | h | h
  ·rw [List.getElem?_append_left h] at hk;exact .inl hk
  ·subst h;simp at hk;exact .inr ⟨rfl,hk.symm⟩
  ·rw [List.getElem?_append_right (by omega)] at hk;rw [List.getElem?_eq_none (by simp;omega)] at hk
   cases hk
 refine h.add (s':={ s with items:=s.items++[x] }) (j:=0) (news:=itemU x u) (by omega) hr hg hw ?_ (fun i hi hne=>by rcases (by omega:i=1\/i=2\/i=3) with rfl | rfl | rfl <;> rfl) rfl (by simp [h.len]) (fun k y z hy hz=>?_) (fun k z hz b hb=>?_)
 ·simp [rowOf,rowsU_snoc h.len]
 ·rcases snoc hz with hz | ⟨hk,rfl⟩
  ·rcases snoc hy with hy | ⟨hk,rfl⟩
   ·exact h.hs k y z hy hz
   ·have:=(List.getElem?_eq_some_iff.1 hz).1;have:=h.len;omega
  ·rcases snoc hy with hy | ⟨_,rfl⟩
   ·have:=(List.getElem?_eq_some_iff.1 hy).1;have:=h.len;omega
   ·exact hu
 ·rcases snoc hz with hz | ⟨hk,rfl⟩
  ·have hk:k<s.items.length:=by rw [<-h.len];exact (List.getElem?_eq_some_iff.1 hz).1
   exact ⟨((h.hs k _ z (List.getElem?_eq_getElem hk) hz).own b hb).2,h.hd k z hz b hb⟩
  ·exact ⟨(hu.own b hb).2,hun b hb⟩
def WSt.total (s:WSt):Nat:=s.items.length+s.temps.length+s.ign.length+s.bad.length
theorem stepW_total (ig:ByteArray->Bool) (s:WSt) (x:ByteArray×Nd):(stepW ig s x).total<=s.total+1:=by
 unfold stepW WSt.total;split
 ·omega
 ·split
  ·simp;omega
  ·split
   ·simp;omega
   ·split
    ·simp;omega
    ·simp;omega
theorem walkS_total (ig:ByteArray->Bool) (pre:Nodes):(walkS ig pre).total<=pre.length:=by
 have key:∀ (l:Nodes) (s:WSt),(l.foldl (stepW ig) s).total<=s.total+l.length:=by
  intro l
  induction l with
  | nil=>intro s;simp
  | cons x r ih =>
   intro s;have h1:=ih (stepW ig s x);have h2:=stepW_total ig s x;rw [List.foldl_cons,List.length_cons];omega
 have:=key pre wst0;have h0:wst0.total=0:=rfl;unfold walkS;omega
theorem rowOf_le (s:WSt) (us:List Value) (j:Nat) (h:j<4):(rowOf s us j).2.2.1<=s.total:=by
 unfold WSt.total
 match j,h with
 | 0,_=>show s.items.length<=_;omega
 | 1,_=>show s.temps.length<=_;omega
 | 2,_=>show s.ign.length<=_;omega
 | 3,_=>show s.bad.length<=_;omega
theorem stepW_skip {ig:ByteArray->Bool} {s:WSt} {x:ByteArray×Nd} (h:(!s.over.toList.isEmpty&&withinB x.1 s.over)=true):stepW ig s x=s:=by
 unfold stepW;rw [h,if_pos rfl]
theorem stepW_temp {ig:ByteArray->Bool} {s:WSt} {x:ByteArray×Nd} (h:(!s.over.toList.isEmpty&&withinB x.1 s.over)=false) (h1:isTempB x.1=true):stepW ig s x=addT { s with over:=x.1 } x.1 1:=by
 unfold stepW;rw [h,if_neg (by simp),h1,if_pos rfl];rfl
theorem stepW_ign {ig:ByteArray->Bool} {s:WSt} {x:ByteArray×Nd} (h:(!s.over.toList.isEmpty&&withinB x.1 s.over)=false) (h1:isTempB x.1=false) (h2:ig x.1=true):stepW ig s x=addT { s with over:=x.1 } x.1 2:=by
 unfold stepW;rw [h,if_neg (by simp),h1,if_neg (by simp),h2,if_pos rfl];rfl
theorem stepW_bad {ig:ByteArray->Bool} {s:WSt} {x:ByteArray×Nd} (h:(!s.over.toList.isEmpty&&withinB x.1 s.over)=false) (h1:isTempB x.1=false) (h2:ig x.1=false) (h3:badN x.2=true):stepW ig s x=addT { s with over:=x.1 } x.1 3:=by
 unfold stepW;rw [h,if_neg (by simp),h1,if_neg (by simp),h2,if_neg (by simp),h3,if_pos rfl];rfl
theorem stepW_item {ig:ByteArray->Bool} {s:WSt} {x:ByteArray×Nd} (h:(!s.over.toList.isEmpty&&withinB x.1 s.over)=false) (h1:isTempB x.1=false) (h2:ig x.1=false) (h3:badN x.2=false):stepW ig s x={ ({ s with over:=x.1 }:WSt) with items:=s.items++[x],over:=⟨#[]⟩ }:=by
 unfold stepW;rw [h,if_neg (by simp),h1,if_neg (by simp),h2,if_neg (by simp),h3,if_neg (by simp)]
theorem walkS_over (ig:ByteArray->Bool) (pre:Nodes) (h:∀ z∈pre,z.1.size<=160):(walkS ig pre).over.size<=160:=by
 have key:∀ (l:Nodes) (s:WSt),(∀ z∈l,z.1.size<=160)->s.over.size<=160->(l.foldl (stepW ig) s).over.size<=160:=by
  intro l
  induction l with
  | nil=>intro s _ hs;exact hs
  | cons x r ih =>
   intro s hl hs;rw [List.foldl_cons];refine ih _ (fun z hz=>hl z (by simp [hz])) ?_;have hx:=hl x (by simp);unfold stepW;split
   ·exact hs
   ·split
    ·exact hx
    ·split
     ·exact hx
     ·split
      ·exact hx
      ·show (0:Nat)<=160;omega
 exact key pre wst0 h (by show (0:Nat)<=160;omega)
end
section
theorem wpListIn_run {F:Fence} {m:Nat} {P:Program} {ops:Array Oper} {rest:List Oper} {o:Oper} {a:Act} {Q:Exit->Act->World->Prop} {w w':World} {v:Value} (hgd:o.guard=none) (hd:∀ c,o.op≠.defer c) (hc:∀ c,o.op≠.call c)
  (hr:(execOp a.eval o).run P w=.ok (.value v) w') (h:wpListIn F m P ops Q rest (a.put o.dst v) w'):wpListIn F m P ops Q (o::rest) a w:=by
 refine wpListIn_plain hgd fun K hK=>?_;unfold Oper.wpIn;refine ⟨fun f hf=>?_,?_⟩
 ·unfold Oper.about at hf;split at hf
  ·rename_i c e;exact absurd e (hc c)
  ·cases hf
 ·rw [Oper.semAt_plain F _ _ hd,hr];exact hK _ _ h
theorem wpListIn_runs {F:Fence} {m:Nat} {P:Program} {ops:Array Oper} {rest:List Oper} {o:Oper} {a:Act} {Q:Exit->Act->World->Prop} {w w':World} (hgd:o.guard=none) (hd:∀ c,o.op≠.defer c) (hc:∀ c,o.op≠.call c)
  (hr:(execOp a.eval o).run P w=.ok .skip w') (h:wpListIn F m P ops Q rest (a.put o.dst undef) w'):wpListIn F m P ops Q (o::rest) a w:=by
 refine wpListIn_plain hgd fun K hK=>?_;unfold Oper.wpIn;refine ⟨fun f hf=>?_,?_⟩
 ·unfold Oper.about at hf;split at hf
  ·rename_i c e;exact absurd e (hc c)
  ·cases hf
 ·rw [Oper.semAt_plain F _ _ hd,hr];exact hK _ _ h
theorem wpListIn_load_row {F:Fence} {m:Nat} {P:Program} {ops:Array Oper} {rest:List Oper} {o:Oper} {a:Act} {Q:Exit->Act->World->Prop} {w:World} (hgd:o.guard=none) (ty:TypeId) (x:Operand) (ho:o.op=.load ty x)
  (g:Nat) (hx:a.eval x=.pointer (some ⟨g,0,none⟩)) (t:TypeId) (cs:Array Value) (fr:Nat×Nat) (d:TypeDesc) (hg:w.heap[g]?=some (.cells cs t fr))
  (hu:P.underlying ty=some d) (hd:(match d with | .struct _ | .array _ _=>true | _=>false)=true) (hi:(P.info? ty).map (·.size)=some cs.size)
  (h:wpListIn F m P ops Q rest (a.put o.dst (.agg cs)) w):wpListIn F m P ops Q (o::rest) a w:=by
 refine wpListIn_run hgd (fun c e=>by rw [ho] at e;cases e) (fun c e=>by rw [ho] at e;cases e) ?_ h;unfold execOp;simp only [ho,hx,Instr.loadAt,Instr.sureAddr,Sem.run_bind,Sem.run_pure,Result.andThen_ok,run_loadVar_row w g t ty cs fr d hg hu hd hi]
theorem wpListIn_storeT {F:Fence} {m:Nat} {P:Program} {ops:Array Oper} {rest:List Oper} {o:Oper} {a:Act} {Q:Exit->Act->World->Prop} {w:World} (hgd:o.guard=none) (ty:TypeId) (x y:Operand) (ho:o.op=.store ty x y)
  (g:Nat) (cells:Array Value) (hx:a.eval x=.pointer (some ⟨g,0,none⟩)) (hy:a.eval y=.agg cells)
  (t:TypeId) (old:Array Value) (hg:w.heap[g]?=some (.cells old t (0,0))) (hi:(P.info? ty).map (·.size)=some cells.size)
  (hold:old.size=cells.size) (h1:cells.all (·.oneCell')=true)
  (h:∀ w1,w1.heap[g]?=some (.cells cells t (0,0))->Touch g w w1->wpListIn F m P ops Q rest (a.put o.dst undef) w1):wpListIn F m P ops Q (o::rest) a w:=by
 have h':=h _ (setRow_heap _ _ _ _ _ _ hg) ⟨rfl,rfl,rfl,by rw [setRow_size];exact Nat.le_refl _,fun i _ hne=>setRow_other _ _ _ _ fun e=>hne (by rw [e])⟩;refine wpListIn_runs hgd (fun c e=>by rw [ho] at e;cases e) (fun c e=>by rw [ho] at e;cases e) ?_ h';unfold execOp;simp only [ho,hx,hy,Instr.storeAt,Instr.sureAddr,Sem.run_bind,Sem.run_pure,Result.andThen_ok,run_storeVar_row w g t ty old cells hg hi hold h1]
theorem wpListIn_store1 {F:Fence} {m:Nat} {P:Program} {ops:Array Oper} {rest:List Oper} {o:Oper} {a:Act} {Q:Exit->Act->World->Prop} {w:World} (hgd:o.guard=none) (ty:TypeId) (x y:Operand) (ho:o.op=.store ty x y)
  (g k:Nat) (v:Value) (hx:a.eval x=.pointer (some ⟨g,k,none⟩)) (hy:a.eval y=v) (hi:(P.info? ty).map (·.size)=some 1) (h1:v.oneCell'=true)
  (cs:Array Value) (t:TypeId) (hg:w.heap[g]?=some (.cells cs t (0,0))) (hk:k<cs.size)
  (h:∀ w1,w1=w.setCell ⟨g,k,none⟩ v->wpListIn F m P ops Q rest (a.put o.dst undef) w1):wpListIn F m P ops Q (o::rest) a w:=by
 refine wpListIn_runs hgd (fun c e=>by rw [ho] at e;cases e) (fun c e=>by rw [ho] at e;cases e) ?_ (h _ rfl)
 cases hq:P.info? ty with
 | none=>simp [hq] at hi
 | some i =>
  have hs:i.size=1:=by simpa [hq] using hi
  have hc:w.cell? ⟨g,k,none⟩=some cs[k]:=(cellB hg).trans (Array.getElem?_eq_getElem hk);unfold execOp;simp only [ho,hx,hy,Instr.storeAt,Instr.sureAddr,Sem.run_bind,Sem.run_pure,Result.andThen_ok,Lib.rl_storeVar_one ty i hq hs ⟨g,k,none⟩ v cs[k] h1 w hc (frozenB hg)]
end
section
open Go.RowKit Go.Shelf
attribute [local go_sem] Oper.semAt_some
def FoundC (base:Nat) (w:World) (s:WSt) (C:Array Value):Prop :=
 ∃ (vs:Nat->Value) (us:List Value),C=#[vs 0,vs 1,vs 2,vs 3]/\(∀ j,j<4->w.ownsRow base (rowOf s us j).1 (rowOf s us j).2.1 (vs j) (rowOf s us j).2.2.1 (rowOf s us j).2.2.2)/\us.length=s.items.length/\∀ (k:Nat) x u,s.items[k]?=some x->us[k]?=some u->HashU w base [] x u
def found0:Array Value:=#[.slice none 0 0,.slice none 0 0,.slice none 0 0,.slice none 0 0]
theorem FoundC.nothing (base:Nat) (w:World):FoundC base w wst0 found0 :=
 ⟨fun _=>.slice none 0 0,[],rfl,fun j hj=>by
  match j,hj with
  | 0,_=>exact World.ownsRow_nil _ _ _ _
  | 1,_=>exact World.ownsRow_nil _ _ _ _
  | 2,_=>exact World.ownsRow_nil _ _ _ _
  | 3,_=>exact World.ownsRow_nil _ _ _ _,rfl,fun k x u h=>by simp [wst0] at h⟩
theorem elRec:ElemK prog 34 45 (.agg rec0) 27 184:=⟨by kernel_rfl,by kernel_rfl,rfl,by decide,by decide⟩
theorem elText:ElemK prog 35 9 (.string ⟨#[]⟩) 1 16:=⟨by kernel_rfl,by kernel_rfl,rfl,by decide,by decide⟩
theorem inRoot_mem2 {r:ByteArray} {l:Nodes} {y:ByteArray×Nd} (h:y∈inRoot r l):∃ x∈l,withinB x.1 r=true/\y=(relS r x.1,x.2):=by
 unfold inRoot at h;rw [List.mem_map] at h;obtain ⟨x,h1,h2⟩:=h;exact ⟨x,(List.mem_filter.1 h1).1,(List.mem_filter.1 h1).2,h2.symm⟩
theorem clip_each {m:Nat} {D:Dk} (R:DkRun m D) (r:ByteArray):(eachL D r).map clipW=eachL D r:=by
 have key:∀ x∈eachL D r,clipW x=x:=fun x hx=>by
  unfold eachL at hx;split at hx
  ·obtain ⟨y,hy,_,rfl⟩:=inRoot_mem2 hx;refine clipW_eq ?_ ?_
   ·have:=mayB_size (R.ok.live.may y hy)
    show (relS r y.1).size<=160
    unfold relS;simp;omega
   ·have h1:=mem_used hy;have h2:=R.ok.live.used;have h3:=R.ok.r2;have h4:64+y.2.data.size<=usedL D.live:=h1
    show y.2.data.size<=1048576
    omega
  ·cases hx
 exact (List.map_congr_left key).trans (List.map_id _)
theorem eachL_le (D:Dk) (r:ByteArray):(eachL D r).length<=D.live.length:=by
 unfold eachL;split
 ·unfold inRoot;rw [List.length_map];exact List.length_filter_le _ _
 ·simp
set_option maxRecDepth 100000 in
set_option maxHeartbeats 4000000 in
theorem walk_any {w:World} {d m:Nat} {M I:List Nat} {D:Dk} (h:DkAt w d M I D) (R:DkRun m D) (O:DkFit D) (E:Env w) (T:ShaTabs w) (root:ByteArray) (hr:root.size<=100000) (lv:Option Addr) (ig:ByteArray->Bool)
  (HL:∀ (w':World) (p:ByteArray),Ext w w'->p.size<=160->Calls prog 70 #[.pointer lv,.string p] w' fun e w''=>∃ b,e=.returned (.tuple #[.bool (ig p),.bool b])/\Ext w' w'') :
  Calls prog 17 #[.pointer (some ⟨d,0,none⟩),.string root,.pointer lv] w fun e w'=>∃ C,e=.returned (.tuple #[.agg C,.int .i64 (rootE D.live root)])/\Hid (FoundC w.heap.size w' (walkS ig (eachL D root)) C/\Ext w w'):=by
 have HX2:=lh (((Ext.refl w).alloc (.cells #[.pointer lv] 30 (0,0))).alloc (.cells found0 37 (0,0)));have HZ0:=lh ((block_alloc_old (o:=.cells found0 37 (0,0)) (by simp only [size_alloc];omega)).trans (block_alloc_new w (.cells #[.pointer lv] 30 (0,0))));have HZ1:=lh (block_alloc_new (w.alloc (.cells #[.pointer lv] 30 (0,0))) (.cells found0 37 (0,0)));simp only [size_alloc] at HZ1;have HRt:=lh (rooted_any (h.ext HX2.out) O.ok (E.ext HX2.out) root (by omega));have HA1:=lh (show (prog.info? 37).map (·.size)=some found0.size from by kernel_rfl);have HA3:=lh (show found0.all (·.oneCell')=true from by kernel_rfl);unfold found0 at HX2 HZ0 HZ1 HRt;refine callsIn_wide.1 (callsIn_of_wp_marks (n:=4) func17 rfl trivial ?_ rfl);simp only [ntmps17,List.size_toArray,List.length_cons,List.length_nil,Nat.reduceAdd,Nat.reduceSub,Array.replicate_succ,Array.replicate_zero,List.push_toArray,List.append_toArray,List.nil_append,List.cons_append];by_cases hroot:rootE D.live root=0
 ·rw [hroot] at HRt;gi_wp2;refine ⟨trivial,(callsIn_wide.2 HRt.out).mono ?_⟩;rintro e w3 ⟨rfl,x3⟩;gi_wp2;refine ⟨trivial,(callsIn_wide.2 (each_any (some ⟨d,0,none⟩) root _)).mono ?_⟩;rintro e w5 ⟨rfl,hw5⟩;have HB9:=lh (show (w3.alloc (.cells #[.string ⟨#[]⟩] 9 (0,0))).heap[w3.heap.size]?=some (.cells #[.string ⟨#[]⟩] 9 (0,0)) from block_alloc_new _ _);have HW5:=lh hw5;have HB6:=lh ((x3.block (ltB HZ1.out)).trans HZ1.out);have HB5:=lh ((x3.block (ltB HZ0.out)).trans HZ0.out);have X3:=lh (HX2.out.trans x3);have hlt6:w.heap.size+1<w3.heap.size:=ltB HB6.out;have X5:=lh (show Ext w3 w5 from by rw [hw5];exact (((Ext.refl w3).alloc _).alloc _).alloc _)
  have hd:=lh (show w5.heap[w3.heap.size+1]?=some (.cells #[.pointer (some ⟨d,0,none⟩)] 26 (0,0)) from by
   rw [hw5];have h1:=block_alloc_new (w3.alloc (.cells #[.string ⟨#[]⟩] 9 (0,0))) (.cells #[.pointer (some ⟨d,0,none⟩)] 26 (0,0));rw [size_alloc] at h1
   exact (block_alloc_old (by simp only [size_alloc];omega)).trans h1)
  have hrb:=lh (show w5.heap[w3.heap.size+1+1]?=some (.cells #[.string root] 9 (0,0)) from by
   rw [hw5];have h1:=block_alloc_new ((w3.alloc (.cells #[.string ⟨#[]⟩] 9 (0,0))).alloc (.cells #[.pointer (some ⟨d,0,none⟩)] 26 (0,0))) (.cells #[.string root] 9 (0,0));rw [size_alloc,size_alloc] at h1
   exact h1)
  have hb9:=lh (show w5.heap[w3.heap.size]?=some (.cells #[.string ⟨#[]⟩] 9 (0,0)) from by
   rw [hw5]
   exact (block_alloc_old (by simp only [size_alloc];omega)).trans ((block_alloc_old (by simp only [size_alloc];omega)).trans HB9.out))
  have hb6:=lh ((X5.out.block (ltB HB6.out)).trans HB6.out);have hb5:=lh ((X5.out.block (ltB HB5.out)).trans HB5.out);have hs5:w3.heap.size+3=w5.heap.size:=by rw [hw5];simp only [size_alloc]
  have XX:=lh (X3.out.trans X5.out);clear hw5
  have hF0:FoundIn (w3.heap.size+1) (w.heap.size+1) w3.heap.size wst0 w5 (fun _=>.slice none 0 0) []:=by
   refine ⟨hb6.out,hb9.out,fun j hj=>?_,fun i j _ _ _ b hb=>by simp [Value.ownBlock] at hb,rfl,fun k x u hx=>by simp [wst0] at hx,fun k u hu=>by simp at hu,by omega,by omega,by omega⟩
   match j,hj with
   | 0,_=>exact World.ownsRow_nil _ _ _ _
   | 1,_=>exact World.ownsRow_nil _ _ _ _
   | 2,_=>exact World.ownsRow_nil _ _ _ _
   | 3,_=>exact World.ownsRow_nil _ _ _ _
  have hK5:walkK (w.heap.size+1) w3.heap.size w5=[w.heap.size+1,w3.heap.size]:=by rw [hF0.k];rfl
  have hDlt:=h.lt;gi_wp2
  refine wpIn_rangeFunc_ownH rfl (by decide) (gf:=79) (lb:=#[.pointer (some ⟨w3.heap.size+1,0,none⟩),.pointer (some ⟨w3.heap.size+1+1,0,none⟩)]) rfl trivial (enters_of func79 (by kernel_rfl) rfl)
   (each_stops 3 (by decide) (wb:=w) (w0:=w5) (K:=walkK (w.heap.size+1) w3.heap.size) (n0:=w3.heap.size+1) (D:=D) root E XX.out (walkK_reads (by omega)) (by omega) (fun b hb=>?kl) (h.ext XX.out) R O (fun b hb hm=>?ki) (cellB hd.out) (cellB hrb.out) (by rw [hK5];simp;omega) (by omega))
   KpK.trans (fun W l o o' hl ho h1 h2=>KpK.turn (walkK_reads (n0:=w3.heap.size+1) (by omega)) W l o o' (by omega) (by have:=XX.out.size;omega) ho h1 h2) (Below.refl _ _) (fun _=>rfl)
   (fun pre W=>∃ vs us,Hid (FoundIn (w3.heap.size+1) (w.heap.size+1) w3.heap.size (walkS ig (pre.map clipW)) W vs us/\Ext w W/\W.heap[w.heap.size]?=some (.cells #[.pointer lv] 30 (0,0)))) (fun _ _ _=>False) ?own (fun c s W W' row hs _ _=>hs.elim) ⟨_,_,hF0,XX.out,hb5.out⟩
   (fun x a' W=>∃ g,Hid (w3.heap.size+1<=g/\W.heap[g]?=some (.cells #[.int .i64 (clipW x).2.kind,.string (clipW x).2.data,.string (clipW x).2.target,.int .i64 (clipW x).2.time] 84 (0,0)))/\a'={ tmps:=#[.pointer (some ⟨d,0,none⟩),.string root,.pointer lv,undef,undef,.pointer (some ⟨w.heap.size,0,none⟩),.pointer (some ⟨w.heap.size+1,0,none⟩),.int .i64 0,.int .i64 0,.pointer (some ⟨w3.heap.size,0,none⟩),.string (clipW x).1,.pointer (some ⟨g,0,none⟩),undef,undef,undef,undef,.pointer (some ⟨d,0,none⟩),.string root,.int .i64 0,.int .i64 0,.bool false,undef,undef,.pointer (some ⟨d,0,none⟩),.string root,.func (.func 79) #[] #[.pointer (some ⟨w3.heap.size+1,0,none⟩),.pointer (some ⟨w3.heap.size+1+1,0,none⟩)],.string (clipW x).1,nv (clipW x).2,undef,undef,undef,undef,undef,undef,undef,undef,undef,undef,undef,undef,undef,undef,undef,undef,undef,undef,undef,undef,undef,undef,undef,undef,undef,undef,undef,undef,undef,undef,undef,undef,undef,undef,undef,undef,undef,undef,undef,undef,undef,undef,undef,undef,undef,undef,undef,undef,undef,undef,undef,undef,undef],defers:=[] }) ?ax ?assign ?body ?done (fun D c pre W _ _ hs _=>hs.elim)
  case kl =>
   rw [hK5] at hb;simp only [List.mem_cons,List.not_mem_nil,or_false] at hb;omega
  case ki =>
   rw [hK5] at hm;simp only [List.mem_cons,List.not_mem_nil,or_false] at hm;have:=hDlt.2 b hb;omega
  case own=>exact FoundIn.own (fun pre:Nodes=>walkS ig (pre.map clipW)) XX.out.size
  case ax =>
   rintro x a' _ W W' row ⟨g,⟨h1,h2⟩,h3⟩ hg hr;refine ⟨g,⟨h1,(hg.block g (ltB h2) fun e=>?_).trans h2⟩,h3⟩;obtain ⟨_,o,ho,hn⟩:=hr g e.symm;rw [h2] at ho
   cases ho
   cases hn
  case assign =>
   rintro l pre x W K ⟨vs,us,hF,hx,h5⟩ hK;have hK:=lh hK;have hF:=lh hF;have h5:=lh h5;have hx:=lh hx;unfold encW;generalize clipW x=y at *;obtain ⟨yp,yk,yd,yt,ym⟩:=y;unfold nv at *;dsimp only at *;gi_wp2;have x1:Ext W (W.alloc (.cells #[.int .i64 yk,.string yd,.string yt,.int .i64 ym] 84 (0,0))):=(Ext.refl W).alloc _;have r1:Rnd (w.heap.size+1) w3.heap.size w.heap.size W _:=Rnd.ext x1 (ltB hF.out.blk) hx.out.size;exact hK.out _ _ (r1.ko.from _) r1.kp ⟨vs,us,hF.out.ext x1,hx.out.trans x1,(x1.block (ltB h5.out)).trans h5.out⟩ ⟨W.heap.size,⟨ltB hF.out.over,block_alloc_new _ _⟩,rfl⟩
  case body =>
   rintro l pre x a' W hl hlr ⟨vs,us,hF,hx,h5⟩ ⟨g,⟨hg,hbg⟩,rfl⟩ hlen;have hF:=lh hF;have h5:=lh h5;have hx:=lh hx;have hbg:=lh hbg;obtain ⟨hp160,hd20⟩:=clipW_le x;have HN:=lh (show walkS ig ((pre++[x]).map clipW)=stepW ig (walkS ig (pre.map clipW)) (clipW x) from by rw [List.map_append];exact walkS_snoc _ _ _);have hl6:(eachL D root).length<=16384:=Nat.le_trans (eachL_le D root) (live_few R);have hsov:(walkS ig (pre.map clipW)).over.size<=160:=walkS_over ig _ (fun z hz=>by obtain ⟨q,_,rfl⟩:=List.mem_map.1 hz;exact (clipW_le q).1);have htot:(walkS ig (pre.map clipW)).total<16384:=Nat.lt_of_lt_of_le (Nat.lt_of_le_of_lt (walkS_total ig _) (by rw [List.length_map];exact hlen)) hl6;generalize clipW x=y at *;obtain ⟨yp,yk,yd,yt,ym⟩:=y;unfold nv at *;dsimp only at *;generalize walkS ig (List.map clipW pre)=s at *;have c9:W.cell? ⟨w3.heap.size,0,none⟩=some (.string s.over):=cellB hF.out.over;have f9:W.frozen? ⟨w3.heap.size,0,none⟩=false:=frozenB hF.out.over
   cases ho:s.over.toList.isEmpty
   case' true =>
    have hoe:s.over=⟨#[]⟩:=ba_ext ((List.isEmpty_iff.1 ho).trans (by rw [Lib.toList_data]));rw [hoe] at c9;gi_wp2;refine ⟨trivial,?_⟩;have hsk:(!s.over.toList.isEmpty&&withinB yp s.over)=false:=by rw [ho];rfl
    obtain ⟨W1,hW1⟩:∃ W1,W1=W:=⟨_,rfl⟩;have y1:=lh (show Ext W W1 from hW1▸Ext.refl W);rw [<-hW1];clear hW1 c9 f9
   case' false =>
    have hne:decide (s.over=⟨#[]⟩)=false:=decide_eq_false fun e=>by
     rw [e,Lib.toList_data] at ho
     cases ho
    have HW9:=lh (within_any yp s.over W (by omega) (by have:=hsov;omega) (E.ext hx.out))
    cases hw:withinB yp s.over
    case true =>
     rw [hw] at HW9;gi_wp2;refine ⟨trivial,(CallsIn.inRound l (callsIn_wide.2 HW9.out)).mono ?_⟩;rintro e W1 ⟨rfl,y1⟩;gi_wp2;have hR1:=Rnd.ext (b9:=w3.heap.size) (nb:=w.heap.size) y1 (ltB hF.out.blk) hx.out.size
     have hfin:FoundIn (w3.heap.size+1) (w.heap.size+1) w3.heap.size (walkS ig (List.map clipW (pre++[x]))) W1 vs us:=by
      rw [HN.out,stepW_skip (ig:=ig) (s:=s) (x:=(yp,⟨yk,yd,yt,ym⟩)) (by rw [ho,hw];rfl)];exact hF.out.ext y1
     exact ⟨hR1.ko.from _,hR1.kp,⟨_,_,⟨hfin,hx.out.trans y1,(y1.block (ltB h5.out)).trans h5.out⟩⟩⟩
    case' false =>
     rw [hw] at HW9;have hsk:(!s.over.toList.isEmpty&&withinB yp s.over)=false:=by rw [ho,hw];rfl
     gi_wp2;refine ⟨trivial,(CallsIn.inRound l (callsIn_wide.2 HW9.out)).mono ?_⟩;rintro e W1 ⟨rfl,hy1⟩;have y1:=lh hy1;clear hy1 c9 f9 HW9
   all_goals
    have hsk:=lh hsk;have hF1:=lh (hF.out.ext y1.out);have hR1:=lh (Rnd.ext (b9:=w3.heap.size) (nb:=w.heap.size) y1.out (ltB hF.out.blk) hx.out.size);have h51:=lh ((y1.out.block (ltB h5.out)).trans h5.out);have hg1:=lh ((y1.out.block (ltB hbg.out)).trans hbg.out);have hx1:=lh (hx.out.trans y1.out);have hF0W:=hF;have h50:=h5;have hx0:=hx;clear hF h5 hbg y1 hx;gi_wp2_with (refine wpListIn_store1 rfl _ _ _ rfl w3.heap.size 0 (.string yp) rfl rfl (by kernel_rfl) rfl _ _ hF1.out.over Nat.zero_lt_one ?_;intro W2 hw2;have HFR:=lh (hF1.out.setOver (nb:=w.heap.size) yp (by omega));rw [<-hw2] at HFR;have hg2:=lh (show W2.heap[g]?=_ from (hw2▸setCellO (by omega)).trans hg1.out);have h52:=lh (HFR.out.2.keep hF1.out h51.out (by omega) (by omega) (by omega));have c5:W2.cell? ⟨w.heap.size,0,none⟩=some (.pointer lv):=cellB h52.out;have n0:W2.cell? ⟨g,0,none⟩=some (.int .i64 yk):=cellB hg2.out;have n1:W2.cell? ⟨g,1,none⟩=some (.string yd):=cellB hg2.out;have n2:W2.cell? ⟨g,2,none⟩=some (.string yt):=cellB hg2.out;have n3:W2.cell? ⟨g,3,none⟩=some (.int .i64 ym):=cellB hg2.out;clear hw2;go_frame);have hR2:=lh (hR1.out.trans HFR.out.2);have hx2:=lh (show Ext w W2 from Below.trans hx1.out HFR.out.2.kp.low);have hF2:=lh HFR.out.1;clear HFR hF1 hR1 h51 hg1 hx1 n0 n1 n2 n3 c5;refine ⟨trivial,(CallsIn.inRound l (callsIn_wide.2 (HL W2 yp hx2.out hp160))).mono ?_⟩;rintro e W3 ⟨del,rfl,y3⟩;have hg3:=(y3.block (ltB hg2.out)).trans hg2.out;have n0:W3.cell? ⟨g,0,none⟩=some (.int .i64 yk):=cellB hg3;have n1:W3.cell? ⟨g,1,none⟩=some (.string yd):=cellB hg3;have n2:W3.cell? ⟨g,2,none⟩=some (.string yt):=cellB hg3;have n3:W3.cell? ⟨g,3,none⟩=some (.int .i64 ym):=cellB hg3;clear hg3;gi_wp2;refine ⟨trivial,(CallsIn.inRound l (callsIn_wide.2 (item_any yp ⟨yk,yd,yt,ym⟩ W3 (T.ext (hx2.out.trans y3)) hd20))).mono ?_⟩;rintro e W4 ⟨C,er,rfl,h4⟩;clear n0 n1 n2 n3;obtain ⟨hs1,hs2⟩:=item_shape h4.out.1;have HC1:=lh (show (prog.info? 45).map (·.size)=some C.size from by rw [hs1];kernel_rfl);have HC2:=lh (show 27=C.size from hs1.symm);have HC3:=lh hs2;clear hs1 hs2;gi_wp2_with (refine wpListIn_storeT rfl _ _ _ rfl W4.heap.size C rfl rfl 45 _ (block_alloc_new W4 _) HC1.out HC2.out HC3.out ?_;intro W5 hb5 ht5;have HB5:=lh hb5;have HX5:=lh (ht5.fresh ((Ext.refl W4).alloc _) (Nat.le_refl _));clear hb5 ht5;go_frame);refine ⟨trivial,(CallsIn.inRound l (callsIn_wide.2 (isTemp_any yp W5 (by omega)))).mono ?_⟩;rintro e W6 ⟨rfl,hdr⟩;obtain ⟨nd,hdr⟩:=hdr;have y6:=lh (show Ext W5 W6 from hdr▸(Ext.refl W5).drewN nd);clear hdr;have HB6:=lh ((y6.out.block (ltB HB5.out)).trans HB5.out);have y26:=lh (((y3.trans h4.out.2).trans HX5.out).trans y6.out);have hF6:=lh (hF2.out.ext y26.out);have hR6:=lh (hR2.out.trans (Rnd.ext y26.out (ltB hF2.out.blk) hx2.out.size))
    cases htp:isTempB yp with
    | true =>
     have hrw:=lh (hF6.out.row 1 (by decide));obtain ⟨ra,rc,hre⟩:=rowk_shape hrw.out;have HRE:=lh hre;have c6:W6.cell? ⟨w.heap.size+1,1,none⟩=some (.slice ra s.temps.length rc):=(cellB hF6.out.blk).trans (by rw [<-show vs 1=.slice ra s.temps.length rc from hre];rfl);have HOW:=lh (show W6.ownsRow (w3.heap.size+1) 9 1 (.slice ra s.temps.length rc) s.temps.length (s.temps.map Value.string) from (show vs 1=.slice ra s.temps.length rc from hre)▸hrw.out);have hln:s.temps.length<=16384:=Nat.le_trans (rowOf_le s us 1 (by decide)) (Nat.le_of_lt htot);have h61:w3.heap.size+1<=W6.heap.size:=ltB hF6.out.over;clear hre hrw
     gi_wp2_with (first
      | (refine wpListIn_append_k elText (w3.heap.size+1) (.slice ra s.temps.length rc) s.temps.length (s.temps.map Value.string) (owns_ext HOW.out ((Ext.refl _).alloc _)) W6.heap.size [.string yp] rfl (.tmp 58) (.tmp 60) rfl rfl rfl rfl (fun j u hj=>(cellB (block_alloc_new W6 _)).trans (by simpa using hj)) (by simp [Value.oneCell']) (by omega) (by simp only [size_alloc];omega) ?_;intro v8 W8 ho8 hg8 hv8;obtain ⟨va,vc,hve⟩:=rowk_shape ho8;rw [hve] at ho8 hv8;rw [hve];have HO8:=lh ho8;have HG8:=lh hg8;have HV8:=lh hv8;clear ho8 hg8 hv8 hve;go_frame)
      | (refine wpListIn_store1 rfl _ _ _ rfl (w.heap.size+1) 1 (.slice va (s.temps.length+1) vc) rfl rfl (by kernel_rfl) rfl #[vs 0,vs 1,vs 2,vs 3] 37 ((HG8.out.block (w.heap.size+1) (ltB (hF6.out.ext ((Ext.refl _).alloc _)).blk) (fun e=>by have h1:=(hF6.out.below 1 (by decide) (w.heap.size+1) (by rw [show vs 1=_ from HRE.out];exact e.symm)).1;omega)).trans (hF6.out.ext ((Ext.refl _).alloc _)).blk) (by show 1<4;decide) ?_;intro W9 hw9;have HW9:=lh hw9;clear hw9;go_frame))
     have hg8:=HG8.out;have hv8:=HV8.out;rw [show Value.slice ra s.temps.length rc=vs 1 from HRE.out.symm] at hg8 hv8;have hF7:=hF6.out.ext ((Ext.refl W6).alloc (.cells #[.string yp] 9 (0,0)));have hF9:=hF7.addText (j:=1) (by decide) (by decide) yp HO8.out hg8 hv8;have hR9:=(hR6.out.trans (Rnd.ext ((Ext.refl W6).alloc (.cells #[.string yp] 9 (0,0))) (ltB hF6.out.blk) (Nat.le_trans hx2.out.size y26.out.size))).trans (hF7.addR (nb:=w.heap.size) (j:=1) (by decide) hg8 hv8 (by omega) (by omega));rw [<-HW9.out] at hF9 hR9
     have hfin:FoundIn (w3.heap.size+1) (w.heap.size+1) w3.heap.size (walkS ig (List.map clipW (pre++[x]))) W9 (fun i=>if i=1 then .slice va (s.temps.length+1) vc else vs i) us:=by
      rw [HN.out,stepW_temp (ig:=ig) (s:=s) (x:=(yp,⟨yk,yd,yt,ym⟩)) hsk.out htp];exact hF9
     have hext:=Below.trans hx0.out hR9.kp.low;have hkp5:=hR9.keep hF0W.out h50.out (by omega) (by omega) (by omega);exact ⟨hR9.ko.from _,hR9.kp,⟨_,us,⟨hfin,hext,hkp5⟩⟩⟩
    | false =>
     cases hig:ig yp with
     | true =>
      have hrw:=lh (hF6.out.row 2 (by decide));obtain ⟨ra,rc,hre⟩:=rowk_shape hrw.out;have HRE:=lh hre;have c6:W6.cell? ⟨w.heap.size+1,2,none⟩=some (.slice ra s.ign.length rc):=(cellB hF6.out.blk).trans (by rw [<-show vs 2=.slice ra s.ign.length rc from hre];rfl);have HOW:=lh (show W6.ownsRow (w3.heap.size+1) 9 1 (.slice ra s.ign.length rc) s.ign.length (s.ign.map Value.string) from (show vs 2=.slice ra s.ign.length rc from hre)▸hrw.out);have hln:s.ign.length<=16384:=Nat.le_trans (rowOf_le s us 2 (by decide)) (Nat.le_of_lt htot);have h61:w3.heap.size+1<=W6.heap.size:=ltB hF6.out.over;clear hre hrw
      gi_wp2_with (first
       | (refine wpListIn_append_k elText (w3.heap.size+1) (.slice ra s.ign.length rc) s.ign.length (s.ign.map Value.string) (owns_ext HOW.out ((Ext.refl _).alloc _)) W6.heap.size [.string yp] rfl (.tmp 66) (.tmp 68) rfl rfl rfl rfl (fun j u hj=>(cellB (block_alloc_new W6 _)).trans (by simpa using hj)) (by simp [Value.oneCell']) (by omega) (by simp only [size_alloc];omega) ?_;intro v8 W8 ho8 hg8 hv8;obtain ⟨va,vc,hve⟩:=rowk_shape ho8;rw [hve] at ho8 hv8;rw [hve];have HO8:=lh ho8;have HG8:=lh hg8;have HV8:=lh hv8;clear ho8 hg8 hv8 hve;go_frame)
       | (refine wpListIn_store1 rfl _ _ _ rfl (w.heap.size+1) 2 (.slice va (s.ign.length+1) vc) rfl rfl (by kernel_rfl) rfl #[vs 0,vs 1,vs 2,vs 3] 37 ((HG8.out.block (w.heap.size+1) (ltB (hF6.out.ext ((Ext.refl _).alloc _)).blk) (fun e=>by have h1:=(hF6.out.below 2 (by decide) (w.heap.size+1) (by rw [show vs 2=_ from HRE.out];exact e.symm)).1;omega)).trans (hF6.out.ext ((Ext.refl _).alloc _)).blk) (by show 2<4;decide) ?_;intro W9 hw9;have HW9:=lh hw9;clear hw9;go_frame))
      have hg8:=HG8.out;have hv8:=HV8.out;rw [show Value.slice ra s.ign.length rc=vs 2 from HRE.out.symm] at hg8 hv8;have hF7:=hF6.out.ext ((Ext.refl W6).alloc (.cells #[.string yp] 9 (0,0)));have hF9:=hF7.addText (j:=2) (by decide) (by decide) yp HO8.out hg8 hv8;have hR9:=(hR6.out.trans (Rnd.ext ((Ext.refl W6).alloc (.cells #[.string yp] 9 (0,0))) (ltB hF6.out.blk) (Nat.le_trans hx2.out.size y26.out.size))).trans (hF7.addR (nb:=w.heap.size) (j:=2) (by decide) hg8 hv8 (by omega) (by omega));rw [<-HW9.out] at hF9 hR9
      have hfin:FoundIn (w3.heap.size+1) (w.heap.size+1) w3.heap.size (walkS ig (List.map clipW (pre++[x]))) W9 (fun i=>if i=2 then .slice va (s.ign.length+1) vc else vs i) us:=by
       rw [HN.out,stepW_ign (ig:=ig) (s:=s) (x:=(yp,⟨yk,yd,yt,ym⟩)) hsk.out htp hig];exact hF9
      have hext:=Below.trans hx0.out hR9.kp.low;have hkp5:=hR9.keep hF0W.out h50.out (by omega) (by omega) (by omega);exact ⟨hR9.ko.from _,hR9.kp,⟨_,us,⟨hfin,hext,hkp5⟩⟩⟩
     | false =>
      rcases h4.out.1 with ⟨hk,hC,he⟩ | ⟨hk,h46,he,u,hC,hu⟩ | ⟨hk,h46,he,hC⟩
      ·have hrw:=lh (hF6.out.row 0 (by decide));obtain ⟨ra,rc,hre⟩:=rowk_shape hrw.out;have HRE:=lh hre;have c6:W6.cell? ⟨w.heap.size+1,0,none⟩=some (.slice ra s.items.length rc):=(cellB hF6.out.blk).trans (by rw [<-show vs 0=.slice ra s.items.length rc from hre];rfl);have HOW:=lh (show W6.ownsRow (w3.heap.size+1) 45 27 (.slice ra s.items.length rc) s.items.length (rowsU s.items us) from (show vs 0=.slice ra s.items.length rc from hre)▸hrw.out);have hln:s.items.length<=16384:=Nat.le_trans (rowOf_le s us 0 (by decide)) (Nat.le_of_lt htot);have h61:w3.heap.size+1<=W6.heap.size:=ltB hF6.out.over;have hbd:badN ⟨yk,yd,yt,ym⟩=false:=by unfold badN;rw [decide_eq_false hk];rfl
       clear hre hrw;subst hC he;unfold itemC at *;dsimp only at *;have X7:=lh ((Ext.refl W6).alloc (.cells #[.string yp,.int .i64 yk,.bool false,.int .i64 (0),.int .i64 ym,.int .i64 0,.int .u32 0,.int .u32 0,.int .u32 0,.int .u32 0,.int .u32 0,.int .u32 0,.int .u32 0,.int .u32 0,.int .u32 0,.int .u32 0,.int .u32 0,.int .u32 0,.int .u32 0,.int .u32 0,.int .u32 0,.int .u32 0,.int .i64 (0),.slice none 0 0,.string yt,.int .i64 0,.int .i64 0] 45 (0,0)));have HF7:=lh (hF6.out.ext X7.out);have HU:=lh (show HashU (W6.alloc (.cells #[.string yp,.int .i64 yk,.bool false,.int .i64 (0),.int .i64 ym,.int .i64 0,.int .u32 0,.int .u32 0,.int .u32 0,.int .u32 0,.int .u32 0,.int .u32 0,.int .u32 0,.int .u32 0,.int .u32 0,.int .u32 0,.int .u32 0,.int .u32 0,.int .u32 0,.int .u32 0,.int .u32 0,.int .u32 0,.int .i64 (0),.slice none 0 0,.string yt,.int .i64 0,.int .i64 0] 45 (0,0))) (w3.heap.size+1) [] (yp,⟨yk,yd,yt,ym⟩) (.slice none 0 0) from .inl ⟨hk,rfl⟩);have HUN:=lh (show ∀ b,(.slice none 0 0:Value).ownBlock=some b->∀ i,i<4->(vs i).ownBlock≠some b from fun b hb=>by simp [Value.ownBlock] at hb);have HIU:=lh (show itemU (yp,⟨yk,yd,yt,ym⟩) (.slice none 0 0)=[.string yp,.int .i64 yk,.bool false,.int .i64 (0),.int .i64 ym,.int .i64 0,.int .u32 0,.int .u32 0,.int .u32 0,.int .u32 0,.int .u32 0,.int .u32 0,.int .u32 0,.int .u32 0,.int .u32 0,.int .u32 0,.int .u32 0,.int .u32 0,.int .u32 0,.int .u32 0,.int .u32 0,.int .u32 0,.int .i64 (0),.slice none 0 0,.string yt,.int .i64 0,.int .i64 0] from by unfold itemU;rw [if_neg hk];rfl)
       gi_wp2_with (first
        | (refine wpListIn_load_row rfl 45 (.tmp 14) rfl W4.heap.size rfl 45 _ (0,0) _ HB6.out underlying45 rfl HC1.out ?_;go_frame)
        | (refine wpListIn_append_k elRec (w3.heap.size+1) (.slice ra s.items.length rc) s.items.length (rowsU s.items us) (owns_ext HOW.out X7.out) W6.heap.size [.string yp,.int .i64 yk,.bool false,.int .i64 (0),.int .i64 ym,.int .i64 0,.int .u32 0,.int .u32 0,.int .u32 0,.int .u32 0,.int .u32 0,.int .u32 0,.int .u32 0,.int .u32 0,.int .u32 0,.int .u32 0,.int .u32 0,.int .u32 0,.int .u32 0,.int .u32 0,.int .u32 0,.int .u32 0,.int .i64 (0),.slice none 0 0,.string yt,.int .i64 0,.int .i64 0] rfl (.tmp 49) (.tmp 51) rfl rfl rfl rfl (fun j u hj=>(cellB (block_alloc_new W6 _)).trans (by simpa using hj)) (by simp [Value.oneCell']) (by omega) (by simp only [size_alloc];omega) ?_;intro v8 W8 ho8 hg8 hv8;obtain ⟨va,vc,hve⟩:=rowk_shape ho8;rw [hve] at ho8 hv8;rw [hve];have HO8:=lh ho8;have HG8:=lh hg8;have HV8:=lh hv8;clear ho8 hg8 hv8 hve;go_frame)
        | (refine wpListIn_store1 rfl _ _ _ rfl (w.heap.size+1) 0 (.slice va (s.items.length+1) vc) rfl rfl (by kernel_rfl) rfl #[vs 0,vs 1,vs 2,vs 3] 37 ((HG8.out.block (w.heap.size+1) (ltB HF7.out.blk) (fun e=>by have h1:=(hF6.out.below 0 (by decide) (w.heap.size+1) (by rw [show vs 0=_ from HRE.out];exact e.symm)).1;omega)).trans HF7.out.blk) (by show 0<4;decide) ?_;intro W9 hw9;have hg8:=HG8.out;have hv8:=HV8.out;rw [show Value.slice ra s.items.length rc=vs 0 from HRE.out.symm] at hg8 hv8;have ho8:=HO8.out;rw [<-HIU.out] at ho8;have hF9:=HF7.out.addItem (yp,⟨yk,yd,yt,ym⟩) ho8 hg8 hv8 HU.out HUN.out;have hR9:=HF7.out.addR (nb:=w.heap.size) (j:=0) (by decide) hg8 hv8 (by omega) (by omega);rw [<-hw9] at hF9 hR9;have HF9:=lh hF9;have HR9:=lh hR9;clear hw9 hg8 hv8 ho8 hF9 hR9;go_frame)
        | (refine wpListIn_store1 rfl _ _ _ rfl w3.heap.size 0 (.string ⟨#[]⟩) rfl rfl (by kernel_rfl) rfl _ _ HF9.out.over Nat.zero_lt_one ?_;intro W10 hw10;have HW10:=lh hw10;clear hw10;go_frame))
       have hF10:=HF9.out.setOver (nb:=w.heap.size) ⟨#[]⟩ (by omega);rw [<-HW10.out] at hF10;have hR10:=((hR6.out.trans (Rnd.ext X7.out (ltB hF6.out.blk) (Nat.le_trans hx2.out.size y26.out.size))).trans HR9.out).trans hF10.2
       have hfin:FoundIn (w3.heap.size+1) (w.heap.size+1) w3.heap.size (walkS ig (List.map clipW (pre++[x]))) W10 (fun i=>if i=0 then .slice va (s.items.length+1) vc else vs i) (us++[.slice none 0 0]):=by
        rw [HN.out,stepW_item (ig:=ig) (s:=s) (x:=(yp,⟨yk,yd,yt,ym⟩)) hsk.out htp hig hbd];exact hF10.1
       have hext:=Below.trans hx0.out hR10.kp.low;have hkp5:=hR10.keep hF0W.out h50.out (by omega) (by omega) (by omega);exact ⟨hR10.ko.from _,hR10.kp,⟨_,_,⟨hfin,hext,hkp5⟩⟩⟩
      ·obtain ⟨ua,uc,rfl⟩:=rowk_shape hu;have hk1:yk=1:=hk;clear hk;subst hk1;have hrw:=lh (hF6.out.row 0 (by decide));obtain ⟨ra,rc,hre⟩:=rowk_shape hrw.out;have HRE:=lh hre;have c6:W6.cell? ⟨w.heap.size+1,0,none⟩=some (.slice ra s.items.length rc):=(cellB hF6.out.blk).trans (by rw [<-show vs 0=.slice ra s.items.length rc from hre];rfl);have HOW:=lh (show W6.ownsRow (w3.heap.size+1) 45 27 (.slice ra s.items.length rc) s.items.length (rowsU s.items us) from (show vs 0=.slice ra s.items.length rc from hre)▸hrw.out);have hln:s.items.length<=16384:=Nat.le_trans (rowOf_le s us 0 (by decide)) (Nat.le_of_lt htot);have h61:w3.heap.size+1<=W6.heap.size:=ltB hF6.out.over;have hbd:badN ⟨1,yd,yt,ym⟩=false:=by unfold badN;rw [decide_eq_false (show ¬ 4096<yd.size from Nat.not_lt.2 h46)];simp
       clear hre hrw;subst hC he;unfold itemC at *;dsimp only at *;have X7:=lh ((Ext.refl W6).alloc (.cells #[.string yp,.int .i64 1,.bool false,.int .i64 ((yd.size:Nat)),.int .i64 ym,.int .i64 0,.int .u32 0,.int .u32 0,.int .u32 0,.int .u32 0,.int .u32 0,.int .u32 0,.int .u32 0,.int .u32 0,.int .u32 0,.int .u32 0,.int .u32 0,.int .u32 0,.int .u32 0,.int .u32 0,.int .u32 0,.int .u32 0,.int .i64 ((sizeN yd.size:Nat)),.slice ua (countN yd.size) uc,.string yt,.int .i64 0,.int .i64 0] 45 (0,0)));have HF7:=lh (hF6.out.ext X7.out);have HU:=lh (show HashU (W6.alloc (.cells #[.string yp,.int .i64 1,.bool false,.int .i64 ((yd.size:Nat)),.int .i64 ym,.int .i64 0,.int .u32 0,.int .u32 0,.int .u32 0,.int .u32 0,.int .u32 0,.int .u32 0,.int .u32 0,.int .u32 0,.int .u32 0,.int .u32 0,.int .u32 0,.int .u32 0,.int .u32 0,.int .u32 0,.int .u32 0,.int .u32 0,.int .i64 ((sizeN yd.size:Nat)),.slice ua (countN yd.size) uc,.string yt,.int .i64 0,.int .i64 0] 45 (0,0))) (w3.heap.size+1) [] (yp,⟨1,yd,yt,ym⟩) (.slice ua (countN yd.size) uc) from .inr ⟨rfl,h46,owns_down (owns_ext (owns_ext hu (HX5.out.trans y6.out)) X7.out) (by have:=ltB hF2.out.over;have:=y3.size;omega),fun b _=>by simp⟩);have HUN:=lh (show ∀ b,(.slice ua (countN yd.size) uc:Value).ownBlock=some b->∀ i,i<4->(vs i).ownBlock≠some b from fun b hb i hi e=>by have h1:=own_ge hu b hb;have h2:=(hF2.out.below i hi b e).2;have h3:=y3.size;omega);have HIU:=lh (show itemU (yp,⟨1,yd,yt,ym⟩) (.slice ua (countN yd.size) uc)=[.string yp,.int .i64 1,.bool false,.int .i64 ((yd.size:Nat)),.int .i64 ym,.int .i64 0,.int .u32 0,.int .u32 0,.int .u32 0,.int .u32 0,.int .u32 0,.int .u32 0,.int .u32 0,.int .u32 0,.int .u32 0,.int .u32 0,.int .u32 0,.int .u32 0,.int .u32 0,.int .u32 0,.int .u32 0,.int .u32 0,.int .i64 ((sizeN yd.size:Nat)),.slice ua (countN yd.size) uc,.string yt,.int .i64 0,.int .i64 0] from by unfold itemU;rw [if_pos rfl];rfl)
       gi_wp2_with (first
        | (refine wpListIn_load_row rfl 45 (.tmp 14) rfl W4.heap.size rfl 45 _ (0,0) _ HB6.out underlying45 rfl HC1.out ?_;go_frame)
        | (refine wpListIn_append_k elRec (w3.heap.size+1) (.slice ra s.items.length rc) s.items.length (rowsU s.items us) (owns_ext HOW.out X7.out) W6.heap.size [.string yp,.int .i64 1,.bool false,.int .i64 ((yd.size:Nat)),.int .i64 ym,.int .i64 0,.int .u32 0,.int .u32 0,.int .u32 0,.int .u32 0,.int .u32 0,.int .u32 0,.int .u32 0,.int .u32 0,.int .u32 0,.int .u32 0,.int .u32 0,.int .u32 0,.int .u32 0,.int .u32 0,.int .u32 0,.int .u32 0,.int .i64 ((sizeN yd.size:Nat)),.slice ua (countN yd.size) uc,.string yt,.int .i64 0,.int .i64 0] rfl (.tmp 49) (.tmp 51) rfl rfl rfl rfl (fun j u hj=>(cellB (block_alloc_new W6 _)).trans (by simpa using hj)) (by simp [Value.oneCell']) (by omega) (by simp only [size_alloc];omega) ?_;intro v8 W8 ho8 hg8 hv8;obtain ⟨va,vc,hve⟩:=rowk_shape ho8;rw [hve] at ho8 hv8;rw [hve];have HO8:=lh ho8;have HG8:=lh hg8;have HV8:=lh hv8;clear ho8 hg8 hv8 hve;go_frame)
        | (refine wpListIn_store1 rfl _ _ _ rfl (w.heap.size+1) 0 (.slice va (s.items.length+1) vc) rfl rfl (by kernel_rfl) rfl #[vs 0,vs 1,vs 2,vs 3] 37 ((HG8.out.block (w.heap.size+1) (ltB HF7.out.blk) (fun e=>by have h1:=(hF6.out.below 0 (by decide) (w.heap.size+1) (by rw [show vs 0=_ from HRE.out];exact e.symm)).1;omega)).trans HF7.out.blk) (by show 0<4;decide) ?_;intro W9 hw9;have hg8:=HG8.out;have hv8:=HV8.out;rw [show Value.slice ra s.items.length rc=vs 0 from HRE.out.symm] at hg8 hv8;have ho8:=HO8.out;rw [<-HIU.out] at ho8;have hF9:=HF7.out.addItem (yp,⟨1,yd,yt,ym⟩) ho8 hg8 hv8 HU.out HUN.out;have hR9:=HF7.out.addR (nb:=w.heap.size) (j:=0) (by decide) hg8 hv8 (by omega) (by omega);rw [<-hw9] at hF9 hR9;have HF9:=lh hF9;have HR9:=lh hR9;clear hw9 hg8 hv8 ho8 hF9 hR9;go_frame)
        | (refine wpListIn_store1 rfl _ _ _ rfl w3.heap.size 0 (.string ⟨#[]⟩) rfl rfl (by kernel_rfl) rfl _ _ HF9.out.over Nat.zero_lt_one ?_;intro W10 hw10;have HW10:=lh hw10;clear hw10;go_frame))
       have hF10:=HF9.out.setOver (nb:=w.heap.size) ⟨#[]⟩ (by omega);rw [<-HW10.out] at hF10;have hR10:=((hR6.out.trans (Rnd.ext X7.out (ltB hF6.out.blk) (Nat.le_trans hx2.out.size y26.out.size))).trans HR9.out).trans hF10.2
       have hfin:FoundIn (w3.heap.size+1) (w.heap.size+1) w3.heap.size (walkS ig (List.map clipW (pre++[x]))) W10 (fun i=>if i=0 then .slice va (s.items.length+1) vc else vs i) (us++[.slice ua (countN yd.size) uc]):=by
        rw [HN.out,stepW_item (ig:=ig) (s:=s) (x:=(yp,⟨1,yd,yt,ym⟩)) hsk.out htp hig hbd];exact hF10.1
       have hext:=Below.trans hx0.out hR10.kp.low;have hkp5:=hR10.keep hF0W.out h50.out (by omega) (by omega) (by omega);exact ⟨hR10.ko.from _,hR10.kp,⟨_,_,⟨hfin,hext,hkp5⟩⟩⟩
      ·have hbd:badN ⟨yk,yd,yt,ym⟩=true:=by unfold badN;rw [decide_eq_true hk,decide_eq_true h46];rfl
       subst he;clear hC;have hrw:=lh (hF6.out.row 3 (by decide));obtain ⟨ra,rc,hre⟩:=rowk_shape hrw.out;have HRE:=lh hre;have c6:W6.cell? ⟨w.heap.size+1,3,none⟩=some (.slice ra s.bad.length rc):=(cellB hF6.out.blk).trans (by rw [<-show vs 3=.slice ra s.bad.length rc from hre];rfl);have HOW:=lh (show W6.ownsRow (w3.heap.size+1) 9 1 (.slice ra s.bad.length rc) s.bad.length (s.bad.map Value.string) from (show vs 3=.slice ra s.bad.length rc from hre)▸hrw.out);have hln:s.bad.length<=16384:=Nat.le_trans (rowOf_le s us 3 (by decide)) (Nat.le_of_lt htot);have h61:w3.heap.size+1<=W6.heap.size:=ltB hF6.out.over;clear hre hrw
       gi_wp2_with (first
        | (refine wpListIn_append_k elText (w3.heap.size+1) (.slice ra s.bad.length rc) s.bad.length (s.bad.map Value.string) (owns_ext HOW.out ((Ext.refl _).alloc _)) W6.heap.size [.string yp] rfl (.tmp 75) (.tmp 77) rfl rfl rfl rfl (fun j u hj=>(cellB (block_alloc_new W6 _)).trans (by simpa using hj)) (by simp [Value.oneCell']) (by omega) (by simp only [size_alloc];omega) ?_;intro v8 W8 ho8 hg8 hv8;obtain ⟨va,vc,hve⟩:=rowk_shape ho8;rw [hve] at ho8 hv8;rw [hve];have HO8:=lh ho8;have HG8:=lh hg8;have HV8:=lh hv8;clear ho8 hg8 hv8 hve;go_frame)
        | (refine wpListIn_store1 rfl _ _ _ rfl (w.heap.size+1) 3 (.slice va (s.bad.length+1) vc) rfl rfl (by kernel_rfl) rfl #[vs 0,vs 1,vs 2,vs 3] 37 ((HG8.out.block (w.heap.size+1) (ltB (hF6.out.ext ((Ext.refl _).alloc _)).blk) (fun e=>by have h1:=(hF6.out.below 3 (by decide) (w.heap.size+1) (by rw [show vs 3=_ from HRE.out];exact e.symm)).1;omega)).trans (hF6.out.ext ((Ext.refl _).alloc _)).blk) (by show 3<4;decide) ?_;intro W9 hw9;have HW9:=lh hw9;clear hw9;go_frame))
       have hg8:=HG8.out;have hv8:=HV8.out;rw [show Value.slice ra s.bad.length rc=vs 3 from HRE.out.symm] at hg8 hv8;have hF7:=hF6.out.ext ((Ext.refl W6).alloc (.cells #[.string yp] 9 (0,0)));have hF9:=hF7.addText (j:=3) (by decide) (by decide) yp HO8.out hg8 hv8;have hR9:=(hR6.out.trans (Rnd.ext ((Ext.refl W6).alloc (.cells #[.string yp] 9 (0,0))) (ltB hF6.out.blk) (Nat.le_trans hx2.out.size y26.out.size))).trans (hF7.addR (nb:=w.heap.size) (j:=3) (by decide) hg8 hv8 (by omega) (by omega));rw [<-HW9.out] at hF9 hR9
       have hfin:FoundIn (w3.heap.size+1) (w.heap.size+1) w3.heap.size (walkS ig (List.map clipW (pre++[x]))) W9 (fun i=>if i=3 then .slice va (s.bad.length+1) vc else vs i) us:=by
        rw [HN.out,stepW_bad (ig:=ig) (s:=s) (x:=(yp,⟨yk,yd,yt,ym⟩)) hsk.out htp hig hbd];exact hF9
       have hext:=Below.trans hx0.out hR9.kp.low;have hkp5:=hR9.keep hF0W.out h50.out (by omega) (by omega) (by omega);exact ⟨hR9.ko.from _,hR9.kp,⟨_,us,⟨hfin,hext,hkp5⟩⟩⟩
  case done =>
   rintro Dd xs W hDd hS ⟨vs,us,hF,hx,h5⟩ hK;have hF:=lh hF;have hx:=lh hx;have hK:=lh hK;have hst:walkS ig (xs.map clipW)=walkS ig (eachL D root):=by rw [show xs=eachL D root from hS,clip_each R root]
   rw [hst] at hF;clear h5 hst;have HV1:=lh (show (prog.info? 37).map (·.size)=some (#[vs 0,vs 1,vs 2,vs 3]:Array Value).size from by kernel_rfl)
   have HV3:=lh (show (#[vs 0,vs 1,vs 2,vs 3]:Array Value).all (·.oneCell')=true from by
    obtain ⟨a0,c0,e0⟩:=rowk_shape (hF.out.row 0 (by decide));obtain ⟨a1,c1,e1⟩:=rowk_shape (hF.out.row 1 (by decide));obtain ⟨a2,c2,e2⟩:=rowk_shape (hF.out.row 2 (by decide));obtain ⟨a3,c3,e3⟩:=rowk_shape (hF.out.row 3 (by decide));rw [e0,e1,e2,e3]
    simp [Value.oneCell'])
   gi_wp2_with (first
    | (refine wpListIn_load_row rfl 37 (.tmp 6) rfl (w.heap.size+1) rfl 37 _ (0,0) _ hF.out.blk underlying37 rfl HV1.out ?_;go_frame)
    | (refine wpListIn_storeT rfl _ _ _ rfl (w.heap.size+1) #[vs 0,vs 1,vs 2,vs 3] rfl rfl 37 _ hF.out.blk HV1.out rfl HV3.out ?_;intro W6 hb6 ht6;have HB6':=lh hb6;have HT6:=lh ht6;clear hb6 ht6;go_frame))
   have hDne:Dd≠w.heap.size+1:=by have:=ltB hb6.out;omega
   have hK6:W6.heap[Dd]?=some (.deferred (some [])):=(HT6.out.block Dd (ltB hK.out) (fun e=>hDne (Option.some.inj e))).trans hK.out;have hB7:(W6.putObj Dd (.deferred none)).heap[w.heap.size+1]?=some (.cells #[vs 0,vs 1,vs 2,vs 3] 37 (0,0)):=(World.putObj_heap_other (fun e=>hDne e.symm)).trans HB6'.out
   have hk7:∀ b c t f,W.heap[b]?=some (Obj.cells c t f)->b≠w.heap.size+1->(W6.putObj Dd (.deferred none)).heap[b]?=W.heap[b]?:=fun b c t f hc hne =>
    (World.putObj_heap_other (fun e=>by rw [e,hK.out] at hc;cases hc)).trans (HT6.out.block b (ltB hc) (fun e=>hne (Option.some.inj e)))
   have hrow:∀ {e:TypeId} {m n:Nat} {v:Value} {ys:List Value},W.ownsRow (w3.heap.size+1) e m v n ys->∀ b,v.ownBlock=some b->(W6.putObj Dd (.deferred none)).heap[b]?=W.heap[b]?:=fun {e m n v ys} ho b hb=>by
    rcases ho.2 with ⟨he,_⟩ | ⟨g,cap,cur,he,hbase,hh,_⟩
    ·rw [he] at hb;simp [Value.ownBlock] at hb
    ·rw [he] at hb;simp [Value.ownBlock] at hb;subst hb;exact hk7 g _ _ _ hh (by omega)
   refine ⟨by simp,.inl ⟨_,_,rfl,run_takeDeferred hK6,?_⟩⟩;refine ⟨_,results_row1 rfl _ _ (w.heap.size+1) 37 _ (0,0) _ rfl hB7 underlying37 rfl HV1.out,_,by rw [hroot];rfl,⟨⟨vs,us,rfl,fun j hj=>?_,hF.out.len,fun k x u hx1 hu1=>?_⟩,?_⟩⟩
   ·exact owns_down (owns_blocks (hF.out.row j hj) (hrow (hF.out.row j hj))) (by omega)
   ·rcases hF.out.hs k x u hx1 hu1 with h1 | ⟨h1,h2,h3,h4⟩
    ·exact .inl h1
    ·exact .inr ⟨h1,h2,owns_down (owns_blocks h3 (hrow h3)) (by omega),h4⟩
   ·have x6:=HT6.out.fresh hx.out (by omega)
    exact x6.grown (grownBy_putObj' W6 Dd _) x6.size fun k e=>by
     have:=Option.some.inj e;have:=XX.out.size;omega
 ·have hel:eachL D root=[]:=by unfold eachL;rw [if_neg hroot]
  have hne:decide (rootE D.live root=0)=false:=decide_eq_false hroot;rw [hel];generalize rootE D.live root=RE at *;gi_wp2;refine ⟨trivial,(callsIn_wide.2 HRt.out).mono ?_⟩;rintro e w3 ⟨rfl,x3⟩;have HB6:=lh ((x3.block (ltB HZ1.out)).trans HZ1.out);have X3:=lh (HX2.out.trans x3);gi_wp2_with (refine wpListIn_storeT rfl _ _ _ rfl (w.heap.size+1) found0 rfl rfl 37 _ HB6.out HA1.out rfl HA3.out ?_;intro W6 hb6 ht6;have HB6':=lh hb6;have HT6:=lh ht6;clear hb6 ht6;go_frame);exact ⟨_,results_row1 rfl _ _ (w.heap.size+1) 37 _ (0,0) _ rfl HB6'.out underlying37 rfl HA1.out,_,rfl,⟨FoundC.nothing _ _,HT6.out.fresh X3.out (by omega)⟩⟩
end
section
end
section
theorem itemU_len (x:ByteArray×Nd) (u:Value):(itemU x u).length=27:=by
 unfold itemU;split <;> rfl
theorem rowsU_get:∀ (l:Nodes) (us:List Value) (k j:Nat) (x:ByteArray×Nd) (u:Value),l[k]?=some x->us[k]?=some u->j<27->(rowsU l us)[k*27+j]?=(itemU x u)[j]?:=by
 intro l
 induction l with
 | nil=>intro us k j x u h;simp at h
 | cons y r ih =>
  intro us k j x u h hu hj
  cases us with
  | nil=>simp at hu
  | cons v us =>
   show (itemU y v++rowsU r us)[k*27+j]?=_
   cases k with
   | zero =>
    cases h
    cases hu
    rw [Nat.zero_mul,Nat.zero_add,List.getElem?_append_left (by rw [itemU_len];exact hj)]
   | succ k =>
    rw [List.getElem?_append_right (by rw [itemU_len];omega),itemU_len];have h1:r[k]?=some x:=by simpa using h
    have h2:us[k]?=some u:=by simpa using hu
    rw [show (k+1)*27+j - 27=k*27+j from by omega];exact ih us k j x u h1 h2 hj
def ItemsAt (w:World) (v:Value) (l:Nodes):Prop :=
 ∃ (a:Option Addr) (cap:Nat),v=.slice a l.length cap/\l.length<=cap/\cap<=9223372036854775807/\∀ (k:Nat) x,l[k]?=some x->∃ g u,a=some ⟨g,0,none⟩/\HashU w 0 [] x u/\∀ (j:Nat) y,(itemU x u)[j]?=some y->w.cell? ⟨g,k*27+j,none⟩=some y
theorem row_cells {w:World} {base m n:Nat} {e:TypeId} {v:Value} {xs:List Value} (h:w.ownsRow base e m v n xs):∃ (a:Option Addr) (cap:Nat),v=.slice a n cap/\n<=cap/\cap<=9223372036854775807/\(a=none->n=0/\cap=0)/\∀ (k:Nat) x,xs[k]?=some x->∃ g,a=some ⟨g,0,none⟩/\base<=g/\g<w.heap.size/\w.cell? ⟨g,k,none⟩=some x:=by
 rcases h.2 with ⟨rfl,rfl⟩ | ⟨g,cap,cur,rfl,hb,hh,h1,h2,h3,h4⟩
 ·refine ⟨none,0,rfl,by omega,by omega,fun _=>⟨rfl,rfl⟩,fun k x hx=>?_⟩;have h1:=(List.getElem?_eq_some_iff.1 hx).1;rw [h.1,Nat.zero_mul] at h1;omega
 ·refine ⟨_,cap,rfl,h1,h2,fun e=>(by cases e),fun k x hx=>⟨g,rfl,hb,ltB hh,?_⟩⟩;refine (cellB hh).trans ?_;rw [<-h4] at hx;rw [List.getElem?_take] at hx;split at hx
  ·rw [<-Array.getElem?_toList];exact hx
  ·cases hx
theorem FoundC.items {base:Nat} {w:World} {s:WSt} {C:Array Value} (h:FoundC base w s C):∃ v0 v1 v2 v3,C=#[v0,v1,v2,v3]/\ItemsAt w v0 s.items/\TextsOwn w v1 s.temps/\TextsOwn w v2 s.ign/\TextsOwn w v3 s.bad:=by
 obtain ⟨vs,us,rfl,hr,hl,hh⟩:=h;refine ⟨vs 0,vs 1,vs 2,vs 3,rfl,?_,TextsOwn.of (hr 1 (by decide)) rfl,TextsOwn.of (hr 2 (by decide)) rfl,TextsOwn.of (hr 3 (by decide)) rfl⟩;obtain ⟨a,cap,e,h1,h2,_,h3⟩:=row_cells (hr 0 (by decide));refine ⟨a,cap,e,h1,h2,fun k x hx=>?_⟩;have hk:k<us.length:=by rw [hl];exact (List.getElem?_eq_some_iff.1 hx).1
 have hu:us[k]?=some us[k]:=List.getElem?_eq_getElem hk;have h0:(itemU x us[k])[0]?=some (.string x.1):=by unfold itemU;split <;> rfl
 obtain ⟨g,rfl,_⟩:=h3 (k*27+0) _ ((rowsU_get s.items us k 0 x _ hx hu (by decide)).trans h0);refine ⟨g,us[k],rfl,?_,fun j y hj=>?_⟩
 ·rcases hh k x _ hx hu with e | ⟨e1,e2,e3,e4⟩
  ·exact .inl e
  ·exact .inr ⟨e1,e2,owns_down e3 (Nat.zero_le _),e4⟩
 ·have hj27:j<27:=by
   have:=(List.getElem?_eq_some_iff.1 hj).1
   rwa [itemU_len] at this
  obtain ⟨g2,e2,_,_,hc⟩:=h3 (k*27+j) y ((rowsU_get s.items us k j x _ hx hu hj27).trans hj)
  cases e2
  exact hc
theorem ItemsAt.ext {w w':World} {v:Value} {l:Nodes} (h:ItemsAt w v l) (x:Ext w w'):ItemsAt w' v l:=by
 obtain ⟨a,cap,e,h1,h2,h3⟩:=h;refine ⟨a,cap,e,h1,h2,fun k y hy=>?_⟩;obtain ⟨g,u,e1,e2,e3⟩:=h3 k y hy;exact ⟨g,u,e1,e2.kept fun b hb=>x.block (e2.own b hb).2,fun j z hz=>(x.cell (lt_of_cell (e3 j z hz))).trans (e3 j z hz)⟩
def pathsT (l:Nodes):ByteArray:=l.foldl (fun s x=>s++x.1++⟨#[32]⟩) ⟨#[]⟩
theorem pathsT_next {l:Nodes} {k:Nat} {x:ByteArray×Nd} (h:l[k]?=some x):pathsT (l.take (k+1))=pathsT (l.take k)++x.1++⟨#[32]⟩:=by
 rw [List.take_add_one,h];unfold pathsT;rw [List.foldl_append];rfl
theorem pathsT_size {l:Nodes} (h:∀ x∈l,x.1.size<=160) (k:Nat):(pathsT (l.take k)).size<=k*161:=by
 induction k with
 | zero=>rw [List.take_zero];exact Nat.le_refl _
 | succ k ih =>
  rcases Nat.lt_or_ge k l.length with hk | hk
  ·rw [pathsT_next (List.getElem?_eq_getElem hk)];have:=h _ (List.getElem_mem hk);have h1:(⟨#[32]⟩:ByteArray).size=1:=rfl;simp only [ByteArray.size_append,h1];omega
  ·rw [List.take_of_length_le (by omega)] at ih ⊢;omega
set_option maxRecDepth 100000 in
set_option maxHeartbeats 2000000 in
theorem paths_any {w:World} {v:Value} {l:Nodes} (h:ItemsAt w v l) (hl:l.length<=20000) (hs:∀ x∈l,x.1.size<=160) :
  Calls prog 23 #[v] w fun e w'=>e=.returned (.string (pathsT l))/\Ext w w':=by
 obtain ⟨a,cap,rfl,h1,h2,h3⟩:=h;have HC:=lh h3;have HS:=lh (pathsT_size hs);obtain ⟨n,hn⟩:∃ n,n=l.length:=⟨_,rfl⟩;have HL:=lh hn;have HE:=lh (show pathsT (l.take n)=pathsT l from by rw [hn,List.take_length]);have HM:=lh hs;rw [<-hn] at hl h1 ⊢;clear hn h3 hs;go_enter func23,ntmps23;go_wp2_with fail;go_loopw [3,4] (fun sv iv wr=>Hid (∃ k:Nat,k<=n/\iv=.int .i64 k/\sv=.string (pathsT (l.take k))/\Ext w wr)) (fun _ iv _=>n - (intOf iv).toNat)
 case atStart=>exact ⟨0,Nat.zero_le _,rfl,rfl,Ext.refl _⟩
 case round =>
  obtain ⟨k,hk,rfl,rfl,hx⟩:=hrel.out;clear hrel;have HX:=lh hx;by_cases hlt:k<n
  ·obtain ⟨x,hxk⟩:∃ x,l[k]?=some x:=⟨_,List.getElem?_eq_getElem (by have:=HL.out;omega)⟩;obtain ⟨g,u,rfl,_,hc⟩:=HC.out k x hxk;have h0:(itemU x u)[0]?=some (.string x.1):=by unfold itemU;split <;> rfl
   have c0:wr.cell? ⟨g,k*27,none⟩=some (.string x.1):=(hx.cell (lt_of_cell (hc 0 _ h0))).trans (hc 0 _ h0);have HN:=lh (pathsT_next hxk);have z1:=HS.out k;have z2:=HM.out x (List.mem_of_getElem? hxk);obtain ⟨xp,xn⟩:=x;dsimp only at *;generalize pathsT (l.take k)=q0 at *;have z3:q0.size<=3220000:=by omega
   clear hc h0 hxk hx;go_wp2_with fail;go_roundw
   case rel=>exact ⟨k+1,by omega,by go_num,by rw [HN.out],HX.out⟩
   case measure=>simp [intOf] <;> omega
  ·obtain rfl:k=n:=by omega
   rw [HE.out];obtain ⟨q,hq⟩:∃ q,q=pathsT l:=⟨_,rfl⟩;have HQ:=lh hq;rw [<-hq];clear hq;have nlt:decide ((k:Int)<(k:Int))=false:=by simp
   clear hx;go_wp2_with fail;go_ret;exact ⟨by rw [<-HQ.out];rfl,HX.out⟩
end
section
theorem join_one {w:World} {v:Value} {x:ByteArray} (h:TextsOwn w v [x]) (sep:ByteArray) (hx:x.size<=100000):Calls prog 22 #[v,.string sep] w fun e w'=>e=.returned (.string x)/\Ext w w':=by
 obtain ⟨⟨a,cap,rfl,h1,h2⟩,hg⟩:=h;obtain ⟨g,rfl,hc⟩:=hg a _ cap rfl 0 x rfl
 have hj:(⟨(Lib.join ([x].map (·.data.toList)) sep.data.toList).toArray⟩:ByteArray)=x:=by
  obtain ⟨x⟩:=x;simp [Lib.join]
 have:=Tryz.strings_Join g 0 cap [x] sep w (fun j y hy=>by
  cases j with
  | zero=>cases hy;exact hc
  | succ j=>simp at hy) (lt_of_cell hc) (by simp) h1 (by
   have e:(Lib.join ([x].map (·.data.toList)) sep.data.toList).length=x.size:=by
    have:=congrArg ByteArray.size hj
    simpa [size_mk] using this
   rw [e];omega)
 rw [hj] at this;exact this
def aIg:ByteArray->Bool:=fun p=>(matchesL [[101]] p).1
def aItems:Nodes:=[(⟨#[97]⟩,⟨1,tAbc,emp,5⟩),(⟨#[100]⟩,dirN),(⟨#[122]⟩,⟨3,emp,⟨#[97]⟩,6⟩)]
theorem aw_walk (Y:ByteArray):walkS aIg (gE Y)=⟨aItems,[⟨#[100,47,126,116,126,120]⟩],[⟨#[100,47,101]⟩],[],⟨#[]⟩⟩:=by kernel_rfl
theorem aw_paths:pathsT aItems=⟨#[97,32,100,32,122,32]⟩:=by kernel_rfl
theorem aw_call {w0 w:World} {A B:List Thing} {d ll:Nat} (h:Things w0 w (A++.disk d gD::B)) (E:Env w) (T:ShaTabs w) (hL:IsList w ll [[101]]) :
  Calls prog 17 #[.pointer (some ⟨d,0,none⟩),.string nF1,.pointer (some ⟨ll,0,none⟩)] w fun e w'=>∃ v0 v1 v2 v3,e=.returned (.tuple #[.agg #[v0,v1,v2,v3],.int .i64 0])/\Hid (ItemsAt w' v0 aItems/\TextsOwn w' v1 [⟨#[100,47,126,116,126,120]⟩]/\TextsOwn w' v2 [⟨#[100,47,101]⟩]/\TextsOwn w' v3 []/\Ext w w'):=by
 refine (disk_ext h fun M I hd=>walk_any hd gD_run.run (gD_run.run.fit (by decide)) E T nF1 (by decide) (some ⟨ll,0,none⟩) aIg fun w' p x hp=>(match_at (by omega) (hL.ext x) (E.ext x)).mono fun e w'' ⟨h1,h2⟩=>⟨_,h1,h2⟩).mono ?_;rintro e w' ⟨C,he,h1,h2⟩;rw [gD_root] at he;rw [gD_each,aw_walk] at h1;obtain ⟨v0,v1,v2,v3,rfl,k0,k1,k2,k3⟩:=h1.items;exact ⟨v0,v1,v2,v3,he,⟨k0,k1,k2,k3,h2⟩⟩
set_option maxRecDepth 100000 in
set_option maxHeartbeats 4000000 in
theorem awake17_any (w:World) (E:Env w) (T:ShaTabs w):Calls prog 14 #[] w fun e w'=>e=.returned (.bool true)/\Ext w w':=by
 have HG:=lh (given_any w E);have HE:=lh E;have HT:=lh T;have HN1:=lh (show nF1=⟨#[102,49]⟩ from rfl);clear E T;go_enter func14,ntmps14;go_wp2_with fail;refine HG.out.mono ?_;rintro e w1 ⟨d,rfl,h1⟩;have H1:=h1;have X1:=lh h1.out.is_ext;clear h1;go_wp2_with fail;refine (list_any w1 (HE.out.ext X1.out)).mono ?_;rintro e w2 ⟨ll,rfl,h2⟩;have H2:=h2;have X2:=lh (X1.out.trans h2.out.2);have HW:=lh (aw_call (A:=[]) (B:=[]) (H1.out.ext H2.out.2) (HE.out.ext X2.out) (HT.out.ext X2.out) H2.out.1);rw [HN1.out] at HW;clear h2;go_wp2_with fail;refine HW.out.mono ?_;rintro e w3 ⟨v0,v1,v2,v3,rfl,h3⟩;have H3:=h3;have X3:=lh (X2.out.trans h3.out.2.2.2.2);obtain ⟨a0,c0,rfl,_⟩:=h3.out.1;obtain ⟨⟨a1,c1,rfl,_⟩,_⟩:=h3.out.2.1;obtain ⟨⟨a2,c2,rfl,_⟩,_⟩:=h3.out.2.2.1;obtain ⟨⟨a3,c3,rfl,_⟩,_⟩:=h3.out.2.2.2.1;clear h3 HW;go_wp2_with fail;have HB:=lh (block_alloc_new w3 (.cells #[.slice a0 aItems.length c0,.slice a1 1 c1,.slice a2 1 c2,.slice a3 0 c3] 37 (0,0)));have X4:=lh ((Ext.refl w3).alloc (.cells #[.slice a0 aItems.length c0,.slice a1 1 c1,.slice a2 1 c2,.slice a3 0 c3] 37 (0,0)))
 have HP:=lh (paths_any (H3.out.1.ext X4.out) (by decide) (fun x hx=>by
  simp only [aItems,List.mem_cons,List.not_mem_nil,or_false] at hx
  rcases hx with rfl | rfl | rfl <;> decide))
 rw [aw_paths] at HP;refine HP.out.mono ?_;rintro e w5 ⟨rfl,x5⟩;have HB5:=lh ((x5.block (ltB HB.out)).trans HB.out);have X5:=lh (X4.out.trans x5);have k1:w5.cell? ⟨w3.heap.size,1,none⟩=some (.slice a1 1 c1):=cellB HB5.out;clear x5 HP;go_wp2_with fail
 refine (join_one ⟨(H3.out.2.1).shape,fun a n cap e k s hs=>by
  obtain ⟨g,e1,e2⟩:=H3.out.2.1.get a n cap e k s hs
  exact ⟨g,e1,(X5.out.cell (lt_of_cell e2)).trans e2⟩⟩ _ (by decide)).mono ?_
 rintro e w6 ⟨rfl,x6⟩;have HB6:=lh ((x6.block (ltB HB5.out)).trans HB5.out);have X6:=lh (X5.out.trans x6);have k2:w6.cell? ⟨w3.heap.size,2,none⟩=some (.slice a2 1 c2):=cellB HB6.out;clear x6 k1;go_wp2_with fail
 refine (join_one ⟨(H3.out.2.2.1).shape,fun a n cap e k s hs=>by
  obtain ⟨g,e1,e2⟩:=H3.out.2.2.1.get a n cap e k s hs
  exact ⟨g,e1,(X6.out.cell (lt_of_cell e2)).trans e2⟩⟩ _ (by decide)).mono ?_
 rintro e w7 ⟨rfl,x7⟩;have HB7:=lh ((x7.block (ltB HB6.out)).trans HB6.out);have k3:w7.cell? ⟨w3.heap.size,3,none⟩=some (.slice a3 0 c3):=cellB HB7.out;have X7:=lh (X3.out.trans (X6.out.trans x7));clear x7 k2;go_wp2_with fail;go_ret;exact ⟨rfl,X7.out⟩
end
section
theorem TextsAt.of_files {w:World} {v:Value} {fs:List (ByteArray×ByteArray)} (h:FilesIn w v fs):TextsAt w v fs:=by
 obtain ⟨a,cap,h1,h2,h3,h4⟩:=h;refine ⟨a,cap,h1,h2,h3,fun j f hj=>?_⟩;obtain ⟨g,o,e,c1,c2⟩:=h4 j f hj;exact ⟨g,o,e,by rw [Nat.mul_comm 2 j];exact c1,by rw [Nat.mul_comm 2 j];exact c2⟩
def patR (R:Except Nat (List Txt)) (p:ByteArray):Bool:=match R with | .ok ts=>(matchesL ts p).1 | .error _=>false
def patE (R:Except Nat (List Txt)):Int:=match R with | .ok _=>0 | .error k=>(k:Nat)
def PatAs (w:World) (lv:Option Addr) (ig:ByteArray->Bool):Prop :=
 ∀ (w':World) (p:ByteArray),Ext w w'->p.size<=160->Calls prog 70 #[.pointer lv,.string p] w' fun e w''=>∃ b,e=.returned (.tuple #[.bool (ig p),.bool b])/\Ext w' w''
theorem PatAs.ext {w w':World} {lv:Option Addr} {ig:ByteArray->Bool} (h:PatAs w lv ig) (x:Ext w w'):PatAs w' lv ig:=fun w2 p x2 hp=>h w2 p (x.trans x2) hp
theorem PatAs.nil (w:World):PatAs w none (fun _=>false):=fun w' p _ _=>(ilmatch_nil p w').mono fun _ _ ⟨h1,h2⟩=>⟨false,h1,h2▸Ext.refl _⟩
theorem parse17_any {vf:Value} {fs:List (ByteArray×ByteArray)} {w:World} (hF:FilesIn w vf fs) (hfs:∀ f∈fs,f.1.size<=8000/\f.2.size<=8000) (E:Env w) :
  Calls prog 16 #[vf,.string ⟨#[105]⟩] w fun e w'=>∃ lv,e=.returned (.tuple #[.pointer lv,.int .i64 (patE (parseL (fsL fs) (⟨#[105]⟩:ByteArray).toList))])/\Hid (Ext w w'/\PatAs w' lv (patR (parseL (fsL fs) (⟨#[105]⟩:ByteArray).toList))):=by
 have hT:=TextsAt.of_files hF
 have hfs':∀ f∈fs,f.1.size<=maxLen/\f.2.size<4294967281:=fun f hf=>by
  have:=hfs f hf;unfold maxLen;omega
 cases hR:parseL (fsL fs) (⟨#[105]⟩:ByteArray).toList with
 | ok ts =>
  refine (parse_ok hR hT hfs' (by decide) E).mono ?_;rintro e w' ⟨ll,he,h1,h2⟩;exact ⟨_,he,⟨h2,fun w2 p x hp=>(match_at (by omega) (h1.out.ext x) (E.ext (h2.trans x))).mono fun e w3 ⟨k1,k2⟩=>⟨_,k1,k2⟩⟩⟩
 | error k =>
  refine (parse_err hR hT hfs' (by decide) E).mono ?_;rintro e w' ⟨he,_,h2⟩;exact ⟨_,he,⟨h2,PatAs.nil _⟩⟩
theorem wcall_any {w0 w:World} {A B:List Thing} {d k:Nat} {D:Dk} {lv:Option Addr} {ig:ByteArray->Bool} (h:Things w0 w (A++.disk d D::B)) (R:RunF k D) (hk:k<=100000) (E:Env w) (T:ShaTabs w) (root:ByteArray) (hr:root.size<=100000) (hP:PatAs w lv ig) :
  Calls prog 17 #[.pointer (some ⟨d,0,none⟩),.string root,.pointer lv] w fun e w'=>∃ v0 v1 v2 v3,e=.returned (.tuple #[.agg #[v0,v1,v2,v3],.int .i64 (rootE D.live root)])/\Hid (ItemsAt w' v0 (walkS ig (eachL D root)).items/\TextsOwn w' v1 (walkS ig (eachL D root)).temps/\TextsOwn w' v2 (walkS ig (eachL D root)).ign/\TextsOwn w' v3 (walkS ig (eachL D root)).bad/\Ext w w'):=by
 refine (disk_ext h fun M I hd=>walk_any hd R.run (R.run.fit hk) E T root hr lv ig hP).mono ?_;rintro e w' ⟨C,he,h1,h2⟩;obtain ⟨v0,v1,v2,v3,rfl,k0,k1,k2,k3⟩:=h1.items;exact ⟨v0,v1,v2,v3,he,⟨k0,k1,k2,k3,h2⟩⟩
end
section
def primeAux:Nat->Nat->Nat->Bool
 | 0,_,_=>true
 | f+1,d,n=>if d*d<=n then (if n % d=0 then false else primeAux f (d+1) n) else true
def primeN (n:Nat):Bool:=primeAux 100 2 n&&decide (1<n)
set_option maxHeartbeats 1000000 in
set_option maxRecDepth 100000 in
theorem rprime_any (n:Nat) (hn:n<=400) (w:World) :
  Calls prog 318 #[.int .u64 n] w fun e w'=>e=.returned (.bool (primeN n))/\w'=w:=by
 unfold primeN;obtain ⟨B,hB⟩:∃ B,B=primeAux 100 2 n:=⟨_,rfl⟩;have HB:=lh hB;rw [<-hB];clear hB;go_enter func318,ntmps318;go_wp2_with fail;go_loopw [3] (fun d wr=>Hid (∃ k f:Nat,d=.int .u64 k/\2<=k/\k<=21/\f+k=102/\B=primeAux f k n/\wr=w)) (fun d _=>100 - (intOf d).toNat)
 case atStart=>exact ⟨2,100,rfl,by omega,by omega,by omega,HB.out,rfl⟩
 case round =>
  obtain ⟨k,f,rfl,h2,h21,hf,hB,rfl⟩:=hrel.out;clear hrel HB;obtain ⟨f,rfl⟩:∃ g,f=g+1:=⟨f - 1,by omega⟩;have hq:k*k<=21*21:=Nat.mul_le_mul h21 h21;rw [primeAux] at hB;obtain ⟨q,hq'⟩:∃ q,q=k*k:=⟨_,rfl⟩;have hm:IntKind.u64.wrap ((k:Int)*(k:Int))=(q:Int):=by rw [IntKind.wrap_u64,hq',<-Int.natCast_mul];omega
  have hle:k*k<=n->k+1<=21:=fun h=>by
   rcases Nat.lt_or_ge k 21 with h1 | h1
   ·omega
   ·have:=Nat.mul_le_mul h1 h1;omega
  rw [<-hq'] at hq hB hle;by_cases hlt:q<=n
  ·rw [if_pos hlt] at hB;have hle:=hle hlt;by_cases hz:n % k=0
   ·rw [if_pos hz] at hB;go_wp2_with fail;go_ret;exact ⟨by rw [hB];rfl,rfl⟩
   ·rw [if_neg hz] at hB;have HB:=lh hB;clear hB;go_wp2_with fail;go_roundw
    case rel=>exact ⟨k+1,f,by go_num,by omega,hle,by omega,HB.out,trivial⟩
    case measure=>simp [intOf];omega
  ·rw [if_neg hlt] at hB;subst hB;go_wp2_with fail;go_ret;exact ⟨by simp;omega,rfl⟩
theorem rturned_any (x:Wd) (n:Nat) (hn:1<=n) (h2:n<=31) (w:World) :
  Calls prog 281 #[.int .u32 x.toNat,.int .i64 n] w fun e w'=>e=.returned (.int .u32 (rotr x n).toNat)/\w'=w:=by
 go_enter func281,ntmps281
 have HR:=lh ((show bits .or .u32 ((x.toNat:Int) / 2 ^ n) ((x.toNat:Int)*2 ^ (32 - n) % 4294967296)=((rotr x n).toNat:Int) from by
  have e1:=wd_shr x n;have e2:=wd_shl x (32 - n);rw [Int.natCast_pow] at e1 e2;rw [show ((2:Nat):Int)=2 from rfl] at e1 e2
  rw [e1,e2,wd_or];rfl))
 go_wp2_with fail;go_ret;exact ⟨ret_int HR.out,rfl⟩
theorem rtimes_any (hi lo x:Nat) (hl:lo<18446744073709551616) (hx:x<18446744073709551616) (hs:lo*x / 18446744073709551616+hi*x<18446744073709551616) (w:World) :
  Calls prog 319 #[.int .u64 hi,.int .u64 lo,.int .u64 x] w fun e w'=>e=.returned (.tuple #[.int .u64 ((lo*x / 18446744073709551616+hi*x:Nat):Int),.int .u64 ((lo*x % 18446744073709551616:Nat):Int)])/\w'=w:=by
 have HC:=lh (Tryz.bits_Mul64 lo x hl hx w);generalize lo*x / 18446744073709551616=a at *;generalize lo*x % 18446744073709551616=b at *;obtain ⟨q,hq⟩:∃ q,q=hi*x:=⟨_,rfl⟩;have hm:(hi:Int)*(x:Int)=(q:Int):=by rw [hq];exact (Int.natCast_mul hi x).symm
 rw [<-hq] at hs ⊢;clear hq;go_enter func319,ntmps319;go_wp2_with fail;refine HC.out.mono ?_;rintro e w1 ⟨rfl,rfl⟩;go_wp2_with fail;go_ret2;exact ⟨rfl,rfl⟩
theorem rabove_0 (hi lo n:Nat) (hh:hi<18446744073709551616) (hl:lo<18446744073709551616) (hn:n<4294967296) (w:World) :
  Calls prog 320 #[.int .u64 hi,.int .u64 lo,.int .u64 n,.int .i64 0] w fun e w'=>e=.returned (.bool (decide (n*18446744073709551616<hi*18446744073709551616+lo)))/\w'=w:=by
 have e:decide (n*18446744073709551616<hi*18446744073709551616+lo)=if n<hi then true else if hi=n then decide (0<lo) else false:=by
  split
  ·simp;omega
  ·split
   ·subst_vars;simp
   ·simp;omega
 rw [e];clear e;by_cases h1:n<hi
 ·rw [if_pos h1];go_enter func320,ntmps320;go_wp2_with fail;go_ret;exact ⟨rfl,rfl⟩
 ·rw [if_neg h1];by_cases h2:hi=n
  ·subst h2;rw [if_pos rfl];go_enter func320,ntmps320;go_wp2_with fail;go_ret;exact ⟨rfl,rfl⟩
  ·rw [if_neg h2];have h3:((hi:Int)==n)=false:=by simp;omega
   go_enter func320,ntmps320;go_wp2_with fail;go_ret;exact ⟨rfl,rfl⟩
theorem rabove_32 (hi lo n:Nat) (hh:hi<18446744073709551616) (hl:lo<18446744073709551616) (hn:n<4294967296) (w:World) :
  Calls prog 320 #[.int .u64 hi,.int .u64 lo,.int .u64 n,.int .i64 32] w fun e w'=>e=.returned (.bool (decide (n*4294967296*18446744073709551616<hi*18446744073709551616+lo)))/\w'=w:=by
 obtain ⟨m,hm⟩:∃ m,m=n*4294967296:=⟨_,rfl⟩;have hm':(n:Int)*4294967296 % 18446744073709551616=(m:Int):=by omega
 have hm2:(n:Int)*4294967296=(m:Int):=by omega
 rw [<-hm];have hm3:m<18446744073709551616:=by omega
 clear hm
 have e:decide (m*18446744073709551616<hi*18446744073709551616+lo)=if m<hi then true else if hi=m then decide (0<lo) else false:=by
  split
  ·simp;omega
  ·split
   ·subst_vars;simp
   ·simp;omega
 rw [e];clear e;by_cases h1:m<hi
 ·rw [if_pos h1];go_enter func320,ntmps320;go_wp2_with fail;go_ret;exact ⟨rfl,rfl⟩
 ·rw [if_neg h1];by_cases h2:hi=m
  ·subst h2;rw [if_pos rfl];go_enter func320,ntmps320;go_wp2_with fail;go_ret;exact ⟨rfl,rfl⟩
  ·rw [if_neg h2];have h3:((hi:Int)==m)=false:=by simp;omega
   go_enter func320,ntmps320;go_wp2_with fail;go_ret;exact ⟨rfl,rfl⟩
end
section
def primesTo (n:Nat):List Nat:=((List.range n).map (·+2)).filter primeN
theorem primesTo_step (n:Nat):primesTo (n+1)=primesTo n++(if primeN (n+2) then [n+2] else []):=by
 unfold primesTo;rw [List.range_succ,List.map_append,List.filter_append];simp only [List.map_cons,List.map_nil];split <;> simp_all
theorem primes_few:∀ n,n<310->(primesTo n).length<64:=by decide +kernel
theorem primes_all:(primesTo 310).length=64:=by decide +kernel
def primes64:List Nat:=primesTo 310
theorem el_u64:Elem prog 344 266 (.int .u64 0) 8:=⟨by kernel_rfl,by kernel_rfl,rfl,by decide⟩
theorem owns_slice {w:World} {base n:Nat} {e:TypeId} {v:Value} {xs:List Value} (h:w.ownsRow base e 1 v n xs):∃ a cap,v=.slice a n cap:=by
 rcases h.2 with ⟨h1,h2⟩ | ⟨g,cap,cur,hv,_⟩
 ·exact ⟨none,0,by rw [h1,h2]⟩
 ·exact ⟨_,cap,hv⟩
def uv (n:Nat):Value:=.int .u64 n
set_option maxHeartbeats 1000000 in
set_option maxRecDepth 100000 in
theorem rprimes_any (w:World) :
  Calls prog 276 #[.int .i64 64] w fun e w'=>∃ v,e=.returned v/\CellsAt w' v (primes64.map uv)/\Ext w w':=by
 have HALL:=lh primes_all;have HFEW:=lh primes_few;have HP:=fun n h w=>lh (rprime_any n h w);go_enter func276,ntmps276;go_wp2_with fail;go_loopw [3,4] (fun v n wr=>Hid (∃ k:Nat,k<=310/\n=.int .u64 (k+2:Nat)/\wr.ownsRow w.heap.size 266 1 v (primesTo k).length ((primesTo k).map uv)/\Ext w wr)) (fun _ n _=>400 - (intOf n).toNat)
 case atStart=>exact ⟨0,by omega,rfl,World.ownsRow_nil _ _ _ _,Ext.refl _⟩
 case round =>
  obtain ⟨k,hk,rfl,ho,hx⟩:=hrel.out;clear hrel;have HX:=lh hx;have HO:=lh ho;obtain ⟨a,cap,rfl⟩:=owns_slice ho;have hge:=own_block_ge ho;have hex:=HX.out.size;by_cases hlt:k<310
  ·have hln:=HFEW.out k hlt;have HS:=lh (primesTo_step k);have HPk:=lh (HP (k+2) (by omega) wr).out;clear ho hx
   cases hp:primeN (k+2)
   ·rw [hp,if_neg (by decide),List.append_nil] at HS;rw [hp] at HPk;clear hp;go_wp2_with fail;refine HPk.out.mono ?_;rintro e w1 ⟨rfl,rfl⟩;go_wp2_with fail;go_roundw
    case rel=>exact ⟨k+1,by omega,by go_num,by rw [HS.out];exact HO.out,HX.out⟩
    case measure=>simp [intOf];omega
   ·rw [hp,if_pos rfl] at HS;rw [hp] at HPk;clear hp;go_wp2_with fail;refine HPk.out.mono ?_;rintro e w1 ⟨rfl,rfl⟩;go_wp2_with (at_builtin;refine append_one el_u64 w.heap.size _ _ _ (HO.out.alloc _) w1.heap.size (uv (k+2)) (.tmp 13) (.tmp 15) rfl rfl rfl rfl ?c1 rfl (by omega) ?c2 ?_)
    case c1=>rw [cell_alloc_new rfl];rfl
    case c2=>simp;omega
    intro v' w2 hown1 hgr1 hv1;go_wp2_with fail;go_roundw
    case rel=>exact ⟨k+1,by omega,by go_num,by rw [HS.out];simpa using hown1,(HX.out.alloc _).grown hgr1 (by simp;omega) hge⟩
    case measure=>simp [intOf];omega
  ·have hk:k=310:=by omega
   subst hk;have hln:=HALL.out;have HC:=lh (CellsAt.of_owns (xs:=(primesTo 310).map uv) (by simpa using ho));rw [hln] at *;clear ho hx;go_wp2_with fail;go_ret;exact ⟨_,rfl,HC.out,HX.out⟩
end
section
def rootN (ok:Nat->Bool):Nat->Nat->Nat
 | 0,r=>r
 | b+1,r=>rootN ok b (if ok (r+2 ^ b) then r+2 ^ b else r)
def okSq (p x:Nat):Bool:=decide (x*x<=p*18446744073709551616)
def okCu (p x:Nat):Bool:=decide (x*x*x<=p*4294967296*18446744073709551616)
def squareN (p:Nat):Nat:=rootN (okSq p) 37 0
def cubeN (p:Nat):Nat:=rootN (okCu p) 36 0
theorem split64 (y:Nat):y / 18446744073709551616*18446744073709551616+y % 18446744073709551616=y:=by omega
set_option maxHeartbeats 1000000 in
set_option maxRecDepth 100000 in
theorem rsquare_any (p:Nat) (hp:p<=400) (w:World) :
  Calls prog 278 #[.int .u64 p] w fun e w'=>e=.returned (.int .u32 (squareN p % 4294967296:Nat))/\w'=w:=by
 obtain ⟨R,hR⟩:∃ R,R=squareN p:=⟨_,rfl⟩;have HR:=lh (show rootN (okSq p) 37 0=R from hR.symm);rw [<-hR];clear hR;have HT:=fun x hl hx hs w=>lh (rtimes_any 0 x x hl hx hs w);have HA:=fun hi lo h1 h2 w=>lh (rabove_0 hi lo p h1 h2 (by omega) w);go_enter func278,ntmps278;go_wp2_with fail;go_loopw [3,4] (fun rv bv wr=>Hid (∃ r b:Nat,b<=37/\rv=.int .u64 r/\bv=.int .i64 ((b:Int) - 1)/\r+2 ^ b<=2 ^ 37/\rootN (okSq p) b r=R/\wr=w)) (fun _ bv _=>(intOf bv+1).toNat)
 case atStart=>exact ⟨0,37,by omega,rfl,rfl,by omega,HR.out,rfl⟩
 case round =>
  obtain ⟨r,b,hb,rfl,rfl,hr,hR,rfl⟩:=hrel.out;clear hrel HR
  match b,hb,hr,hR with
  | 0,_,_,hR =>
   have HR:=lh (show r=R from hR);clear hR;go_wp2_with fail;go_ret;exact ⟨ret_int (by rw [<-HR.out];omega),rfl⟩
  | c+1,hb,hr,hR =>
   rw [rootN] at hR;rw [Nat.pow_succ] at hr;have e1:((c+1:Nat):Int) - 1=(c:Int):=by omega
   rw [e1];clear e1;obtain ⟨q,hq⟩:∃ q,q=2 ^ c:=⟨_,rfl⟩;obtain ⟨x,hx⟩:∃ x,x=r+q:=⟨_,rfl⟩;have HXQ:=lh (show 2 ^ c+r=x from by rw [hx,hq];omega);have HR2:=lh (show x+2 ^ c<=2 ^ 37 from by rw [hx,hq];omega);have HR3:=lh (show r+2 ^ c<=2 ^ 37 from by omega);rw [<-hq] at hr hR;rw [<-hx] at hR;have hq0:0<q:=by rw [hq];exact Nat.two_pow_pos c
   have hxb:x<137438953472:=by omega
   have hs:IntKind.u64.wrap ((2:Int) ^ c)=(q:Int):=by
    rw [show (2:Int) ^ c=((2 ^ c:Nat):Int) from (Int.natCast_pow 2 c).symm,<-hq,IntKind.wrap_u64];omega
   have hs2:IntKind.u64.wrap ((r:Int)+q)=(x:Int):=by rw [IntKind.wrap_u64];omega
   clear hq hx hr;have hxx:x*x<=137438953472*137438953472:=Nat.mul_le_mul (by omega) (by omega);obtain ⟨h1,hh1⟩:∃ h,h=x*x / 18446744073709551616:=⟨_,rfl⟩;obtain ⟨l1,hl1⟩:∃ h,h=x*x % 18446744073709551616:=⟨_,rfl⟩;have HC1:=lh (HT x (by omega) (by omega) (by omega) wr).out;have HC2:=lh (HA h1 l1 (by omega) (by omega) wr).out;rw [<-hh1,<-hl1,Nat.zero_mul,Nat.add_zero] at HC1
   have hdec:decide (p*18446744073709551616<h1*18446744073709551616+l1)=!okSq p x:=by
    rw [hh1,hl1,split64];unfold okSq;rw [<-decide_not,decide_eq_decide];omega
   clear hh1 hl1;have HDEC:=lh hdec;clear hdec
   cases hok:okSq p x
   ·rw [hok] at hR HDEC;rw [if_neg (by decide)] at hR;have HR:=lh hR;clear hR hok;go_wp2_with fail;refine HC1.out.mono ?_;rintro e w1 ⟨rfl,rfl⟩;go_wp2_with fail;refine HC2.out.mono ?_;rintro e w1 ⟨rfl,rfl⟩;rw [HDEC.out];go_wp2_with fail;go_roundw
    case rel=>exact ⟨r,c,by omega,rfl,by go_num,HR3.out,HR.out,trivial⟩
    case measure=>simp [intOf]
   ·rw [hok] at hR HDEC;rw [if_pos rfl] at hR;have HR:=lh hR;clear hR hok;go_wp2_with fail;refine HC1.out.mono ?_;rintro e w1 ⟨rfl,rfl⟩;go_wp2_with fail;refine HC2.out.mono ?_;rintro e w1 ⟨rfl,rfl⟩;rw [HDEC.out];go_wp2_with fail;go_roundw
    case rel=>exact ⟨x,c,by omega,rfl,by go_num,HR2.out,HR.out,trivial⟩
    case measure=>simp [intOf]
set_option maxHeartbeats 1000000 in
set_option maxRecDepth 100000 in
theorem rcube_any (p:Nat) (hp:p<=400) (w:World) :
  Calls prog 277 #[.int .u64 p] w fun e w'=>e=.returned (.int .u32 (cubeN p % 4294967296:Nat))/\w'=w:=by
 obtain ⟨R,hR⟩:∃ R,R=cubeN p:=⟨_,rfl⟩;have HR:=lh (show rootN (okCu p) 36 0=R from hR.symm);rw [<-hR];clear hR;have HT:=fun hi lo x hl hx hs w=>lh (rtimes_any hi lo x hl hx hs w);have HA:=fun hi lo h1 h2 w=>lh (rabove_32 hi lo p h1 h2 (by omega) w);go_enter func277,ntmps277;go_wp2_with fail;go_loopw [3,4] (fun rv bv wr=>Hid (∃ r b:Nat,b<=36/\rv=.int .u64 r/\bv=.int .i64 ((b:Int) - 1)/\r+2 ^ b<=2 ^ 36/\rootN (okCu p) b r=R/\wr=w)) (fun _ bv _=>(intOf bv+1).toNat)
 case atStart=>exact ⟨0,36,by omega,rfl,rfl,by omega,HR.out,rfl⟩
 case round =>
  obtain ⟨r,b,hb,rfl,rfl,hr,hR,rfl⟩:=hrel.out;clear hrel HR
  match b,hb,hr,hR with
  | 0,_,_,hR =>
   have HR:=lh (show r=R from hR);clear hR;go_wp2_with fail;go_ret;exact ⟨ret_int (by rw [<-HR.out];omega),rfl⟩
  | c+1,hb,hr,hR =>
   rw [rootN] at hR;rw [Nat.pow_succ] at hr;have e1:((c+1:Nat):Int) - 1=(c:Int):=by omega
   rw [e1];clear e1;obtain ⟨q,hq⟩:∃ q,q=2 ^ c:=⟨_,rfl⟩;obtain ⟨x,hx⟩:∃ x,x=r+q:=⟨_,rfl⟩;have HXQ:=lh (show 2 ^ c+r=x from by rw [hx,hq];omega);have HR2:=lh (show x+2 ^ c<=2 ^ 36 from by rw [hx,hq];omega);have HR3:=lh (show r+2 ^ c<=2 ^ 36 from by omega);rw [<-hq] at hr hR;rw [<-hx] at hR;have hq0:0<q:=by rw [hq];exact Nat.two_pow_pos c
   have hxb:x<68719476736:=by omega
   have hs:IntKind.u64.wrap ((2:Int) ^ c)=(q:Int):=by
    rw [show (2:Int) ^ c=((2 ^ c:Nat):Int) from (Int.natCast_pow 2 c).symm,<-hq,IntKind.wrap_u64];omega
   have hs2:IntKind.u64.wrap ((r:Int)+q)=(x:Int):=by rw [IntKind.wrap_u64];omega
   clear hq hx hr;have hxx:x*x<=68719476736*68719476736:=Nat.mul_le_mul (by omega) (by omega);have hxxx:x*x*x<=68719476736*68719476736*68719476736:=Nat.mul_le_mul hxx (by omega);obtain ⟨h1,hh1⟩:∃ h,h=x*x / 18446744073709551616:=⟨_,rfl⟩;obtain ⟨l1,hl1⟩:∃ h,h=x*x % 18446744073709551616:=⟨_,rfl⟩;have hlx:l1*x<=18446744073709551615*68719476736:=Nat.mul_le_mul (by omega) (by omega);have hhx:h1*x<=256*68719476736:=Nat.mul_le_mul (by omega) (by omega);obtain ⟨h2,hh2⟩:∃ h,h=l1*x / 18446744073709551616+h1*x:=⟨_,rfl⟩;obtain ⟨l2,hl2⟩:∃ h,h=l1*x % 18446744073709551616:=⟨_,rfl⟩;have HC1:=lh (HT 0 x x (by omega) (by omega) (by omega) wr).out;have HC3:=lh (HT h1 l1 x (by omega) (by omega) (by omega) wr).out;have HC2:=lh (HA h2 l2 (by omega) (by omega) wr).out;rw [<-hh1,<-hl1,Nat.zero_mul,Nat.add_zero] at HC1;rw [<-hh2,<-hl2] at HC3
   have hdec:decide (p*4294967296*18446744073709551616<h2*18446744073709551616+l2)=!okCu p x:=by
    have e:x*x*x=h2*18446744073709551616+l2:=by
     have e1:x*x=h1*18446744073709551616+l1:=by rw [hh1,hl1,split64]
     have e2:(h1*18446744073709551616+l1)*x=h1*x*18446744073709551616+l1*x:=by
      rw [Nat.add_mul,Nat.mul_right_comm]
     rw [e1,e2,hh2,hl2];omega
    unfold okCu;rw [<-e,<-decide_not,decide_eq_decide];omega
   clear hh1 hl1 hh2 hl2 hxxx hlx hhx;have HDEC:=lh hdec;clear hdec
   cases hok:okCu p x
   ·rw [hok] at hR HDEC;rw [if_neg (by decide)] at hR;have HR:=lh hR;clear hR hok;go_wp2_with fail;refine HC1.out.mono ?_;rintro e w1 ⟨rfl,rfl⟩;go_wp2_with fail;refine HC3.out.mono ?_;rintro e w1 ⟨rfl,rfl⟩;go_wp2_with fail;refine HC2.out.mono ?_;rintro e w1 ⟨rfl,rfl⟩;rw [HDEC.out];go_wp2_with fail;go_roundw
    case rel=>exact ⟨r,c,by omega,rfl,by go_num,HR3.out,HR.out,trivial⟩
    case measure=>simp [intOf]
   ·rw [hok] at hR HDEC;rw [if_pos rfl] at hR;have HR:=lh hR;clear hR hok;go_wp2_with fail;refine HC1.out.mono ?_;rintro e w1 ⟨rfl,rfl⟩;go_wp2_with fail;refine HC3.out.mono ?_;rintro e w1 ⟨rfl,rfl⟩;go_wp2_with fail;refine HC2.out.mono ?_;rintro e w1 ⟨rfl,rfl⟩;rw [HDEC.out];go_wp2_with fail;go_roundw
    case rel=>exact ⟨x,c,by omega,rfl,by go_num,HR2.out,HR.out,trivial⟩
    case measure=>simp [intOf]
theorem table_cube:primes64.map (fun p=>cubeN p % 4294967296)=kTab:=by decide +kernel
theorem table_square:(primes64.take 8).map (fun p=>squareN p % 4294967296)=first8.list.map BitVec.toNat:=by decide +kernel
theorem primes_le:∀ p∈primes64,p<=400:=by decide +kernel
end
section
theorem append_lots {P:Program} {ops:Array Oper} {rest:List Oper} {o:Oper} {a:Act} {Q:Exit->Act->World->Prop} {w:World} {t e:TypeId} {z:Value} {bytes:Nat} (el:Elem P t e z bytes)
  (base:Nat) (v:Value) (n:Nat) (xs:List Value) (hown:w.ownsRow base e 1 v n xs) (ad:Option Addr) (m c:Nat) (us:List Value) (s x:Operand)
  (hgd:o.guard=none) (ho:o.op=.call { callee:=.builtin .append,args:=#[s,x],argTypes:=#[t,t] })
  (hs:a.eval s=v) (hx:a.eval x=.slice ad m c) (hl:us.length=m) (hz:ad=none->m=0/\c=0) (hnew:0<m->∃ g k,ad=some ⟨g,k,none⟩/\∀ (j:Nat) u,us[j]?=some u->w.cell? ⟨g,k+j,none⟩=some u) (h1:∀ u∈us,u.oneCell'=true) (hn:n+m<=68719476736) (hbase:base<=w.heap.size)
  (h:∀ v' w',w'.ownsRow base e 1 v' (n+m) (xs++us)->w.grownBy w' v.ownBlock->wpList P ops Q rest (a.put o.dst v') w'):wpList P ops Q (o::rest) a w:=by
 obtain ⟨i,hi,hz0,hsz,hby⟩:=info_parts el.info;have hf:=el.few
 cases ad with
 | none =>
  obtain ⟨rfl,rfl⟩:=hz rfl;have:us=[]:=List.length_eq_zero_iff.1 hl;subst this;refine wpList_append_own_none hgd s x t ho base e i 1 el.ut hi v n xs hs hown hx ?_;exact h v w (by simpa using hown) ⟨rfl,rfl,rfl,Nat.le_refl _,fun _ _ _=>rfl⟩
 | some A =>
  refine wpList_append_own w hgd s x t ho base e i z 1 bytes el.ut hi hz0 hsz hby el.one (by decide) v n xs hs hown A m c us hx (by omega) ?_ h1 ?_ ?_ hbase ?_
  ·intro j u hj;obtain ⟨g,k,e1,e2⟩:=hnew (by have:=(List.getElem?_eq_some_iff.1 hj).1;omega);injection e1 with e1
   subst e1
   rw [show (⟨g,k,none⟩:Addr).add j=⟨g,k+j,none⟩ from by
    unfold Addr.add;split
    ·rename_i h;subst h;rfl
    ·rfl]
   exact e2 j u hj
  ·unfold maxLen;omega
  ·have:(n+m)*bytes<=(n+m)*1024:=Nat.mul_le_mul_left _ hf;omega
  ·intro v' w' h2 h3 _;exact h v' w' h2 h3
theorem byte_at (n c:Nat) (x:UInt8) (h:(be8 n)[7 - c]?=some x) (hc:c<=7):((n:Int) / 2 ^ (8*c)) % 256=(x.toNat:Int):=by
 rw [be8_at n (7 - c) (by omega),show 56 - 8*(7 - c)=8*c from by omega] at h;injection h with h
 subst h;unfold byteOf;rw [UInt8.toNat_ofNat',show (2:Int) ^ (8*c)=((2 ^ (8*c):Nat):Int) from (Int.natCast_pow 2 (8*c)).symm];generalize 2 ^ (8*c)=d;rw [<-Int.natCast_ediv];omega
set_option maxHeartbeats 1000000 in
set_option maxRecDepth 100000 in
theorem rpadded_any (b:List UInt8) (v:Value) (w:World) (hv:BytesOff w.heap.size w v b) (hz:∀ cap,v=.slice none 0 cap->cap=0) (hm:b.length<=1048576) :
  Calls prog 279 #[v] w fun e w'=>∃ u,e=.returned u/\CellsAt w' u ((padded b).map bv)/\Ext w w':=by
 obtain ⟨ad,cap,rfl,hc1,hc2,hcell⟩:=hv;obtain ⟨L,hL⟩:∃ L,L=b.length:=⟨_,rfl⟩;have HL:=lh hL.symm;rw [<-hL] at hm hc1 hcell hz ⊢;clear hL
 have HZ0:=lh (show ad=none->L=0/\cap=0 from fun e=>by
  rcases Nat.eq_zero_or_pos L with h0 | h0
  ·exact ⟨h0,hz cap (by rw [e,h0])⟩
  ·obtain ⟨g,o,e1,_⟩:=hcell h0;rw [e] at e1;cases e1)
 have HCE:=lh (show 0<L->∃ g k,ad=some ⟨g,k,none⟩/\∀ (j:Nat) u,(b.map bv)[j]?=some u->w.cell? ⟨g,k+j,none⟩=some u from fun h=>by
  obtain ⟨g,o,e1,_,_,e4⟩:=hcell h;refine ⟨g,o,e1,fun j u hj=>?_⟩;rw [List.getElem?_map,Option.map_eq_some_iff] at hj;obtain ⟨x,hx,rfl⟩:=hj
  exact e4 j x hx)
 have HP:=lh (show padded b=b++(128::List.replicate (zerosOf L) 0++be8 (8*L)) from by unfold padded padL;rw [HL.out]);rw [HP.out];obtain ⟨Z,hZ⟩:∃ Z,Z=zerosOf L:=⟨_,rfl⟩;have HZ2:=lh (show Z=(119 - L % 64) % 64 from hZ);have hZ64:Z<64:=by rw [hZ];unfold zerosOf;omega
 rw [<-hZ];clear hcell hz HP hZ;have HBE:=fun c x h hc=>lh (byte_at (8*L) c x h hc);have HBL:=lh (show (be8 (8*L)).length=8 from rfl);obtain ⟨be,hbe⟩:∃ be,be=be8 (8*L):=⟨_,rfl⟩;rw [<-hbe] at HBE HBL ⊢;clear hbe;go_enter func279,ntmps279;go_wp2_with (at_builtin;refine append_lots elU8 w.heap.size _ _ _ (World.ownsRow_nil w w.heap.size 5 1) ad L cap (b.map bv) (.tmp 6) (.tmp 7) rfl rfl rfl rfl (by rw [List.length_map];exact HL.out) HZ0.out HCE.out (by intro u hu;obtain ⟨x,_,rfl⟩:=List.mem_map.1 hu;rfl) (by omega) (Nat.le_refl _) ?_);intro v1 w1 hown1 hg1;have HB1:=lh (ext_own (Ext.refl w) (Nat.le_refl _) (World.ownsRow_nil w w.heap.size 5 1) hg1);have HO1:=lh hown1;clear hown1 hg1;have hs1:=HB1.out.size;go_wp2_with (at_builtin;refine append_one elU8 w.heap.size _ _ _ (HO1.out.alloc _) w1.heap.size (bv 128) (.tmp 9) (.tmp 10) rfl rfl rfl rfl ?c1 rfl (by omega) ?c2 ?_)
 case c1=>rw [cell_alloc_new rfl];rfl
 case c2=>simp;omega
 intro v2 w2 hown2 hg2 _;have HX2:=lh (ext_own (HB1.out.alloc _) (Nat.le_refl _) (HO1.out.alloc _) hg2);have HO2:=lh (show w2.ownsRow w.heap.size 5 1 v2 (L+1+0) ((b++128::List.replicate 0 0).map bv) from by simpa using hown2);clear hown2 hg2 HO1 HB1 hs1;go_wp2_with fail;go_loopw [3] (fun v wr=>Hid (∃ j:Nat,j<=Z/\wr.ownsRow w.heap.size 5 1 v (L+1+j) ((b++128::List.replicate j 0).map bv)/\Ext w wr)) (fun v _=>Z - (lenV v - (L+1)))
 case atStart=>exact ⟨0,by omega,HO2.out,HX2.out⟩
 case round =>
  obtain ⟨j,hj,ho,hx⟩:=hrel.out;clear hrel HO2 HX2;have HX:=lh hx;have HO:=lh ho;have hs:=hx.size;obtain ⟨a0,cap0,rfl⟩:=owns_slice ho;clear ho hx;by_cases hlt:j<Z
  ·have hne:(((L+1+j:Nat):Int) % 64==56)=false:=by have:=HZ2.out;simp;omega
   go_wp2_with (at_builtin;refine append_one elU8 w.heap.size _ _ _ (HO.out.alloc _) wr.heap.size (bv 0) (.tmp 16) (.tmp 17) rfl rfl rfl rfl ?c1 rfl (by omega) ?c2 ?_)
   case c1=>rw [cell_alloc_new rfl];rfl
   case c2=>simp;omega
   intro v' w3 hown3 hg3 hv3;have HX3:=lh (ext_own (HX.out.alloc _) (Nat.le_refl _) (HO.out.alloc _) hg3);go_wp2_with fail;go_roundw
   case rel=>exact ⟨j+1,by omega,by rw [<-Nat.add_assoc];simpa [List.replicate_succ'] using hown3,HX3.out⟩
   case measure =>
    obtain ⟨g',cap',rfl,_⟩:=hv3;simp [lenV];omega
  ·have hne:(((L:Int)+1+j) % 64 != 56)=false:=by have:=HZ2.out;simp;omega
   have HO:=lh (show wr.ownsRow w.heap.size 5 1 (.slice a0 (L+1+j) cap0) (L+1+j+0) ((b++(128::List.replicate Z 0++be.take 0)).map bv) from by
    have e:j=Z:=by omega
    subst e
    simpa using HO.out)
   obtain ⟨wa,rfl⟩:∃ x,x=wr:=⟨_,rfl⟩;have hj64:j<64:=by omega
   go_wp2_with fail;go_loopw [3,5] (fun v bv' wr=>Hid (∃ i k:Nat,i+k=8/\bv'=.int .i64 ((k:Int) - 1)/\wr.ownsRow w.heap.size 5 1 v (L+1+j+i) ((b++(128::List.replicate Z 0++be.take i)).map bv)/\Ext w wr)) (fun _ bv' _=>(intOf bv'+1).toNat)
   case atStart=>exact ⟨0,8,by omega,rfl,HO.out,HX.out⟩
   case round =>
    obtain ⟨i,k,hik,rfl,ho,hx⟩:=hrel.out;clear hrel HO HX;have HX:=lh hx;have HO:=lh ho;have hs:=hx.size;obtain ⟨a1,cap1,rfl⟩:=owns_slice ho
    match k,hik with
    | 0,hik =>
     have HC:=lh (CellsAt.of_owns (xs:=(b++(128::List.replicate Z 0++be)).map bv) (v:=.slice a1 (L+1+j+i) cap1) (w:=wr) (base:=w.heap.size) (e:=5) (by
      have e8:be.take i=be:=List.take_of_length_le (by rw [HBL.out];omega);rw [e8] at ho;have hl:=ho.1;rw [Nat.mul_one] at hl
      rw [hl];exact ho))
     clear ho hx;go_wp2_with fail;go_ret;exact ⟨_,rfl,by simpa using HC.out,HX.out⟩
    | c+1,hik =>
     clear ho hx;rw [show ((c+1:Nat):Int) - 1=(c:Int) from by omega];obtain ⟨x,hx⟩:∃ x,be[7 - c]?=some x:=⟨_,List.getElem?_eq_getElem (by rw [HBL.out];omega)⟩;have HBX:=lh (show (L:Int)*8 / 2 ^ (8*c) % 256=x.toNat from by rw [<-(HBE c x hx (by omega)).out,Int.natCast_mul,Int.mul_comm];rfl);have HST:=lh (show be.take (i+1)=be.take i++[x] from by rw [List.take_add_one,show i=7 - c from by omega,hx];rfl);clear hx;go_wp2_with (at_builtin;refine append_one elU8 w.heap.size _ _ _ (HO.out.alloc _) wr.heap.size (.int .u8 ((L:Int)*8 / 2 ^ (8*c) % 256)) (.tmp 27) (.tmp 34) rfl rfl rfl rfl ?c1 rfl (by omega) ?c2 ?_)
     case c1=>rw [cell_alloc_new rfl];rfl
     case c2=>simp;omega
     intro v' w3 hown3 hg3 _;have HX3:=lh (ext_own (HX.out.alloc _) (Nat.le_refl _) (HO.out.alloc _) hg3);rw [HBX.out] at hown3;have HO3:=lh hown3;clear hown3 hg3;go_wp2_with fail;go_roundw
     case rel=>exact ⟨i+1,c,by omega,by go_num,by rw [HST.out,<-Nat.add_assoc];simpa [bv] using HO3.out,HX3.out⟩
     case measure=>simp [intOf]
end
section
theorem elU32:Elem prog 346 40 (.int .u32 0) 4:=⟨by kernel_rfl,by kernel_rfl,rfl,by decide⟩
def accW (r:List UInt8) (t:Nat):Nat->Nat
 | 0=>0
 | k+1=>256*accW r t k+(r.getD (4*t+k) 0).toNat
theorem accW_lt (r:List UInt8) (t:Nat):∀ k,accW r t k<256 ^ k
 | 0=>Nat.one_pos
 | k+1=>by
  have:=accW_lt r t k;have h2:=(r.getD (4*t+k) 0).toNat_lt;unfold accW;rw [Nat.pow_succ];omega
theorem accW_four (r:List UInt8) (t:Nat):accW r t 4=(((r.getD (4*t) 0).toNat*256+(r.getD (4*t+1) 0).toNat)*256+(r.getD (4*t+2) 0).toNat)*256+(r.getD (4*t+3) 0).toNat:=by
 simp only [accW,Nat.add_zero,Nat.zero_add,Nat.mul_zero];omega
theorem accW_word (r:List UInt8) (t:Nat) (h:t<16) (l:List Wd):accW r t 4=(nextW r l t).toNat:=by
 have h4:=accW_lt r t 4;unfold nextW wordAt;rw [if_pos h,BitVec.toNat_ofNat,Nat.mod_eq_of_lt]
 ·exact accW_four r t
 ·rw [<-accW_four];exact h4
theorem owns_cell {w:World} {base n:Nat} {e:TypeId} {v:Value} {xs:List Value} (h:w.ownsRow base e 1 v n xs) (hn:0<n):∃ g cap,v=.slice (some ⟨g,0,none⟩) n cap/\n<=cap/\cap<=maxLen/\g<w.heap.size/\base<=g/\∀ (j:Nat) u,xs[j]?=some u->w.cell? ⟨g,j,none⟩=some u:=by
 rcases h.2 with ⟨_,h2⟩ | ⟨g,cap,cur,hv,hb,hh,hc,hm,_⟩
 ·omega
 ·subst hv;refine ⟨g,cap,rfl,hc,hm,ltB hh,hb,fun j u hj=>?_⟩;rw [h.cellAt j (by have:=(List.getElem?_eq_some_iff.1 hj).1;have:=h.1;omega),hj]
set_option maxHeartbeats 1000000 in
set_option maxRecDepth 100000 in
theorem rwords_any (r:List UInt8) (g o cap:Nat) (w:World) (hr:r.length=64) (hcell:∀ (j:Nat) x,r[j]?=some x->w.cell? ⟨g,o+j,none⟩=some (bv x)) :
  Calls prog 280 #[.slice (some ⟨g,o,none⟩) 64 cap] w fun e w'=>∃ u,e=.returned u/\CellsAt w' u ((wordsL r 64).map wv)/\Ext w w':=by
 have HC:=lh hcell;clear hcell;have HT:=fun x n h1 h2 w=>lh (rturned_any x n h1 h2 w);go_enter func280,ntmps280;go_wp2_with fail;go_loopw [3,4] (fun v iv wr=>Hid (∃ t:Nat,t<=64/\iv=.int .i64 t/\wr.ownsRow w.heap.size 40 1 v t ((wordsL r t).map wv)/\Ext w wr)) (fun _ iv _=>64 - (intOf iv).toNat)
 case atStart=>exact ⟨0,by omega,rfl,World.ownsRow_nil _ _ _ _,Ext.refl _⟩
 case round =>
  obtain ⟨t,ht,rfl,ho,hx⟩:=hrel.out;clear hrel;have HX:=lh hx;have HO:=lh ho;have hs:=hx.size;by_cases hlt:t<64
  ·have HST:=lh (show (wordsL r (t+1)).map wv=(wordsL r t).map wv++[wv (nextW r (wordsL r t) t)] from by rw [show wordsL r (t+1)=wordsL r t++[nextW r (wordsL r t) t] from rfl,List.map_append];rfl);have HLN:=lh (wordsL_len r t);by_cases h16:t<16
   ·obtain ⟨a0,cap0,rfl⟩:=owns_slice ho;clear ho hx;have HW:=lh (accW_word r t h16 (wordsL r t));go_wp2_with fail;go_loopw [5,6] (fun xv kv w2=>Hid (∃ k:Nat,k<=4/\kv=.int .i64 k/\xv=.int .u32 (accW r t k)/\w2=wr)) (fun _ kv _=>4 - (intOf kv).toNat)
    case atStart=>exact ⟨0,by omega,rfl,rfl,rfl⟩
    case round =>
     obtain ⟨k,hk,rfl,rfl,hw⟩:=hrel.out;clear hrel;by_cases h4:k<4
     ·have hb:accW r t k<16777216:=Nat.lt_of_lt_of_le (accW_lt r t k) (Nat.le_trans (Nat.pow_le_pow_right (by decide) (show k<=3 by omega)) (by decide));obtain ⟨x,hxr⟩:∃ x,r[4*t+k]?=some x:=⟨_,List.getElem?_eq_getElem (by omega)⟩
      have hcx:wr.cell? ⟨g,o+(4*t+k),none⟩=some (.int .u8 x.toNat):=by
       rw [hw];exact (HX.out.cell (lt_of_cell (HC.out _ _ hxr))).trans (HC.out _ _ hxr)
      have HA:=lh (show accW r t (k+1)=256*accW r t k+x.toNat from by rw [accW,List.getD_eq_getElem?_getD,hxr];rfl);obtain ⟨acc,hacc⟩:∃ acc,acc=accW r t k:=⟨_,rfl⟩;rw [<-hacc] at hb HA ⊢;have HACC:=lh hacc;have hxl:=x.toNat_lt;have HWR:=lh hw;clear hacc hxr hw;go_wp2_with fail;go_roundw
      case rel=>exact ⟨k+1,by omega,by go_num,by rw [HA.out];go_num,HWR.out⟩
      case measure=>simp [intOf];omega
     ·have e4:k=4:=by omega
      rw [e4,HW.out];have HK4:=lh e4;clear h4 hk e4;subst hw;go_wp2_with (at_builtin;refine append_one elU32 w.heap.size _ _ _ (HO.out.alloc _) wr.heap.size (wv (nextW r (wordsL r t) t)) (.tmp 32) (.tmp 34) rfl rfl rfl rfl ?c1 rfl (by omega) ?c2 ?_)
      case c1=>rw [cell_alloc_new rfl];rfl
      case c2=>simp;omega
      intro v' w3 hown3 hg3 _;have HX3:=lh (ext_own (HX.out.alloc _) (Nat.le_refl _) (HO.out.alloc _) hg3);go_wp2_with fail;go_roundw
      case rel=>exact ⟨t+1,by omega,by go_num,by rw [HST.out];exact hown3,HX3.out⟩
      case measure=>simp [intOf];omega
   ·obtain ⟨g1,cap1,rfl,hn1,hm1,hg1,hbg1,hcl1⟩:=owns_cell ho (by omega)
    have hq:∀ j,j<t->∀ v:After wr,v.v.cell? ⟨g1,j,none⟩=some (.int .u32 ((wordsL r t).getD j 0).toNat):=fun j hj v=>After.cell (hcl1 _ _ (by
     rw [List.getElem?_map,List.getD_eq_getElem?_getD,wordsL_at r t j hj];rfl)) v
    have hwl:∀ j,j<t->((wordsL r t).map wv)[j]?=some (.int .u32 ((wordsL r t).getD j 0).toNat):=fun j hj=>by
     rw [List.getElem?_map,List.getD_eq_getElem?_getD,wordsL_at r t j hj];rfl
    obtain ⟨x0,g0⟩:∃ x,x=(wordsL r t).getD (t - 16) 0:=⟨_,rfl⟩;obtain ⟨x1,gg1⟩:∃ x,x=(wordsL r t).getD (t - 15) 0:=⟨_,rfl⟩;obtain ⟨x9,g9⟩:∃ x,x=(wordsL r t).getD (t - 7) 0:=⟨_,rfl⟩;obtain ⟨x14,g14⟩:∃ x,x=(wordsL r t).getD (t - 2) 0:=⟨_,rfl⟩;have p0:∀ v:After wr,v.v.cell? ⟨g1,t - 16,none⟩=some (.int .u32 x0.toNat):=fun v=>by rw [g0];exact hq _ (by omega) v
    have p1:∀ v:After wr,v.v.cell? ⟨g1,t - 15,none⟩=some (.int .u32 x1.toNat):=fun v=>by rw [gg1];exact hq _ (by omega) v
    have p9:∀ v:After wr,v.v.cell? ⟨g1,t - 7,none⟩=some (.int .u32 x9.toNat):=fun v=>by rw [g9];exact hq _ (by omega) v
    have p14:∀ v:After wr,v.v.cell? ⟨g1,t - 2,none⟩=some (.int .u32 x14.toNat):=fun v=>by rw [g14];exact hq _ (by omega) v
    have HK0:=lh (show ((wordsL r t).map wv)[t - 16]?=some (.int .u32 x0.toNat) from by rw [g0];exact hwl _ (by omega));have HK9:=lh (show ((wordsL r t).map wv)[t - 7]?=some (.int .u32 x9.toNat) from by rw [g9];exact hwl _ (by omega));obtain ⟨s0,hs0⟩:∃ s,s=sg0 x1:=⟨_,rfl⟩;obtain ⟨s1,hs1⟩:∃ s,s=sg1 x14:=⟨_,rfl⟩
    have HE:=lh (show x0+s0+x9+s1=nextW r (wordsL r t) t from by
     unfold nextW
     rw [if_neg h16,hs0,hs1,g0,gg1,g9,g14])
    have HS0:=lh (show bits BinOp.xor IntKind.u32 (bits BinOp.xor IntKind.u32 ((rotr x1 7).toNat:Int) (rotr x1 18).toNat) ((x1.toNat:Int) / (8:Int))=(s0.toNat:Int) from by
     rw [wd_xor,wd_shr3,wd_xor,hs0];rfl)
    have HS1:=lh (show bits BinOp.xor IntKind.u32 (bits BinOp.xor IntKind.u32 ((rotr x14 17).toNat:Int) (rotr x14 19).toNat) ((x14.toNat:Int) / (1024:Int))=(s1.toNat:Int) from by
     rw [wd_xor,wd_shr10,wd_xor,hs1];rfl)
    have HSUM:=lh (show (((x0.toNat:Int)+s0.toNat+x9.toNat) % 4294967296+s1.toNat) % 4294967296=((nextW r (wordsL r t) t).toNat:Int) from by
     rw [<-HE.out,<-wd_add,<-wd_add,<-wd_add];omega)
    obtain ⟨nx,hnx⟩:∃ nx,nx=nextW r (wordsL r t) t:=⟨_,rfl⟩;obtain ⟨nl,hnl⟩:∃ nl,nl=(wordsL r (t+1)).map wv:=⟨_,rfl⟩;obtain ⟨ws,hws⟩:∃ ws,ws=(wordsL r t).map wv:=⟨_,rfl⟩;have HNL:=lh hnl;rw [<-hnx] at HE HSUM HST;rw [<-hnl] at HST;rw [<-hws] at HO HST HK0 HK9;clear hnx hnl hws HE HLN hwl hq g0 gg1 g9 g14 hcl1 ho hx hs0 hs1;have h16':decide ((t:Int)<16)=false:=by simp;omega
    go_wp2_with fail;refine wp_region_after (by kernel_rfl) (by kernel_rfl) ?_
    repeat (go_big_quiet_step (fail))
    refine wpQuiet_nil ?_;rintro _ ⟨y,rfl⟩;obtain ⟨wy,xy⟩:=y;go_wp2_with fail;refine (HT x1 7 (by decide) (by decide) _).out.mono ?_;rintro e w2 ⟨rfl,rfl⟩;go_wp2_with fail;refine (HT x1 18 (by decide) (by decide) _).out.mono ?_;rintro e w2 ⟨rfl,rfl⟩;go_wp2_with fail;refine (HT x14 17 (by decide) (by decide) _).out.mono ?_;rintro e w2 ⟨rfl,rfl⟩;go_wp2_with fail;refine (HT x14 19 (by decide) (by decide) _).out.mono ?_;rintro e w2 ⟨rfl,rfl⟩;rw [HS0.out];go_wp2_with fail;rw [HS1.out];have HO4:=lh (owns_ext HO.out xy);have HX4:=lh (HX.out.trans xy);have hs4:=xy.size;have c0:w2.cell? ⟨g1,t - 16,none⟩=some (.int .u32 x0.toNat):=p0 ⟨w2,xy⟩;have c9:w2.cell? ⟨g1,t - 7,none⟩=some (.int .u32 x9.toNat):=p9 ⟨w2,xy⟩;clear p0 p1 p9 p14 xy;have b9:(16:Int)<=(t:Int):=by omega
    have b10:(7:Int)<=(t:Int):=by omega
    have b2:(t:Int) - 16<(t:Int):=by omega
    have b4:(t:Int) - 7<(t:Int):=by omega
    have b5:IntKind.i64.wrap ((t:Int) - 16)=(t:Int) - 16:=by rw [IntKind.wrap_i64];omega
    have b6:IntKind.i64.wrap ((t:Int) - 7)=(t:Int) - 7:=by rw [IntKind.wrap_i64];omega
    rw [show t - 16=((t:Int) - 16).toNat from by omega] at c0 HK0;rw [show t - 7=((t:Int) - 7).toNat from by omega] at c9 HK9
    go_region_held_law (fun w'=>w'.cell? ⟨g1,((t:Int) - 16).toNat,none⟩=some (.int .u32 x0.toNat)/\w'.cell? ⟨g1,((t:Int) - 7).toNat,none⟩=some (.int .u32 x9.toNat)) (go_keep)
     ((refine step_append_keep elU32 w.heap.size (.slice (some ⟨g1,0,none⟩) t cap1) t ws (owns_ext HO4.out ?_) w2.heap.size (wv (nx)) (.tmp 62) (.tmp 78) rfl rfl ?_ ?_ ?_ rfl ?_ ?_ ?_
       ·repeat (first | exact Ext.refl _ | refine Ext.alloc ?_ _ | refine Ext.drew ?_)
       ·simp [Act.eval]
       ·simp [Act.eval]
       ·exact (cellB (heap_new_drew rfl)).trans (by simp only [wv,<-HSUM.out,List.getElem?_toArray,List.getElem?_cons_zero,Option.some.injEq,Value.int.injEq,true_and,IntKind.wrap_u32'];omega)
       ·omega
       ·simp;omega
       intro v' w3 hown3 hgr3 hrow3 hkp3;obtain ⟨g3,cap3,rfl,_⟩:=hrow3;have k1:w3.cell? ⟨g1,((t:Int) - 16).toNat,none⟩=some (.int .u32 x0.toNat):=hkp3 g1 (((t:Int) - 16).toNat) _ rfl HK0.out;have k2:w3.cell? ⟨g1,((t:Int) - 7).toNat,none⟩=some (.int .u32 x9.toNat):=hkp3 g1 (((t:Int) - 7).toNat) _ rfl HK9.out;have HR:=lh (show w3.ownsRow w.heap.size 40 1 _ (t+1) nl/\Ext w w3 from ⟨by rw [HST.out];exact hown3,ext_own ((HX4.out.alloc _).drew) (Nat.le_refl _) (owns_ext HO4.out (by repeat (first | exact Ext.refl _ | refine Ext.alloc ?_ _ | refine Ext.drew ?_))) hgr3⟩)
       clear hown3 hgr3 hkp3))
    all_goals
     go_wp2_with fail;go_roundw
     case rel=>exact ⟨t+1,by omega,by go_num,HNL.out▸HR.out.1,HR.out.2⟩
     case measure=>simp [intOf] <;> omega
  ·have e64:t=64:=by omega
   have HC64:=lh (CellsAt.of_owns (xs:=(wordsL r t).map wv) (by rw [List.length_map,wordsL_len];exact ho));rw [e64] at HC64;obtain ⟨a0,cap0,hv⟩:=owns_slice ho;subst hv;clear ho hx e64;go_wp2_with fail;go_ret;exact ⟨_,rfl,HC64.out,HX.out⟩
end
section
theorem rturned_ok (x:Wd) (n:Int) (w:World) (hn:rotOk n=true) :
  Calls prog 281 #[.int .u32 x.toNat,.int .i64 n] w fun e w'=>e=.returned (.int .u32 (rotr x n.toNat).toNat)/\w'=w:=by
 have h:1<=n/\n<=31:=by
  have:n=2\/n=6\/n=7\/n=11\/n=13\/n=17\/n=18\/n=19\/n=22\/n=25:=by simpa [rotOk] using hn
  omega
 have:=rturned_any x n.toNat (by omega) (by omega) w
 rwa [show ((n.toNat:Nat):Int)=n from by omega] at this
def kV (i:Nat):List Value:=(kTab.take i).map fun (x:Nat)=>Value.int .u32 x
def sV (i:Nat):List Value:=(first8.list.take i).map wv
theorem kTab_len:kTab.length=64:=by decide
theorem CellsAt.some {w:World} {v:Value} {xs:List Value} (h:CellsAt w v xs) (n:Nat) (hn:xs.length=n) (h0:0<n):∃ g cap,v=.slice (some ⟨g,0,none⟩) n cap/\n<=cap/\cap<=maxLen/\g<w.heap.size/\∀ (j:Nat) u,xs[j]?=some u->w.cell? ⟨g,j,none⟩=some u:=by
 subst hn;rcases h with ⟨_,h2⟩ | ⟨g,cap,h1,h2,h3,h4,h5⟩
 ·subst h2;simp at h0
 ·exact ⟨g,cap,h1,h3,h4,h2,h5⟩
theorem kV_step (i:Nat) (h:i<64):∃ p,primes64[i]?=some p/\p<=400/\kV (i+1)=kV i++[.int .u32 (cubeN p % 4294967296:Nat)]:=by
 have hl:primes64.length=64:=primes_all;obtain ⟨p,hp⟩:∃ p,primes64[i]?=some p:=⟨_,List.getElem?_eq_getElem (by omega)⟩;refine ⟨p,hp,primes_le p (List.mem_of_getElem? hp),?_⟩;have:kTab[i]?=some (cubeN p % 4294967296):=by rw [<-table_cube,List.getElem?_map,hp];rfl
 unfold kV;rw [List.take_add_one,this,List.map_append];rfl
theorem sV_step (i:Nat) (h:i<8):∃ p,primes64[i]?=some p/\p<=400/\sV (i+1)=sV i++[.int .u32 (squareN p % 4294967296:Nat)]:=by
 have hl:primes64.length=64:=primes_all;obtain ⟨p,hp⟩:∃ p,primes64[i]?=some p:=⟨_,List.getElem?_eq_getElem (by omega)⟩;refine ⟨p,hp,primes_le p (List.mem_of_getElem? hp),?_⟩;obtain ⟨x,hx⟩:∃ x,first8.list[i]?=some x:=⟨_,List.getElem?_eq_getElem (by exact h)⟩
 have h2:(first8.list.map BitVec.toNat)[i]?=some (squareN p % 4294967296):=by
  rw [<-table_square,List.getElem?_map,List.getElem?_take,if_pos h,hp];rfl
 rw [List.getElem?_map,hx] at h2;have h3:x.toNat=squareN p % 4294967296:=Option.some.inj h2;unfold sV;rw [List.take_add_one,hx,List.map_append];simp [wv,h3]
theorem xq_eq (e f g h kk ww:Wd):(((h.toNat:Int)+bits BinOp.xor IntKind.u32 (bits BinOp.xor IntKind.u32 ((rotr e 6).toNat:Int) (rotr e 11).toNat) (rotr e 25).toNat+bits BinOp.xor IntKind.u32 (bits BinOp.and IntKind.u32 (e.toNat:Int) f.toNat) (bits BinOp.and IntKind.u32 (bits BinOp.xor IntKind.u32 (e.toNat:Int) 4294967295) g.toNat)+kk.toNat) % 4294967296+ww.toNat) % 4294967296=((h+big1 e+chw e f g+kk+ww).toNat:Int):=by
 rw [show bits BinOp.xor IntKind.u32 (e.toNat:Int) 4294967295=((~~~e).toNat:Int) from by
  rw [show (4294967295:Int)=(((BitVec.allOnes 32:Wd).toNat:Nat):Int) from by decide,wd_xor,BitVec.xor_allOnes]]
 rw [wd_xor,wd_xor,wd_and,wd_and,wd_xor];unfold big1 chw;rw [BitVec.toNat_add,BitVec.toNat_add,BitVec.toNat_add,BitVec.toNat_add];omega
def stR (l:List Wd) (rest:List Value):Array Value:=(l.map wv++rest).toArray
theorem stR_word (l:List Wd) (rest:List Value) (k:Nat) (x:Wd) (h:l[k]?=some x):(stR l rest)[k]?=some (.int .u32 x.toNat):=by
 have hk:k<l.length:=(List.getElem?_eq_some_iff.1 h).1;unfold stR;rw [List.getElem?_toArray,List.getElem?_append_left (by simpa using hk),List.getElem?_map,h];rfl
theorem stR_set (l:List Wd) (rest:List Value) (k:Nat) (x:Wd) (h:k<l.length):(stR l rest).setIfInBounds k (wv x)=stR (l.set k x) rest:=by
 unfold stR;rw [List.setIfInBounds_toArray,List.set_append_left _ _ (by simpa using h),List.map_set]
theorem stR_obj (l:List Wd) (rest:List Value) (k:Nat) (x:Wd) (h:k<l.length):Obj.cells ((stR l rest).setIfInBounds k (wv x)) 40 (0,0)=Obj.cells (stR (l.set k x) rest) 40 (0,0):=by rw [stR_set _ _ _ _ h]
theorem stR_of {cur:Array Value} {l:List Wd} (h:cur.toList.take 8=l.map wv):cur=stR l (cur.toList.drop 8):=by
 unfold stR;rw [<-h,List.take_append_drop]
def vPart (s:V8) (i:Nat):Array Value:=((s.list.take i).map wv++List.replicate (8 - i) (Value.int .u32 0)).toArray
theorem vPart_set (s:V8) (i:Nat) (x:Wd) (h:s.list[i]?=some x):(vPart s i).setIfInBounds i (wv x)=vPart s (i+1):=by
 have hi:i<8:=(List.getElem?_eq_some_iff.1 h).1;have:i=0\/i=1\/i=2\/i=3\/i=4\/i=5\/i=6\/i=7:=by omega
 rcases this with rfl | rfl | rfl | rfl | rfl | rfl | rfl | rfl <;> (injection h with h;subst h;rfl)
theorem vPart_size (s:V8) (i:Nat) (h:i<=8):(vPart s i).size=8:=by
 simp [vPart,V8.list];omega
def vShift (V:V8) (k:Nat):Array Value:=((V.list.take (k+1)++(V.list.drop k).take (7 - k)).map wv).toArray
theorem vShift_set (V:V8) (k:Nat) (h:k<7):∃ x,V.list[k]?=some x/\(vShift V (k+1))[k]?=some (wv x)/\(vShift V (k+1)).setIfInBounds (k+1) (wv x)=vShift V k:=by
 have:k=0\/k=1\/k=2\/k=3\/k=4\/k=5\/k=6:=by omega
 rcases this with rfl | rfl | rfl | rfl | rfl | rfl | rfl <;> exact ⟨_,rfl,rfl,rfl⟩
theorem kV_at (t:Nat) (h:t<64):(kV 64)[t]?=some (.int .u32 (kAt t).toNat):=by
 have hl:∀ x∈kTab,x<4294967296:=by decide
 obtain ⟨x,hx⟩:∃ x,kTab[t]?=some x:=⟨_,List.getElem?_eq_getElem (by rw [kTab_len];exact h)⟩;unfold kV kAt;rw [List.take_of_length_le (by rw [kTab_len];exact Nat.le_refl _),List.getElem?_map,hx,List.getD_eq_getElem?_getD,hx];have:=hl x (List.mem_of_getElem? hx);simp only [Option.map_some,Option.getD_some,BitVec.toNat_ofNat];rw [Nat.mod_eq_of_lt this]
set_option maxHeartbeats 4000000 in
set_option maxRecDepth 100000 in
theorem rsum_any (b:List UInt8) (v:Value) (w:World) (hv:BytesOff w.heap.size w v b) (hz:∀ cap,v=.slice none 0 cap->cap=0) (hm:b.length<=1048576) :
  Calls prog 224 #[v] w fun e w'=>e=.returned (hashV (shaL b))/\Ext w w':=by
 have HV:=lh hv;have HPR:=fun w=>lh (rprimes_any w);have HCU:=fun p h w=>lh (rcube_any p h w);have HSQ:=fun p h w=>lh (rsquare_any p h w);have HKS:=fun i h=>lh (kV_step i h);have HSS:=fun i h=>lh (sV_step i h);have HPA:=fun w h=>lh (rpadded_any b v w h hz hm);clear hv;go_enter func224,ntmps224;go_wp2_with fail;refine (HPR _).out.mono ?_;rintro e w1 ⟨pv,rfl,hpc,hx1⟩;obtain ⟨gp,capp,rfl,_,_,hgp,hpcell⟩:=hpc.some 64 (by rw [List.length_map];exact primes_all) (by decide);have HPC:=lh hpcell;have HX1:=lh (((Ext.refl w).alloc _).trans hx1);have HB0:=lh (show w1.heap[w.heap.size]?=some (.cells (hArr [] 0) 54 (0,0)) from (hx1.block (by simp)).trans (heap_alloc_new w _));clear hpc hx1 hpcell;go_wp2_with fail;go_loopw [5,6] (fun kv iv wr=>Hid (∃ i:Nat,i<=64/\iv=.int .i64 i/\wr.ownsRow w1.heap.size 40 1 kv i (kV i)/\Ext w1 wr)) (fun _ iv _=>64 - (intOf iv).toNat)
 case atStart=>exact ⟨0,by omega,rfl,World.ownsRow_nil _ _ _ _,Ext.refl _⟩
 case round =>
  obtain ⟨i,hi,rfl,ho,hx⟩:=hrel.out;clear hrel;have HX:=lh hx;have HO:=lh ho;have hs:=hx.size;by_cases hlt:i<64
  ·obtain ⟨a0,cap0,rfl⟩:=owns_slice ho;clear ho hx;obtain ⟨p,hp,hp4,hst⟩:=(HKS i hlt).out;have HST:=lh hst
   have hc:wr.cell? ⟨gp,i,none⟩=some (.int .u64 p):=by
    have h9:w1.cell? ⟨gp,i,none⟩=some (.int .u64 p):=HPC.out i _ (by rw [List.getElem?_map,hp];rfl);exact (HX.out.cell (lt_of_cell h9)).trans h9
   obtain ⟨q,hq⟩:∃ q,q=cubeN p % 4294967296:=⟨_,rfl⟩;have HC:=lh (HCU p hp4 wr).out;rw [<-hq] at HST HC;clear hst hp hq;go_wp2_with fail;refine HC.out.mono ?_;rintro e w2 ⟨rfl,rfl⟩;go_wp2_with (at_builtin;refine append_one elU32 w1.heap.size _ _ _ (HO.out.alloc _) w2.heap.size (.int .u32 q) (.tmp 32) (.tmp 34) rfl rfl rfl rfl ?c1 rfl (by omega) ?c2 ?_)
   case c1=>rw [cell_alloc_new rfl];rfl
   case c2=>simp;omega
   intro v' w3 hown3 hg3 _;have HX3:=lh (ext_own (HX.out.alloc _) (Nat.le_refl _) (HO.out.alloc _) hg3);go_wp2_with fail;go_roundw
   case rel=>exact ⟨i+1,by omega,by go_num,by rw [HST.out];exact hown3,HX3.out⟩
   case measure=>simp [intOf];omega
  ·have e64:i=64:=by omega
   have ho64:wr.ownsRow w1.heap.size 40 1 u5 64 (kV 64):=e64▸ho;obtain ⟨gk,capk,rfl,_,_,hgk,_,hkcell⟩:=owns_cell ho64 (by decide);have HKC:=lh hkcell;have HI:=lh e64;obtain ⟨wa,rfl⟩:∃ x,x=wr:=⟨_,rfl⟩;have HXA:=lh (HX1.out.trans HX.out);have d64:decide ((i:Int)<64)=false:=by simp;omega
   clear ho hx ho64 hkcell e64 HO;go_wp2_with fail;go_loopw [4,8] (fun sv iv wr=>Hid (∃ i:Nat,i<=8/\iv=.int .i64 i/\wr.ownsRow wa.heap.size 40 1 sv i (sV i)/\Ext wa wr)) (fun _ iv _=>8 - (intOf iv).toNat)
   case atStart=>exact ⟨0,by omega,rfl,World.ownsRow_nil _ _ _ _,Ext.refl _⟩
   case round =>
    obtain ⟨i2,hi2,rfl,ho,hx⟩:=hrel.out;clear hrel;have HX2:=lh hx;have HO:=lh ho;have hs:=hx.size;by_cases hlt2:i2<8
    ·obtain ⟨a0,cap0,rfl⟩:=owns_slice ho;clear ho hx;obtain ⟨p,hp,hp4,hst⟩:=(HSS i2 hlt2).out;have HST:=lh hst
     have hc:wr.cell? ⟨gp,i2,none⟩=some (.int .u64 p):=by
      have h9:w1.cell? ⟨gp,i2,none⟩=some (.int .u64 p):=HPC.out i2 _ (by rw [List.getElem?_map,hp];rfl);exact ((HX.out.trans HX2.out).cell (lt_of_cell h9)).trans h9
     obtain ⟨q,hq⟩:∃ q,q=squareN p % 4294967296:=⟨_,rfl⟩;have HC:=lh (HSQ p hp4 wr).out;rw [<-hq] at HST HC;clear hst hp hq;go_wp2_with fail;refine HC.out.mono ?_;rintro e w2 ⟨rfl,rfl⟩;go_wp2_with (at_builtin;refine append_one elU32 wa.heap.size _ _ _ (HO.out.alloc _) w2.heap.size (.int .u32 q) (.tmp 45) (.tmp 47) rfl rfl rfl rfl ?c1 rfl (by omega) ?c2 ?_)
     case c1=>rw [cell_alloc_new rfl];rfl
     case c2=>simp;omega
     intro v' w3 hown3 hg3 _;have HX3:=lh (ext_own (HX2.out.alloc _) (Nat.le_refl _) (HO.out.alloc _) hg3);go_wp2_with fail;go_roundw
     case rel=>exact ⟨i2+1,by omega,by go_num,by rw [HST.out];exact hown3,HX3.out⟩
     case measure=>simp [intOf];omega
    ·have e8:i2=8:=by omega
     have ho8:wr.ownsRow wa.heap.size 40 1 u4 8 (sV 8):=e8▸ho
     obtain ⟨gs,caps,cur,rfl,hgs1,hgs2,hcap1,hcap2,hcs,htk⟩:∃ g cap cur,u4=.slice (some ⟨g,0,none⟩) 8 cap/\wa.heap.size<=g/\wr.heap[g]?=some (.cells cur 40 (0,0))/\8<=cap/\cap<=maxLen/\cur.size=cap*1/\cur.toList.take (8*1)=sV 8:=by
      rcases ho8.2 with ⟨_,h⟩ | h
      ·omega
      ·exact h
     obtain ⟨wb,rfl⟩:∃ x,x=wr:=⟨_,rfl⟩;have d8:decide ((i2:Int)<8)=false:=by simp;omega
     have HGS:=lh hgs2;have HTK:=lh (show cur.toList.take 8=(first8.list).map wv from htk);have HXB:=lh (HXA.out.trans HX2.out);have HKB:=lh (fun (j:Nat) u (h:(kV 64)[j]?=some u)=>show wb.cell? ⟨gk,j,none⟩=some u from (HX2.out.cell hgk).trans (HKC.out j u h));have HB1:=lh (((HX.out.trans HX2.out).block (ltB HB0.out)).trans HB0.out);have HE8:=lh e8;clear ho hx ho8 hgs2 htk e8 HO;go_wp2_with fail;refine (HPA wb (bytesOff_any HV.out HXB.out HXB.out.size)).out.mono ?_;rintro e wc ⟨qv,rfl,hqc,hxc⟩;obtain ⟨W,hW⟩:∃ W,W=padded b:=⟨_,rfl⟩;obtain ⟨hw1,hw2,hw3⟩:=padded_len b;have hsha:shaL b=((digN W (W.length / 64)).list.map outB).flatten:=by rw [hW];rfl
     rw [<-hW] at hqc hw1 hw2 hw3;obtain ⟨nb,hnb⟩:∃ nb,nb=W.length / 64:=⟨_,rfl⟩;have hWl:W.length=64*nb:=by omega
     obtain ⟨gq,capq,rfl,hq1,hq2,hgq,hqcell⟩:=hqc.some (64*nb) (by rw [List.length_map];exact hWl) (by omega);rw [<-hnb] at hsha;have HSHA:=lh hsha;have hnb2:nb<=16386:=by omega
     have hnb1:0<nb:=by omega
     have HWL:=lh hWl;have HWC:=lh hqcell;have HSC:=lh ((hxc.block (ltB HGS.out)).trans HGS.out);have HXC:=lh (HXB.out.trans hxc)
     have hgsq:gq≠gs:=by
      intro e;subst e;obtain ⟨x,hx⟩:∃ x,W[0]?=some x:=⟨_,List.getElem?_eq_getElem (by omega)⟩;have h1:=hqcell 0 (bv x) (by rw [List.getElem?_map,hx];rfl);have h2:=(cellB (k:=0) HSC.out).symm.trans h1;have h3:=congrArg (fun l=>l[0]?) HTK.out;rw [List.getElem?_take,if_pos (by decide),Array.getElem?_toList,h2] at h3
      cases h3
     have hgsk:gk≠gs:=by omega
     have HKC2:=lh (fun (j:Nat) u (h:(kV 64)[j]?=some u)=>show wc.cell? ⟨gk,j,none⟩=some u from (hxc.cell (lt_of_cell (HKB.out j u h))).trans (HKB.out j u h));have HB2:=lh ((hxc.block (ltB HB1.out)).trans HB1.out);obtain ⟨rest,hrest⟩:∃ r,r=cur.toList.drop 8:=⟨_,rfl⟩;have HS0:=lh (show wc.heap[gs]?=some (.cells (stR (digN W 0).list rest) 40 (0,0)) from by rw [HSC.out,hrest];exact congrArg (fun a=>some (Obj.cells a 40 (0,0))) (stR_of HTK.out))
     have hgs0:gs≠w.heap.size:=by
      have:=ltB HB0.out;have:=HX.out.size;omega
     clear hsha hW hnb hqc hqcell hxc hrest HSC HTK HGS HKB HB1 hw1 hw2 hw3 hWl;go_wp2_with fail;go_loopw [11] (fun iv wr=>Hid (∃ j:Nat,j<=nb/\iv=.int .i64 (64*j:Nat)/\Touch gs wc wr/\wr.heap[gs]?=some (.cells (stR (digN W j).list rest) 40 (0,0)))) (fun iv _=>64*nb - (intOf iv).toNat)
     case atStart=>exact ⟨0,by omega,rfl,Touch.of (Ext.refl _),HS0.out⟩
     case round =>
      obtain ⟨j,hj,rfl,ht,hst⟩:=hrel.out;clear hrel HS0;have HT:=lh ht;have HST:=lh hst;clear ht hst;by_cases hltj:j<nb
      ·have HWR:=fun r o cap h1 h2=>lh (rwords_any r gq o cap wr h1 h2);have hrl:((W.drop (64*j)).take 64).length=64:=by rw [List.length_take,List.length_drop,HWL.out];omega
       have HW1:=lh (HWR ((W.drop (64*j)).take 64) (64*j) (capq - 64*j) hrl (fun k x hk=>by
        have h64:k<64:=by have:=(List.getElem?_eq_some_iff.1 hk).1;omega
        rw [List.getElem?_take,if_pos h64,List.getElem?_drop] at hk;have h1:=HWC.out (64*j+k) (bv x) (by rw [List.getElem?_map,hk];rfl)
        exact (cellT HT.out hgsq (lt_of_cell h1)).trans h1)).out
       have hsl1:(0:Int)<=64*(j:Int):=by omega
       have hsl2:64*(j:Int)<=64*(j:Int)+64:=by omega
       have hsl3:64*(j:Int)+64<=capq:=by omega
       clear HWR;obtain ⟨r,hr⟩:∃ r,r=(W.drop (64*j)).take 64:=⟨_,rfl⟩;have HD:=lh (show comp (digN W j) r=digN W (j+1) from by rw [hr];rfl);rw [<-hr] at HW1;obtain ⟨s,hs⟩:∃ s,s=digN W j:=⟨_,rfl⟩;rw [<-hs] at HD HST;clear hr hrl hs;go_wp2_with fail;refine HW1.out.mono ?_;rintro e wd ⟨wvv,rfl,hwc,hxd⟩;obtain ⟨gw,capw,rfl,_,_,hgw,hwcell⟩:=hwc.some 64 (by rw [List.length_map,wordsL_len]) (by decide)
       have HWC2:=lh (fun (k:Nat) (h:k<64)=>show wd.cell? ⟨gw,k,none⟩=some (.int .u32 ((wordsL r 64).getD k 0).toNat) from hwcell k _ (by
        rw [List.getElem?_map,List.getD_eq_getElem?_getD,wordsL_at r 64 k h];rfl))
       have HKD:=lh (fun (k:Nat) (h:k<64)=>show wd.cell? ⟨gk,k,none⟩=some (.int .u32 (kAt k).toNat) from by
        have h1:=HKC2.out k _ (kV_at k h);have h2:=(cellT HT.out hgsk (lt_of_cell h1)).trans h1
        exact (hxd.cell (lt_of_cell h2)).trans h2)
       have HTD:=lh (HT.out.trans (Touch.of hxd));have HSD:=lh ((hxd.block (ltB HST.out)).trans HST.out);have hgsd:gs<wd.heap.size:=ltB HSD.out;clear hwc hxd hwcell HT HST HW1;go_wp2_with fail;go_loopw [14] (fun iv wr=>Hid (∃ i:Nat,i<=8/\iv=.int .i64 i/\Ext wd wr/\wr.heap[wd.heap.size]?=some (.cells (vPart s i) 292 (0,0)))) (fun iv _=>8 - (intOf iv).toNat)
       case atStart=>exact ⟨0,by omega,rfl,(Ext.refl wd).alloc _,heap_alloc_new _ _⟩
       case round =>
        obtain ⟨i4,hi4,rfl,hx4,hv4⟩:=hrel.out;clear hrel;have HX4:=lh hx4;have HV4:=lh hv4;have HS4:=lh ((hx4.block (ltB HSD.out)).trans HSD.out);by_cases hlt4:i4<8
        ·obtain ⟨x,hx⟩:∃ x,s.list[i4]?=some x:=⟨_,List.getElem?_eq_getElem (by show i4<8;exact hlt4)⟩;have cs4:wr.cell? ⟨gs,i4,none⟩=some (.int .u32 x.toNat):=(cellB HS4.out).trans (stR_word _ _ i4 x hx);have cv4:wr.cell? ⟨wd.heap.size,i4,none⟩=(vPart s i4)[i4]?:=cellB hv4;obtain ⟨old,hold⟩:∃ o,(vPart s i4)[i4]?=some o:=⟨_,Array.getElem?_eq_getElem (by rw [vPart_size _ _ hi4];exact hlt4)⟩;rw [hold] at cv4;have cf4:wr.frozen? ⟨wd.heap.size,i4,none⟩=false:=frozenB hv4;have HSET:=lh (vPart_set s i4 x hx);clear hx hold hx4 hv4;go_wp2_with fail;refine ⟨⟨i4+1,by omega,by go_num,HX4.out.setCell (Nat.le_refl _) _,?_⟩,by simp [intOf];omega⟩;rw [setCellB HV4.out];exact congrArg (fun a=>some (Obj.cells a 292 (0,0))) HSET.out
        ·have e8:i4=8:=by omega
         have HVE:=lh (show wr.heap[wd.heap.size]?=some (vObj s) from by rw [HV4.out,e8];rfl);have d8':decide ((i4:Int)<8)=false:=by simp;omega
         clear e8 hx4 hv4 HV4;obtain ⟨we,rfl⟩:∃ x,x=wr:=⟨_,rfl⟩;go_wp2_with fail;go_loopw [15] (fun iv wr=>Hid (∃ t:Nat,t<=64/\iv=.int .i64 t/\Ext wd wr/\wr.heap[wd.heap.size]?=some (vObj (rounds s (wordsL r 64) t)))) (fun iv _=>64 - (intOf iv).toNat)
         case atStart=>exact ⟨0,by omega,rfl,HX4.out,HVE.out⟩
         case round =>
          obtain ⟨t,ht5,rfl,hx5,hv5⟩:=hrel.out;clear hrel HX4 HVE;have HX5:=lh hx5;have HV5:=lh hv5;by_cases hlt5:t<64
          ·obtain ⟨V,gV⟩:∃ V,V=rounds s (wordsL r 64) t:=⟨_,rfl⟩;obtain ⟨kk,gk'⟩:∃ x,x=kAt t:=⟨_,rfl⟩;obtain ⟨ww,gw'⟩:∃ x,x=(wordsL r 64).getD t 0:=⟨_,rfl⟩;rw [<-gV] at hv5 HV5;have HR:=lh (show rnd V kk ww=rounds s (wordsL r 64) (t+1) from by rw [gV,gk',gw'];rfl)
           have ck:∀ v:After wr,v.v.cell? ⟨gk,t,none⟩=some (.int .u32 kk.toNat):=fun v=>by
            have h1:=HKD.out t hlt5;rw [<-gk'] at h1;exact After.cell ((hx5.cell (lt_of_cell h1)).trans h1) v
           have cw:∀ v:After wr,v.v.cell? ⟨gw,t,none⟩=some (.int .u32 ww.toNat):=fun v=>by
            have h1:=HWC2.out t hlt5;rw [<-gw'] at h1;exact After.cell ((hx5.cell (lt_of_cell h1)).trans h1) v
           clear gV gk' gw';have c0:∀ v:After wr,v.v.cell? ⟨wd.heap.size,0,none⟩=some (.int .u32 V.a.toNat):=After.at hv5;have c1:∀ v:After wr,v.v.cell? ⟨wd.heap.size,1,none⟩=some (.int .u32 V.b.toNat):=After.at hv5;have c2:∀ v:After wr,v.v.cell? ⟨wd.heap.size,2,none⟩=some (.int .u32 V.c.toNat):=After.at hv5;have c4:∀ v:After wr,v.v.cell? ⟨wd.heap.size,4,none⟩=some (.int .u32 V.e.toNat):=After.at hv5;have c5:∀ v:After wr,v.v.cell? ⟨wd.heap.size,5,none⟩=some (.int .u32 V.f.toNat):=After.at hv5;have c6:∀ v:After wr,v.v.cell? ⟨wd.heap.size,6,none⟩=some (.int .u32 V.g.toNat):=After.at hv5;have c7:∀ v:After wr,v.v.cell? ⟨wd.heap.size,7,none⟩=some (.int .u32 V.h.toNat):=After.at hv5;clear hv5 hx5;go_wp2_with fail;refine wp_region_after (by kernel_rfl) (by kernel_rfl) ?_
           repeat (go_big_quiet_step ((go_at_call 281;exact After.same (rturned_ok _ _ _ rfl))))
           refine wpQuiet_nil ?_;rintro _ ⟨y,rfl⟩;go_wp2_with fail;refine wp_region_after0 y (by kernel_rfl) (by kernel_rfl) ?_
           repeat (go_big_quiet_step ((go_at_call 281;exact After.same (rturned_ok _ _ _ rfl))))
           refine wpQuiet_nil ?_;rintro _ ⟨y2,rfl⟩;go_wp2_with fail;rw [xq_eq,yr_eq];obtain ⟨X,gX⟩:∃ X,X=V.h+big1 V.e+chw V.e V.f V.g+kk+ww:=⟨_,rfl⟩;obtain ⟨Y,gY⟩:∃ Y,Y=big0 V.a+mjw V.a V.b V.c:=⟨_,rfl⟩;rw [<-gX,<-gY];have HQ:=lh (show (⟨X+Y,V.a,V.b,V.c,V.d+X,V.e,V.f,V.g⟩:V8)=rounds s (wordsL r 64) (t+1) from by rw [<-HR.out,gX,gY];rfl);have HX6:=lh (HX5.out.trans y2.x);have HV6:=lh ((y2.x.block (ltB HV5.out)).trans HV5.out);have d64t:decide ((t:Int)<64)=true:=by simp;omega
           clear gX gY c0 c1 c2 c4 c5 c6 c7 ck cw;obtain ⟨y2v,y2x⟩:=y2;go_loopw [18] (fun iv wr=>Hid (∃ k:Nat,k<=7/\iv=.int .i64 k/\Ext wd wr/\wr.heap[wd.heap.size]?=some (.cells (vShift V k) 292 (0,0)))) (fun iv _=>(intOf iv).toNat)
           case atStart=>exact ⟨7,by omega,rfl,HX6.out,HV6.out⟩
           case round =>
            obtain ⟨k,hk,rfl,hx7,hv7⟩:=hrel.out;clear hrel HX6 HV6;have HX7:=lh hx7;have HV7:=lh hv7
            match k,hk,hv7,HV7 with
            | 0,_,hv7,HV7 =>
             have c4:wr.cell? ⟨wd.heap.size,4,none⟩=some (.int .u32 V.d.toNat):=cellB hv7;have c0:wr.cell? ⟨wd.heap.size,0,none⟩=some (.int .u32 V.a.toNat):=cellB hv7;have f4:wr.frozen? ⟨wd.heap.size,4,none⟩=false:=frozenB hv7;have f0:wr.frozen? ⟨wd.heap.size,0,none⟩=false:=frozenB hv7;clear hx7 hv7;obtain ⟨wf,rfl⟩:∃ x,x=wr:=⟨_,rfl⟩;go_wp2_with fail;refine ⟨⟨t+1,by omega,by go_num,(HX7.out.setCell (Nat.le_refl _) _).setCell (Nat.le_refl _) _,?_⟩,by simp [intOf];omega⟩;rw [setCellB (setCellB HV7.out),<-HQ.out,wd_add,wd_add];rfl
            | c+1,hk,hv7,HV7 =>
             obtain ⟨x,hxv,hxc,hset⟩:=vShift_set V c (by omega);have c1:wr.cell? ⟨wd.heap.size,c,none⟩=some (.int .u32 x.toNat):=(cellB hv7).trans hxc
             have hold:∃ o,(vShift V (c+1))[c+1]?=some o:=by
              have:c=0\/c=1\/c=2\/c=3\/c=4\/c=5\/c=6:=by omega
              rcases this with rfl | rfl | rfl | rfl | rfl | rfl | rfl <;> exact ⟨_,rfl⟩
             obtain ⟨old,hold⟩:=hold;have c2:wr.cell? ⟨wd.heap.size,c+1,none⟩=some old:=(cellB hv7).trans hold;have cf:wr.frozen? ⟨wd.heap.size,c+1,none⟩=false:=frozenB hv7;have HSET:=lh hset;clear hxv hxc hset hold hx7 hv7;go_wp2_with fail;refine ⟨⟨c,by omega,by go_num,HX7.out.setCell (Nat.le_refl _) _,?_⟩,by simp [intOf]⟩;rw [setCellB HV7.out];exact congrArg (fun a=>some (Obj.cells a 292 (0,0))) HSET.out
          ·have e64:t=64:=by omega
           have HV64:=lh (e64▸HV5.out);have d64t:decide ((t:Int)<64)=false:=by simp;omega
           obtain ⟨wg,rfl⟩:∃ x,x=wr:=⟨_,rfl⟩;obtain ⟨V,gV⟩:∃ V,V=rounds s (wordsL r 64) 64:=⟨_,rfl⟩;have HVG:=lh (show wg.heap[wd.heap.size]?=some (vObj V) from by rw [gV];exact HV64.out);have HFIN:=lh (show s.add V=digN W (j+1) from by rw [gV,<-HD.out];rfl);have HSG:=lh ((hx5.block (ltB HSD.out)).trans HSD.out);have HTG:=lh (HTD.out.trans (Touch.of hx5));have hne:wd.heap.size≠gs:=by omega
           clear gV HV64 HV5 hv5 hx5 e64 HX5 HD HKD HWC2;go_wp2_with fail;go_loopw [19] (fun iv wr=>Hid (∃ k:Nat,k<=8/\iv=.int .i64 k/\Touch gs wg wr/\wr.heap[gs]?=some (.cells (stR (mixL (s.add V).list s.list k) rest) 40 (0,0)))) (fun iv _=>8 - (intOf iv).toNat)
           case atStart=>exact ⟨0,by omega,rfl,Touch.of (Ext.refl wg),HSG.out⟩
           case round =>
            obtain ⟨k3,hk3,rfl,ht3,hs3⟩:=hrel.out;clear hrel;have HT3:=lh ht3;have HS3:=lh hs3;have hv3:wr.heap[wd.heap.size]?=some (vObj V):=(ht3.block _ (ltB HVG.out) (fun e=>hne (Option.some.inj e))).trans HVG.out;by_cases hlt3:k3<8
            ·obtain ⟨x,hx⟩:∃ x,s.list[k3]?=some x:=⟨_,List.getElem?_eq_getElem (by show k3<8;exact hlt3)⟩;obtain ⟨y,hy⟩:∃ x,V.list[k3]?=some x:=⟨_,List.getElem?_eq_getElem (by show k3<8;exact hlt3)⟩
             have hxy:(s.add V).list[k3]?=some (x+y):=by
              rw [show (s.add V).list=List.zipWith (·+·) s.list V.list from rfl,List.getElem?_zipWith,hx,hy]
             have c1:∀ v:After wr,v.v.cell? ⟨gs,k3,none⟩=some (.int .u32 x.toNat):=fun v=>(After.at hs3 v).trans (stR_word _ _ k3 x (by rw [mixL_at _ _ _ rfl hlt3];exact hx));have c2:∀ v:After wr,v.v.cell? ⟨wd.heap.size,k3,none⟩=some (.int .u32 y.toNat):=fun v=>(After.at hv3 v).trans (by rw [show V.get=(V.list.map wv).toArray from rfl,List.getElem?_toArray,List.getElem?_map,hy];rfl);have cf:∀ v:After wr,v.v.frozen? ⟨gs,k3,none⟩=false:=fun v=>After.free hs3 v;obtain ⟨z,gz⟩:∃ z,z=x+y:=⟨_,rfl⟩;have HA:=lh (wd_add x y);rw [<-gz] at HA hxy;have HM:=lh (mixL_set (s.add V).list s.list k3 z rfl rfl hlt3 hxy);have HL:=lh (mixL_len (s.add V).list s.list k3 rfl rfl hk3);clear gz hx hy hxy hs3 hv3 ht3;go_wp2_with fail;refine wp_region_after_tail 11 (by kernel_rfl) (by kernel_rfl) ?_;simp only [List.take_succ_cons,List.take_zero,List.drop_succ_cons,List.drop_zero]
             repeat (go_big_quiet_step (fail))
             refine wpQuiet_nil ?_;rintro _ ⟨y3,rfl⟩;rw [HA.out];have HY:=lh y3.x;go_wp2_with fail;go_roundw
             case rel=>exact ⟨k3+1,by omega,by go_num,(HT3.out.trans (Touch.of HY.out)).setCell _,by rw [setCellB ((HY.out.block (ltB HS3.out)).trans HS3.out),<-HM.out,<-stR_obj _ _ _ _ (by rw [HL.out];exact hlt3)];rfl⟩
             case measure=>simp [intOf];omega
            ·have e8:k3=8:=by omega
             have HS8:=lh (show wr.heap[gs]?=some (.cells (stR (digN W (j+1)).list rest) 40 (0,0)) from by rw [hs3,e8,<-HFIN.out];rfl);clear e8 hs3 ht3 hv3;go_wp2_with fail;refine ⟨⟨j+1,by omega,by go_num,HTG.out.trans HT3.out,HS8.out⟩,by simp [intOf];omega⟩
      ·have ej:j=nb:=by omega
       have HSZ:=lh (show wr.heap[gs]?=some (.cells (stR (digN W nb).list rest) 40 (0,0)) from by rw [HST.out,ej]);have HBZ:=lh ((HT.out.block _ (ltB HB2.out) (fun e=>hgs0 (Option.some.inj e).symm)).trans HB2.out);have HXZ:=lh (HT.out.fresh HXC.out (by have:=HXA.out.size;omega));have hout:=sha_word (digN W nb);have hol:((digN W nb).list.map outB).flatten.length=32:=by simp [V8.list,outB]
       obtain ⟨out,hO⟩:∃ o,o=((digN W nb).list.map outB).flatten:=⟨_,rfl⟩;rw [<-hO] at HSHA hout hol;obtain ⟨S,hS⟩:∃ S,S=digN W nb:=⟨_,rfl⟩;rw [<-hS] at HSZ hout;have HOUT:=lh hout;have HOL:=lh hol;have dlt:decide (64*(j:Int)<64*(nb:Int))=false:=by simp;omega
       clear hO hS hout hol ej HST;obtain ⟨wz,rfl⟩:∃ x,x=wr:=⟨_,rfl⟩;go_wp2_with fail;go_loopw [21] (fun iv wr=>Hid (∃ i:Nat,i<=32/\iv=.int .i64 i/\Ext wz wr/\wr.heap[wz.heap.size]?=some (hObj out i))) (fun iv _=>32 - (intOf iv).toNat)
       case atStart=>exact ⟨0,by omega,rfl,(Ext.refl wz).alloc _,heap_alloc_new _ _⟩
       case round =>
        obtain ⟨i8,hi8,rfl,hx8,hh8⟩:=hrel.out;clear hrel;have HX8:=lh hx8;have HH8:=lh hh8;by_cases hlt8:i8<32
        ·obtain ⟨q,hq⟩:∃ q,q=i8 / 4:=⟨_,rfl⟩;obtain ⟨k,hk⟩:∃ k,k=i8 % 4:=⟨_,rfl⟩;have hik:i8=4*q+k:=by omega
         have hk4:k<4:=by omega
         have hq8:q<8:=by omega
         obtain ⟨x,hx⟩:∃ x,S.list[q]?=some x:=⟨_,List.getElem?_eq_getElem (by show q<8;exact hq8)⟩;have hb:=HOUT.out q k x hx hk4;rw [<-hik] at hb;obtain ⟨b,hbb⟩:∃ b,b=byteOf (x.toNat / 2 ^ (24 - 8*k)):=⟨_,rfl⟩;rw [<-hbb] at hb
         have HBV:=lh (show (x.toNat:Int) / 2 ^ (24 - 8*k) % 256=(b.toNat:Int) from by
          rw [hbb];unfold byteOf;rw [UInt8.toNat_ofNat',show (2:Int) ^ (24 - 8*k)=((2 ^ (24 - 8*k):Nat):Int) from (Int.natCast_pow 2 _).symm];generalize 2 ^ (24 - 8*k)=d;rw [<-Int.natCast_ediv]
          omega)
         have cs8:wr.cell? ⟨gs,q,none⟩=some (.int .u32 x.toNat):=(cellB ((hx8.block (ltB HSZ.out)).trans HSZ.out)).trans (stR_word _ _ q x hx);obtain ⟨old,hold⟩:=hArr_at out i8 i8 HOL.out (by omega) hlt8;have ch8:wr.cell? ⟨wz.heap.size,i8,none⟩=some old:=(cellB hh8).trans hold;have cf8:wr.frozen? ⟨wz.heap.size,i8,none⟩=false:=frozenB hh8;have d1:(i8:Int) / 4=(q:Int):=by omega
         have d2:(i8:Int) % 4=(k:Int):=by omega
         have HSET:=lh (fun val hv=>hObj_set out i8 b val hb HOL.out hv);clear hq hk hik hx hb hbb hold hx8 hh8;go_wp2_with fail;refine ⟨⟨i8+1,by omega,by go_num,HX8.out.setCell (Nat.le_refl _) _,?_⟩,by simp [intOf];omega⟩;rw [setCellB HH8.out];exact congrArg some (HSET.out _ HBV.out)
        ·have e32:i8=32:=by omega
         have HHE:=lh (show wr.heap[wz.heap.size]?=some (.cells (hArr out 32) 54 (0,0)) from by rw [hh8,e32];rfl);have HBE:=lh ((hx8.block (ltB HBZ.out)).trans HBZ.out);have HXE:=lh (HXZ.out.trans hx8);have HSS:=lh (hArr_size out 32 HOL.out (by omega));have HONE:=lh (hArr_one out 32);obtain ⟨H,hH⟩:∃ H,H=hArr out 32:=⟨_,rfl⟩;have HFIN:=lh (show hashV (shaL b)=.agg H from by rw [HSHA.out,hH];rfl);rw [<-hH] at HHE HSS HONE;have d32:decide ((i8:Int)<32)=false:=by simp;omega
         clear hH e32 hx8 hh8;obtain ⟨wy,rfl⟩:∃ x,x=wr:=⟨_,rfl⟩
         go_wp2_with (first
          | (refine wpList_load_row rfl _ _ rfl wz.heap.size rfl 54 H (0,0) _ HHE.out underlying54 rfl (by rw [HSS.out];kernel_rfl) ?_;go_frame)
          | (refine wpList_storeT rfl _ _ _ rfl w.heap.size H rfl rfl 54 _ HBE.out (by rw [HSS.out];kernel_rfl) (by rw [HSS.out];rfl) HONE.out ?_;intro w6 hb6 ht6;have HB6:=lh hb6;have HT6:=lh ht6;clear hb6 ht6;go_frame))
         refine bodyPost_ret (results_cell_row rfl _ _ w.heap.size 54 _ (0,0) _ rfl HB6.out underlying54 rfl (by rw [HSS.out];kernel_rfl)) rfl ⟨by rw [HFIN.out],HT6.out.fresh HXE.out (Nat.le_refl _)⟩
end
end Go.Proofs.YtodickpibbbiiaaGreatDoor
