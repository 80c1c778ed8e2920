import Derived.Test.YtodickpibbbiiaaGreatDoorWkA1
import Derived.Test.YtodickpibbbiiaaGreatDoorIter
import Derived.WideLaws
import Derived.Deep.RegionHeld
import Derived.Maps.RangeWalk
import Derived.Sort.KeysCollected
import Derived.Sort.OwnSorted
open Go.Proofs.Tryz
namespace Go.Proofs.YtodickpibbbiiaaGreatDoor
open Go.RowKit
section
structure ActR where
 kind:Int
 p:ByteArray
 q:ByteArray
 text:ByteArray
 long:Int
 time:Int
 picks:List UInt8
def dataL (t:ByteArray) (n:Nat):List UInt8:=(List.range n).map fun i=>t.toList.getD (i % t.size) 0
def dataN (t:ByteArray) (long:Int):Nat:=if t.size=0 then 0 else min long.toNat 3000
def dataS (t:ByteArray) (long:Int):ByteArray:=⟨(dataL t (dataN t long)).toArray⟩
def ActR.data (a:ActR):ByteArray:=dataS a.text a.long
theorem dataL_len (t:ByteArray) (n:Nat):(dataL t n).length=n:=by simp [dataL]
theorem dataL_snoc (t:ByteArray) (n:Nat):dataL t (n+1)=dataL t n++[t.toList.getD (n % t.size) 0]:=by simp [dataL,List.range_succ]
def reach:Nat:=140737488351232
structure ActOk (x:ActR):Prop where
 kind:IntKind.i64.min<=x.kind/\x.kind<=IntKind.i64.max
 long:IntKind.i64.min<=x.long/\x.long<=IntKind.i64.max
 p:x.p.size<=reach
 q:x.q.size<=reach
 text:x.text.size<=reach
end
section
def Sorted (l:Nodes):Prop:=l.Pairwise fun x y=>cmpL x.1.toList y.1.toList=-1
def insS:Nodes->ByteArray->Nd->Nodes
 | [],p,n=>[(p,n)]
 | (q,m)::r,p,n=>if p=q then (p,n)::r else if cmpL p.toList q.toList=-1 then (p,n)::(q,m)::r else (q,m)::insS r p n
def usedL:Nodes->Nat
 | []=>0
 | x::r=>64+x.2.data.size+usedL r
def oldU (l:Nodes) (p:ByteArray):Nat:=match findA l p with | some o=>64+o.data.size | none=>0
theorem cmp_lt_ne {a b:ByteArray} (h:cmpL a.toList b.toList=-1):a≠b:=fun e=>by rw [e,cmpL_self] at h;cases h
theorem cmp_total {a b:ByteArray} (h:a≠b) (k:¬ cmpL a.toList b.toList=-1):cmpL b.toList a.toList=-1:=by
 rcases cmpL_vals a.toList b.toList with e | e | e
 ·exact absurd e k
 ·exact absurd (ba_ext (cmpL_zero _ _ e)) h
 ·rw [cmpL_anti,e]
theorem Sorted.nodup {l:Nodes} (h:Sorted l):(l.map (·.1)).Nodup:=List.pairwise_map.2 (h.imp fun k=>cmp_lt_ne k)
theorem ins_mem {l:Nodes} {p:ByteArray} {n:Nd} {x:ByteArray×Nd} (h:x∈insS l p n):x=(p,n)\/x∈l:=by
 induction l with
 | nil=>simp [insS] at h;exact .inl h
 | cons y r ih =>
  obtain ⟨q,m⟩:=y;unfold insS at h;split at h
  ·rcases List.mem_cons.1 h with h | h
   ·exact .inl h
   ·exact .inr (List.mem_cons_of_mem _ h)
  ·split at h
   ·rcases List.mem_cons.1 h with h | h
    ·exact .inl h
    ·exact .inr h
   ·rcases List.mem_cons.1 h with h | h
    ·exact .inr (by rw [h];exact List.mem_cons_self)
    ·rcases ih h with h | h
     ·exact .inl h
     ·exact .inr (List.mem_cons_of_mem _ h)
theorem ins_find (l:Nodes) (p:ByteArray) (n:Nd) (s:ByteArray):findA (insS l p n) s=if s=p then some n else findA l s:=by
 induction l with
 | nil =>
  unfold insS findA;by_cases e:s=p
  ·rw [if_pos e,if_pos e.symm]
  ·rw [if_neg e,if_neg (Ne.symm e)];rfl
 | cons y r ih =>
  obtain ⟨q,m⟩:=y;unfold insS;by_cases hpq:p=q
  ·rw [if_pos hpq];subst hpq;by_cases e:s=p
   ·rw [if_pos e,findA,if_pos e.symm]
   ·rw [if_neg e,findA,if_neg (Ne.symm e),findA,if_neg (Ne.symm e)]
  ·rw [if_neg hpq];split
   ·by_cases e:s=p
    ·rw [if_pos e,findA,if_pos e.symm]
    ·rw [if_neg e,findA,if_neg (Ne.symm e)]
   ·rw [findA];by_cases e:q=s
    ·rw [if_pos e,if_neg (fun e2=>hpq (e2.symm.trans e.symm)),findA,if_pos e]
    ·rw [if_neg e,ih,findA,if_neg e]
theorem Sorted.ins {l:Nodes} (h:Sorted l) (p:ByteArray) (n:Nd):Sorted (insS l p n):=by
 induction l with
 | nil=>exact List.pairwise_singleton _ _
 | cons y r ih =>
  obtain ⟨q,m⟩:=y;obtain ⟨h1,h2⟩:=List.pairwise_cons.1 h;unfold insS;split
  ·rename_i e;subst e;exact List.pairwise_cons.2 ⟨h1,h2⟩
  ·rename_i hne;split
   ·rename_i hlt;refine List.pairwise_cons.2 ⟨fun z hz=>?_,h⟩;rcases List.mem_cons.1 hz with rfl | hz
    ·exact hlt
    ·exact cmpL_trans _ _ _ hlt (h1 z hz)
   ·rename_i hge;refine List.pairwise_cons.2 ⟨fun z hz=>?_,ih h2⟩;rcases ins_mem hz with rfl | hz
    ·exact cmp_total hne hge
    ·exact h1 z hz
theorem Sorted.drop {l:Nodes} (h:Sorted l) (p:ByteArray):Sorted (dropA l p):=List.Pairwise.sublist List.filter_sublist h
theorem Sorted.filter {l:Nodes} (h:Sorted l) (f:ByteArray×Nd->Bool):Sorted (l.filter f):=List.Pairwise.sublist List.filter_sublist h
theorem ins_perm {l:Nodes} {p:ByteArray} {n:Nd} (h:∀ x∈l,x.1≠p):(insS l p n).Perm ((p,n)::l):=by
 induction l with
 | nil=>exact List.Perm.refl _
 | cons y r ih =>
  obtain ⟨q,m⟩:=y;unfold insS;rw [if_neg (Ne.symm (h (q,m) List.mem_cons_self))];split
  ·exact List.Perm.refl _
  ·exact ((ih fun x hx=>h x (List.mem_cons_of_mem _ hx)).cons _).trans (List.Perm.swap _ _ _)
theorem nodup_of_keys {l:Nodes} (h:(l.map (·.1)).Nodup):l.Nodup:=(List.pairwise_map.1 h).imp fun k e=>k (by rw [e])
theorem perm_of_find {a b:Nodes} (ha:(a.map (·.1)).Nodup) (hb:(b.map (·.1)).Nodup) (h:∀ s,findA a s=findA b s):a.Perm b:=by
 refine (List.perm_ext_iff_of_nodup (nodup_of_keys ha) (nodup_of_keys hb)).2 fun x=>?_;obtain ⟨s,n⟩:=x;constructor
 ·intro hx;exact findA_mem ((h s).symm.trans (findA_of_mem ha hx))
 ·intro hx;exact findA_mem ((h s).trans (findA_of_mem hb hx))
theorem usedL_perm {a b:Nodes} (h:a.Perm b):usedL a=usedL b:=by
 induction h with
 | nil=>rfl
 | cons x _ ih=>show _+usedL _=_+usedL _;rw [ih]
 | swap x y l=>show _+(_+usedL _)=_+(_+usedL _);omega
 | trans _ _ ih1 ih2=>exact ih1.trans ih2
theorem usedL_append (a b:Nodes):usedL (a++b)=usedL a+usedL b:=by
 induction a with
 | nil=>simp [usedL]
 | cons x r ih=>show _+usedL (r++b)=_+usedL r+_;rw [ih];omega
theorem usedL_drop_none {l:Nodes} {p:ByteArray} (h:findA l p=none):dropA l p=l:=by
 unfold dropA;refine List.filter_eq_self.2 fun x hx=>?_
 have:x.1≠p:=fun e=>by
  have:=findA_isSome.2 (List.mem_map.2 ⟨x,hx,e⟩);rw [h] at this;cases this
 simpa using this
theorem drop_used {l:Nodes} (h:(l.map (·.1)).Nodup) (p:ByteArray):usedL (dropA l p)+oldU l p=usedL l:=by
 induction l with
 | nil=>rfl
 | cons y r ih =>
  obtain ⟨q,m⟩:=y;rw [List.map_cons,List.nodup_cons] at h;unfold oldU findA;by_cases e:q=p
  ·rw [if_pos e]
   have hn:findA r p=none:=by
    cases hf:findA r p with
    | none=>rfl
    | some o=>exact absurd (List.mem_map.2 ⟨_,findA_mem hf,e.symm⟩) h.1
   have:dropA ((q,m)::r) p=r:=by
    unfold dropA;rw [List.filter_cons,if_neg (by simpa using e)];exact usedL_drop_none hn
   rw [this]
   show usedL r+(64+m.data.size)=64+m.data.size+usedL r
   omega
  ·rw [if_neg e]
   have:dropA ((q,m)::r) p=(q,m)::dropA r p:=by
    unfold dropA;rw [List.filter_cons,if_pos (by simpa using e)]
   rw [this];have h2:=ih h.2
   show 64+m.data.size+usedL (dropA r p)+oldU r p=64+m.data.size+usedL r
   omega
theorem ins_drop (l:Nodes) (p:ByteArray) (n:Nd) (h:Sorted l):(insS l p n).Perm ((p,n)::dropA l p) :=
 perm_of_find (h.ins p n).nodup (by
  rw [List.map_cons,List.nodup_cons];refine ⟨fun hm=>?_,dropA_nodup h.nodup p⟩;obtain ⟨y,hy,e⟩:=List.mem_map.1 hm;have:=(List.mem_filter.1 hy).2;simp at this
  exact this e) fun s=>by
  rw [ins_find,findA,findA_drop];by_cases e:s=p
  ·rw [if_pos e,if_pos e.symm]
  ·rw [if_neg e,if_neg (Ne.symm e),if_neg e]
theorem ins_used {l:Nodes} (h:Sorted l) (p:ByteArray) (n:Nd):usedL (insS l p n)+oldU l p=usedL l+(64+n.data.size):=by
 rw [usedL_perm (ins_drop l p n h)];have:=drop_used h.nodup p
 show 64+n.data.size+usedL (dropA l p)+oldU l p=_
 omega
theorem mem_used {l:Nodes} {x:ByteArray×Nd} (h:x∈l):64+x.2.data.size<=usedL l:=by
 induction l with
 | nil=>cases h
 | cons y r ih =>
  rcases List.mem_cons.1 h with rfl | h
  ·show _<=64+x.2.data.size+usedL r;omega
  ·have:=ih h;show _<=64+y.2.data.size+usedL r;omega
theorem len_used (l:Nodes):64*l.length<=usedL l:=by
 induction l with
 | nil=>exact Nat.le_refl _
 | cons y r ih=>show 64*(r.length+1)<=64+y.2.data.size+usedL r;omega
def kindAt (l:Nodes) (p:ByteArray):Int:=if p.toList.isEmpty then 2 else match findA l p with | some n=>n.kind | none=>0
def dirE (l:Nodes) (p:ByteArray):Int:=if kindAt l p=0 then 5 else if kindAt l p=2 then 0 else 12
def homeE (l:Nodes) (p:ByteArray):Int:=dirE l (parentR p)
def fileE (l:Nodes) (p:ByteArray):Int:=match findA l p with | some n=>if n.kind=2 then 12 else if n.kind=3 then 11 else 0 | none=>0
structure TreeOk (l:Nodes) (room:Nat):Prop where
 sorted:Sorted l
 may:∀ x∈l,mayB x.1=true
 kind:∀ x∈l,x.2.kind=1\/x.2.kind=2\/x.2.kind=3
 home:∀ x∈l,kindAt l (parentS x.1)=2
 used:usedL l<=room
 target:∀ x∈l,x.2.target.size<=160
theorem mayB_size {s:ByteArray} (h:mayB s=true):s.size<=160:=by
 unfold mayB at h;simp only [Bool.and_eq_true,decide_eq_true_eq] at h;exact h.1.1
theorem empty_of {s:ByteArray}:s.toList.isEmpty=true↔s.toList=[]:=by cases s.toList <;> simp
theorem mayB_nonempty {s:ByteArray} (h:mayB s=true):s.toList.isEmpty=false:=by
 cases e:s.toList.isEmpty with
 | false=>rfl
 | true=>exact absurd (empty_of.1 e) (mayB_ne h)
theorem parentR_may {s:ByteArray} (h:mayB s=true):parentR s=parentS s:=by unfold parentR;rw [if_pos h]
theorem kindAt_two {l:Nodes} {p:ByteArray} (h:kindAt l p=2) (hp:p.toList.isEmpty=false):∃ o,findA l p=some o/\o.kind=2:=by
 unfold kindAt at h;rw [hp] at h
 cases hf:findA l p with
 | none=>rw [hf] at h;cases h
 | some o=>rw [hf] at h;exact ⟨o,rfl,h⟩
theorem within_of_form {p d:ByteArray} (hp:mayB p=true) (hd:mayB d=true) {r:List UInt8} (h:p.toList=d.toList++47::r):withinB p d=true:=by
 unfold withinB;rw [hp,hd,(hasPrefix_iff _ _).2 ⟨r,by rw [h];simp⟩];simp
theorem parent_split {p:ByteArray} {d r:List UInt8} (h:p.toList=d++47::r):(parentS p).toList=d\/∃ r',(parentS p).toList=d++47::r'/\(parentS p).toList.length<p.toList.length:=by
 rw [(split_toList p).1,h];rcases last_slash r with hr | ⟨c,e,rfl,he⟩
 ·rw [aheadL_at d r hr];exact .inl rfl
 ·refine .inr ⟨c,?_⟩;have:d++47::(c++47::e)=(d++47::c)++47::e:=by simp
  rw [this,aheadL_at _ e he];refine ⟨rfl,?_⟩;simp
theorem parent_form {p:ByteArray} (h:(parentS p).toList≠[]):∃ b,p.toList=(parentS p).toList++47::b:=by
 rw [(split_toList p).1] at h ⊢;rcases last_slash p.toList with hn | ⟨a,b,e,hb⟩
 ·rw [aheadL_no hn] at h;exact absurd rfl h
 ·rw [e,aheadL_at a b hb];exact ⟨b,rfl⟩
theorem within_parent {p d:ByteArray} (hp:mayB p=true) (hd:mayB d=true) (h:parentS p=d):withinB p d=true:=by
 obtain ⟨b,hb⟩:=parent_form (p:=p) (by rw [h];exact mayB_ne hd);exact within_of_form hp hd (by rw [hb,h])
theorem TreeOk.inside {l:Nodes} {room:Nat} (T:TreeOk l room) {d:ByteArray} (hd:mayB d=true):∀ (k:Nat) (x:ByteArray×Nd),x∈l->x.1.toList.length<=k->withinB x.1 d=true->∃ o,findA l d=some o/\o.kind=2:=by
 intro k
 induction k with
 | zero =>
  intro x hx hk hw;exact absurd (List.length_eq_zero_iff.1 (by omega)) (mayB_ne (T.may x hx))
 | succ k ih =>
  intro x hx hk hw;obtain ⟨r,hr⟩:=within_form hd hw;have hh:=T.home x hx;rcases parent_split hr with h | ⟨r',h,hlt⟩
  ·have e:parentS x.1=d:=ba_ext h;rw [e] at hh;exact kindAt_two hh (mayB_nonempty hd)
  ·have hne:(parentS x.1).toList.isEmpty=false:=by rw [h];simp
   obtain ⟨o,ho,_⟩:=kindAt_two hh hne;have hm:=findA_mem ho;exact ih _ hm (by show (parentS x.1).toList.length<=k;omega) (within_of_form (T.may _ hm) hd h)
theorem kindAt_congr {l m:Nodes} {p:ByteArray} (h:findA l p=findA m p):kindAt l p=kindAt m p:=by unfold kindAt;rw [h]
theorem homeE_zero {l:Nodes} {p:ByteArray} (hp:mayB p=true) (h:homeE l p=0):kindAt l (parentS p)=2:=by
 unfold homeE dirE at h;rw [parentR_may hp] at h;split at h
 ·cases h
 ·split at h
  ·assumption
  ·cases h
theorem parent_ne {p:ByteArray} (hp:mayB p=true):parentS p≠p:=by
 intro e;by_cases hn:(parentS p).toList=[]
 ·rw [e] at hn;exact mayB_ne hp hn
 ·obtain ⟨b,hb⟩:=parent_form hn;have:=congrArg List.length hb;rw [e] at this;simp at this
theorem TreeOk.find_may {l:Nodes} {room:Nat} (T:TreeOk l room) {p:ByteArray} {n:Nd} (h:findA l p=some n):mayB p=true:=T.may _ (findA_mem h)
theorem TreeOk.put {l:Nodes} {room:Nat} (T:TreeOk l room) {p:ByteArray} {n:Nd} (hp:mayB p=true) (hh:kindAt l (parentS p)=2) (hk:n.kind=1\/n.kind=2\/n.kind=3) (ho:∀ o,findA l p=some o->o.kind≠2)
  (hu:usedL (insS l p n)<=room) (ht:n.target.size<=160):TreeOk (insS l p n) room:=by
 have other:∀ q,q≠p->kindAt (insS l p n) q=kindAt l q:=fun q hq=>kindAt_congr (by rw [ins_find,if_neg hq])
 have ne:∀ q,kindAt l q=2->q≠p:=fun q hq e=>by
  subst e;obtain ⟨o,h1,h2⟩:=kindAt_two hq (mayB_nonempty hp);exact ho o h1 h2
 refine ⟨T.sorted.ins p n,fun x hx=>?_,fun x hx=>?_,fun x hx=>?_,hu,fun x hx=>?_⟩
 ·rcases ins_mem hx with rfl | hx
  ·exact hp
  ·exact T.may x hx
 ·rcases ins_mem hx with rfl | hx
  ·exact hk
  ·exact T.kind x hx
 ·rcases ins_mem hx with rfl | hx
  ·rw [other _ (parent_ne hp)];exact hh
  ·rw [other _ (ne _ (T.home x hx))];exact T.home x hx
 ·rcases ins_mem hx with rfl | hx
  ·exact ht
  ·exact T.target x hx
theorem mem_drop {l:Nodes} {p:ByteArray} {x:ByteArray×Nd}:x∈dropA l p↔x∈l/\x.1≠p:=by
 unfold dropA;rw [List.mem_filter];simp
theorem TreeOk.drop {l:Nodes} {room:Nat} (T:TreeOk l room) {p:ByteArray} (hp:mayB p=true) (hw:∀ x∈l,withinB x.1 p=false):TreeOk (dropA l p) room:=by
 refine ⟨T.sorted.drop p,fun x hx=>T.may x (mem_drop.1 hx).1,fun x hx=>T.kind x (mem_drop.1 hx).1,fun x hx=>?_,?_,fun x hx=>T.target x (mem_drop.1 hx).1⟩
 ·obtain ⟨h1,_⟩:=mem_drop.1 hx
  have hne:parentS x.1≠p:=fun e=>by
   have:=within_parent (T.may x h1) hp e;rw [hw x h1] at this
   cases this
  exact (kindAt_congr (m:=l) (by rw [findA_drop,if_neg hne])).trans (T.home x h1)
 ·have:=drop_used T.sorted.nodup p;have:=T.used;omega
end
section
def newP (a b k:ByteArray):ByteArray:=b++k.extract a.size k.size
def movedB (a k:ByteArray):Bool:=decide (k=a)||withinB k a
def newX (a b:ByteArray) (x:ByteArray×Nd):ByteArray×Nd:=(newP a b x.1,x.2)
def movL (l:Nodes) (a:ByteArray):Nodes:=l.filter fun x=>movedB a x.1
def restL (l:Nodes) (a b:ByteArray):Nodes:=(dropA l b).filter fun x=>!movedB a x.1
def moveL (l:Nodes) (a b:ByteArray):Nodes:=((movL l a).map (newX a b)).foldl (fun o x=>insS o x.1 x.2) (restL l a b)
theorem newP_toList (a b k:ByteArray):(newP a b k).toList=b.toList++k.toList.drop a.size:=by
 unfold newP;rw [toList_append,toList_extract,List.take_of_length_le (by simp [len_toList])]
theorem moved_form {a k:ByteArray} (ha:mayB a=true) (h:movedB a k=true):∃ t,k.toList=a.toList++t/\(k=a/\t=[]\/∃ r,t=47::r/\withinB k a=true):=by
 unfold movedB at h;simp only [Bool.or_eq_true,decide_eq_true_eq] at h;rcases h with rfl | h
 ·exact ⟨[],by simp,.inl ⟨rfl,rfl⟩⟩
 ·obtain ⟨r,hr⟩:=within_form ha h;exact ⟨47::r,hr,.inr ⟨r,rfl,h⟩⟩
theorem newP_form {a b k:ByteArray} {t:List UInt8} (h:k.toList=a.toList++t):(newP a b k).toList=b.toList++t:=by
 rw [newP_toList,h,<-len_toList a,List.drop_left]
theorem newP_self (a b:ByteArray):newP a b a=b:=ba_ext (by rw [newP_form (t:=[]) (by simp)];simp)
theorem newP_inj {a b k j:ByteArray} (ha:mayB a=true) (hk:movedB a k=true) (hj:movedB a j=true) (h:newP a b k=newP a b j):k=j:=by
 obtain ⟨t,e1,_⟩:=moved_form ha hk;obtain ⟨u,e2,_⟩:=moved_form ha hj;have:=congrArg ByteArray.toList h;rw [newP_form e1,newP_form e2] at this;exact ba_ext (by rw [e1,e2,List.append_cancel_left this])
structure MoveOk (l:Nodes) (room:Nat) (a b:ByteArray):Prop where
 tree:TreeOk l room
 ma:mayB a=true
 mb:mayB b=true
 ne:a≠b
 out:withinB b a=false
 is:(findA l a).isSome=true
 home:kindAt l (parentS b)=2
 dirs:∀ o,findA l b=some o->o.kind≠2
 may:∀ x∈l,withinB x.1 a=true->mayB (newP a b x.1)=true
theorem mem_mov {l:Nodes} {a:ByteArray} {x:ByteArray×Nd}:x∈movL l a↔x∈l/\movedB a x.1=true:=by unfold movL;rw [List.mem_filter]
theorem mem_rest {l:Nodes} {a b:ByteArray} {x:ByteArray×Nd}:x∈restL l a b↔x∈l/\x.1≠b/\movedB a x.1=false:=by
 unfold restL;rw [List.mem_filter,mem_drop,and_assoc];simp
theorem MoveOk.notb {l:Nodes} {room:Nat} {a b:ByteArray} (M:MoveOk l room a b):movedB a b=false:=by
 unfold movedB;rw [M.out,decide_eq_false (Ne.symm M.ne)];rfl
theorem MoveOk.newMay {l:Nodes} {room:Nat} {a b:ByteArray} (M:MoveOk l room a b) {x:ByteArray×Nd} (h:x∈movL l a):mayB (newP a b x.1)=true:=by
 obtain ⟨h1,h2⟩:=mem_mov.1 h;obtain ⟨t,ht,h3⟩:=moved_form M.ma h2;rcases h3 with ⟨e,_⟩ | ⟨r,_,hw⟩
 ·rw [e,newP_self];exact M.mb
 ·exact M.may x h1 hw
theorem MoveOk.fresh {l:Nodes} {room:Nat} {a b:ByteArray} (M:MoveOk l room a b) {x y:ByteArray×Nd} (hx:x∈movL l a) (hy:y∈l) (hb:y.1≠b):y.1≠newP a b x.1:=by
 obtain ⟨h1,h2⟩:=mem_mov.1 hx;obtain ⟨t,ht,h3⟩:=moved_form M.ma h2;rcases h3 with ⟨e,_⟩ | ⟨r,rfl,hw⟩
 ·rw [e,newP_self];exact hb
 ·intro e;have hf:=newP_form (b:=b) ht;rw [<-e] at hf;obtain ⟨o,ho,hk⟩:=M.tree.inside M.mb _ y hy (Nat.le_refl _) (within_of_form (M.tree.may y hy) M.mb hf);exact M.dirs o ho hk
theorem mov_ne {l:Nodes} {room:Nat} {a b:ByteArray} (M:MoveOk l room a b) {x:ByteArray×Nd} (hx:x∈movL l a):x.1≠b:=fun e=>by
 have:=(mem_mov.1 hx).2;rw [e,M.notb] at this
 cases this
theorem keys_nodup_map {a b:ByteArray} {N:Nodes} (ha:mayB a=true) (h:(N.map (·.1)).Nodup) (hm:∀ x∈N,movedB a x.1=true):((N.map (newX a b)).map (·.1)).Nodup:=by
 have h':=List.pairwise_map.1 h;rw [List.map_map];refine List.pairwise_map.2 ?_;refine List.Pairwise.imp_of_mem ?_ h';intro x y hx hy hne e;exact hne (newP_inj ha (hm x hx) (hm y hy) e)
theorem MoveOk.keys {l:Nodes} {room:Nat} {a b:ByteArray} (M:MoveOk l room a b) {P R:Nodes} (h:(P++R).Perm (movL l a)):((P.map (newX a b)++(R++restL l a b)).map (·.1)).Nodup:=by
 have hn:((P++R).map (·.1)).Nodup:=(h.map _).nodup_iff.2 ((M.tree.sorted.filter _).nodup);have hin:∀ x,x∈P\/x∈R->x∈movL l a:=fun x hx=>h.mem_iff.1 (List.mem_append.2 hx);rw [List.map_append] at hn;obtain ⟨n1,n2,n3⟩:=List.nodup_append.1 hn;rw [List.map_append,List.nodup_append];refine ⟨keys_nodup_map M.ma n1 fun x hx=>(mem_mov.1 (hin x (.inl hx))).2,?_,?_⟩
 ·rw [List.map_append,List.nodup_append];refine ⟨n2,((M.tree.sorted.drop b).filter _).nodup,?_⟩;intro k hk j hj e;obtain ⟨x,hx,rfl⟩:=List.mem_map.1 hk;obtain ⟨y,hy,rfl⟩:=List.mem_map.1 hj;have h1:=(mem_mov.1 (hin x (.inr hx))).2;have h2:=(mem_rest.1 hy).2.2;rw [e,h2] at h1
  cases h1
 ·intro k hk j hj e;obtain ⟨x',hx',rfl⟩:=List.mem_map.1 hk;obtain ⟨x,hx,rfl⟩:=List.mem_map.1 hx';obtain ⟨y,hy,rfl⟩:=List.mem_map.1 hj;rcases List.mem_append.1 hy with hy | hy
  ·exact M.fresh (hin x (.inl hx)) (mem_mov.1 (hin y (.inr hy))).1 (mov_ne M (hin y (.inr hy))) e.symm
  ·exact M.fresh (hin x (.inl hx)) (mem_rest.1 hy).1 (mem_rest.1 hy).2.1 e.symm
theorem foldl_ins_perm:∀ (N B:Nodes),((N++B).map (·.1)).Nodup->(N.foldl (fun o x=>insS o x.1 x.2) B).Perm (N++B)
 | [],_,_=>List.Perm.refl _
 | x::N,B,h=>by
  have hx:∀ y∈B,y.1≠x.1:=fun y hy e=>by
   rw [List.cons_append,List.map_cons,List.nodup_cons] at h;exact h.1 (List.mem_map.2 ⟨y,List.mem_append.2 (.inr hy),e⟩)
  have hp:(N++insS B x.1 x.2).Perm (x::(N++B)):=((ins_perm hx).append_left N).trans List.perm_middle;refine (foldl_ins_perm N (insS B x.1 x.2) ?_).trans hp;exact ((hp.map (·.1)).nodup_iff).2 h
theorem foldl_ins_sorted:∀ (N B:Nodes),Sorted B->Sorted (N.foldl (fun o x=>insS o x.1 x.2) B)
 | [],_,h=>h
 | x::N,_,h=>foldl_ins_sorted N _ (h.ins x.1 x.2)
theorem MoveOk.perm {l:Nodes} {room:Nat} {a b:ByteArray} (M:MoveOk l room a b):(moveL l a b).Perm ((movL l a).map (newX a b)++restL l a b):=by
 refine foldl_ins_perm _ _ ?_;have:=M.keys (P:=movL l a) (R:=[]) (by simp)
 simpa using this
theorem MoveOk.sorted {l:Nodes} {room:Nat} {a b:ByteArray} (M:MoveOk l room a b):Sorted (moveL l a b):=foldl_ins_sorted _ _ ((M.tree.sorted.drop b).filter _)
theorem usedL_map (a b:ByteArray) (N:Nodes):usedL (N.map (newX a b))=usedL N:=by
 induction N with
 | nil=>rfl
 | cons x r ih=>show 64+x.2.data.size+usedL (r.map (newX a b))=_;rw [ih];rfl
theorem MoveOk.used {l:Nodes} {room:Nat} {a b:ByteArray} (M:MoveOk l room a b):usedL (moveL l a b)=usedL (dropA l b):=by
 rw [usedL_perm M.perm,usedL_append,usedL_map];have h:=List.filter_append_perm (fun x:ByteArray×Nd=>movedB a x.1) (dropA l b);rw [<-usedL_perm h,usedL_append]
 have:(dropA l b).filter (fun x=>movedB a x.1)=movL l a:=by
  unfold dropA movL;rw [List.filter_filter];refine List.filter_congr fun x hx=>?_
  cases hm:movedB a x.1 with
  | false=>rfl
  | true =>
   have:x.1≠b:=fun e=>by rw [e,M.notb] at hm;cases hm
   simpa using this
 rw [this];rfl
theorem MoveOk.find_new {l:Nodes} {room:Nat} {a b:ByteArray} (M:MoveOk l room a b) {x:ByteArray×Nd} (hx:x∈movL l a):findA (moveL l a b) (newP a b x.1)=some x.2 :=
 findA_of_mem M.sorted.nodup (M.perm.mem_iff.2 (List.mem_append.2 (.inl (List.mem_map.2 ⟨x,hx,rfl⟩))))
theorem MoveOk.find_rest {l:Nodes} {room:Nat} {a b:ByteArray} (M:MoveOk l room a b) {x:ByteArray×Nd} (hx:x∈restL l a b):findA (moveL l a b) x.1=some x.2 :=
 findA_of_mem M.sorted.nodup (M.perm.mem_iff.2 (List.mem_append.2 (.inr hx)))
theorem kindAt_some {l:Nodes} {p:ByteArray} {o:Nd} (h:findA l p=some o) (hk:o.kind=2):kindAt l p=2:=by
 unfold kindAt;split
 ·rfl
 ·rw [h];exact hk
theorem kindAt_nil {l:Nodes} {p:ByteArray} (h:p.toList=[]):kindAt l p=2:=by unfold kindAt;rw [h];rfl
theorem MoveOk.stays {l:Nodes} {room:Nat} {a b q:ByteArray} (M:MoveOk l room a b) (h:kindAt l q=2) (hm:movedB a q=false):kindAt (moveL l a b) q=2:=by
 by_cases hq:q.toList=[]
 ·exact kindAt_nil hq
 ·obtain ⟨o,ho,hk⟩:=kindAt_two h (by cases e:q.toList with | nil=>exact absurd e hq | cons _ _=>rfl);have hb:q≠b:=fun e=>M.dirs o (e▸ho) hk;exact kindAt_some (M.find_rest (mem_rest.2 ⟨findA_mem ho,hb,hm⟩)) hk
theorem withinB_trans {p q d:ByteArray} (hp:mayB p=true) (hd:mayB d=true) (hq:mayB q=true) (h1:withinB p q=true) (h2:withinB q d=true):withinB p d=true:=by
 obtain ⟨r,hr⟩:=within_form hq h1;obtain ⟨t,ht⟩:=within_form hd h2;exact within_of_form hp hd (r:=t++47::r) (by rw [hr,ht];simp)
theorem parent_moved {a y:ByteArray} (ha:mayB a=true) (hy:mayB y=true) (hp:mayB (parentS y)=true) (h:movedB a (parentS y)=true):movedB a y=true:=by
 have hw:withinB y (parentS y)=true:=within_parent hy hp rfl;unfold movedB at h ⊢;simp only [Bool.or_eq_true,decide_eq_true_eq] at h ⊢;rcases h with h | h
 ·rw [h] at hw;exact .inr hw
 ·exact .inr (withinB_trans hy ha hp hw h)
theorem ne_empty {s:ByteArray} (h:s.toList≠[]):s.toList.isEmpty=false:=by cases e:s.toList with | nil=>exact absurd e h | cons _ _=>rfl
theorem MoveOk.parMay {l:Nodes} {room:Nat} {a b q:ByteArray} (M:MoveOk l room a b) (h:kindAt l q=2) (hm:movedB a q=true):mayB q=true:=by
 by_cases hn:q.toList=[]
 ·exfalso;obtain ⟨u,hu,_⟩:=moved_form M.ma hm;rw [hn] at hu;exact mayB_ne M.ma (List.append_eq_nil_iff.1 hu.symm).1
 ·obtain ⟨o,ho,_⟩:=kindAt_two h (ne_empty hn);exact M.tree.find_may ho
theorem MoveOk.homeIn {l:Nodes} {room:Nat} {a b:ByteArray} (M:MoveOk l room a b) {y:ByteArray×Nd} (h1:y∈l) {r:List UInt8} (ht:y.1.toList=a.toList++47::r):kindAt (moveL l a b) (parentS (newP a b y.1))=2:=by
 have hnf:=newP_form (b:=b) ht
 have hpne:(parentS y.1).toList≠[]:=by
  rcases parent_split ht with h | ⟨r',h,_⟩
  ·rw [h];exact mayB_ne M.ma
  ·rw [h];simp
 obtain ⟨o,ho,hk⟩:=kindAt_two (M.tree.home y h1) (ne_empty hpne);have hpm:=M.tree.find_may ho
 have hmv:movedB a (parentS y.1)=true:=by
  unfold movedB;simp only [Bool.or_eq_true,decide_eq_true_eq];rcases parent_split ht with h | ⟨r',h,_⟩
  ·exact .inl (ba_ext h)
  ·exact .inr (within_of_form hpm M.ma h)
 have he:parentS (newP a b y.1)=newP a b (parentS y.1):=by
  refine ba_ext ?_;rw [(split_toList (newP a b y.1)).1,hnf];have hyp:=(split_toList y.1).1;rw [ht] at hyp;rcases last_slash r with hr | ⟨c,e,hce,he⟩
  ·rw [aheadL_at _ r hr] at hyp ⊢;rw [newP_form (a:=a) (b:=b) (t:=[]) (by rw [hyp];simp)];simp
  ·rw [hce] at hyp ⊢;have e1:b.toList++47::(c++47::e)=(b.toList++47::c)++47::e:=by simp
   have e2:a.toList++47::(c++47::e)=(a.toList++47::c)++47::e:=by simp
   rw [e1,aheadL_at _ e he];rw [e2,aheadL_at _ e he] at hyp;rw [newP_form (a:=a) (b:=b) hyp]
 rw [he];exact kindAt_some (M.find_new (x:=(parentS y.1,o)) (mem_mov.2 ⟨findA_mem ho,hmv⟩)) hk
theorem MoveOk.ok {l:Nodes} {room:Nat} {a b:ByteArray} (M:MoveOk l room a b):TreeOk (moveL l a b) room:=by
 have cases:∀ x∈moveL l a b,(∃ y∈movL l a,x=newX a b y)\/x∈restL l a b:=fun x hx=>by
  rcases List.mem_append.1 (M.perm.mem_iff.1 hx) with h | h
  ·obtain ⟨y,hy,rfl⟩:=List.mem_map.1 h;exact .inl ⟨y,hy,rfl⟩
  ·exact .inr h
 refine ⟨M.sorted,fun x hx=>?_,fun x hx=>?_,fun x hx=>?_,?_,fun x hx=>?_⟩
 ·rcases cases x hx with ⟨y,hy,rfl⟩ | h
  ·exact M.newMay hy
  ·exact M.tree.may x (mem_rest.1 h).1
 ·rcases cases x hx with ⟨y,hy,rfl⟩ | h
  ·exact M.tree.kind y (mem_mov.1 hy).1
  ·exact M.tree.kind x (mem_rest.1 h).1
 ·rcases cases x hx with ⟨y,hy,rfl⟩ | h
  ·show kindAt (moveL l a b) (parentS (newP a b y.1))=2
   obtain ⟨h1,h2⟩:=mem_mov.1 hy;obtain ⟨t,ht,h3⟩:=moved_form M.ma h2;rcases h3 with ⟨e,_⟩ | ⟨r,rfl,hw⟩
   ·rw [e,newP_self];refine M.stays M.home ?_
    cases hm:movedB a (parentS b) with
    | false=>rfl
    | true =>
     have hpm:mayB (parentS b)=true:=M.parMay M.home hm;have:=parent_moved M.ma M.mb hpm hm;rw [M.notb] at this
     cases this
   ·exact M.homeIn h1 ht
  ·obtain ⟨h1,h2,h3⟩:=mem_rest.1 h;refine M.stays (M.tree.home x h1) ?_
   cases hm:movedB a (parentS x.1) with
   | false=>rfl
   | true =>
    have hpm:mayB (parentS x.1)=true:=M.parMay (M.tree.home x h1) hm;have:=parent_moved M.ma (M.tree.may x h1) hpm hm;rw [h3] at this
    cases this
 ·rw [M.used];have:=drop_used M.tree.sorted.nodup b;have:=M.tree.used;omega
 ·rcases cases x hx with ⟨y,hy,rfl⟩ | h
  ·exact M.tree.target y (mem_mov.1 hy).1
  ·exact M.tree.target x (mem_rest.1 h).1
end
section
inductive Eff where
 | write (p data:ByteArray) (time:Int)
 | add (p data:ByteArray)
 | mkdir (p:ByteArray)
 | link (p target:ByteArray) (time:Int)
 | rename (p q:ByteArray)
 | remove (p:ByteArray)
def emp:ByteArray:=⟨#[]⟩
def cutTo (most:Nat) (d:ByteArray):ByteArray:=d.extract 0 (min most d.size)
def putE (l:Nodes) (room:Nat) (p:ByteArray) (n:Nd):Int×Nodes:=if usedL (insS l p n)<=room then (0,insS l p n) else (7,l)
def layE (l:Nodes) (room:Nat) (p:ByteArray) (n:Nd):Int×Nodes :=
 if homeE l p=0 then (if (findA l p).isSome then (6,l) else putE l room p n) else (homeE l p,l)
def writeE (l:Nodes) (room:Nat) (p data:ByteArray) (t:Int):Int×Nodes :=
 if homeE l p=0 then (if fileE l p=0 then putE l room p ⟨1,data,emp,t⟩ else (fileE l p,l)) else (homeE l p,l)
def addE (l:Nodes) (room:Nat) (p data:ByteArray):Int×Nodes :=
 match findA l p with
 | none=>(5,l)
 | some n=>if fileE l p=0 then putE l room p ⟨n.kind,n.data++data,n.target,n.time⟩ else (fileE l p,l)
def removeE (l:Nodes) (p:ByteArray):Int×Nodes :=
 if (findA l p).isSome then (if l.any fun x=>withinB x.1 p then (22,l) else (0,dropA l p)) else (5,l)
def dirsB (l:Nodes) (a b:ByteArray):Bool:=match findA l b with | some o=>decide (o.kind=2)||decide (((findA l a).getD nd0).kind=2) | none=>false
def renameE (l:Nodes) (a b:ByteArray):Int×Nodes :=
 if (findA l a).isSome then
  (if homeE l b=0 then (if dirsB l a b then (12,l) else if l.all fun x=>!withinB x.1 a||mayB (newP a b x.1) then (0,moveL l a b) else (10,l)) else (homeE l b,l))
 else (5,l)
def effE (l:Nodes) (room most:Nat):Eff->Int×Nodes
 | .write p d t=>writeE l room p (cutTo most d) t
 | .add p d=>addE l room p (cutTo most d)
 | .mkdir p=>layE l room p ⟨2,emp,emp,0⟩
 | .link p g t=>layE l room p ⟨3,emp,g,t⟩
 | .rename p q=>renameE l p q
 | .remove p=>removeE l p
def Eff.paths:Eff->List ByteArray
 | .write p _ _=>[p]
 | .add p _=>[p]
 | .mkdir p=>[p]
 | .link p _ _=>[p]
 | .rename p q=>[p,q]
 | .remove p=>[p]
def clockB (t:Int):Bool:=decide (0<=t)&&decide (t<=4294967295)
def Eff.right:Eff->Bool
 | .write _ _ t=>clockB t
 | .add _ _=>true
 | .mkdir _=>true
 | .link _ g t=>clockB t&&decide (0<g.size)&&decide (g.size<=160)
 | .rename p q=>!decide (p=q)&&!Lib.hasPrefix q.toList (p.toList++[47])
 | .remove _=>true
structure EffOk (x:Eff):Prop where
 paths:∀ p∈x.paths,mayB p=true
 right:x.right=true
theorem putE_ok {l:Nodes} {room:Nat} (T:TreeOk l room) {p:ByteArray} {n:Nd} (hp:mayB p=true) (hh:kindAt l (parentS p)=2) (hk:n.kind=1\/n.kind=2\/n.kind=3) (ho:∀ o,findA l p=some o->o.kind≠2) (ht:n.target.size<=160) :
  TreeOk (putE l room p n).2 room:=by
 unfold putE;split
 ·exact T.put hp hh hk ho ‹_› ht
 ·exact T
theorem fileE_zero {l:Nodes} {p:ByteArray} (h:fileE l p=0):∀ o,findA l p=some o->o.kind≠2/\o.kind≠3:=by
 intro o ho;unfold fileE at h;rw [ho] at h;dsimp only at h;split at h
 ·cases h
 ·split at h
  ·cases h
  ·exact ⟨‹_›,‹_›⟩
theorem layE_ok {l:Nodes} {room:Nat} (T:TreeOk l room) {p:ByteArray} {n:Nd} (hp:mayB p=true) (hk:n.kind=1\/n.kind=2\/n.kind=3) (ht:n.target.size<=160):TreeOk (layE l room p n).2 room:=by
 unfold layE;split
 ·rename_i hh;split
  ·exact T
  ·rename_i hn;refine putE_ok T hp (homeE_zero hp hh) hk (fun o ho=>?_) ht;rw [ho] at hn;simp at hn
 ·exact T
theorem rename_ok {l:Nodes} {room:Nat} (T:TreeOk l room) {a b:ByteArray} (ha:mayB a=true) (hb:mayB b=true) (hr:(Eff.rename a b).right=true) (h1:(findA l a).isSome=true) (h2:homeE l b=0) (h3:dirsB l a b=false) (h4:(l.all fun x=>!withinB x.1 a||mayB (newP a b x.1))=true):MoveOk l room a b:=by
 simp only [Eff.right,Bool.and_eq_true,Bool.not_eq_true',decide_eq_false_iff_not] at hr;refine ⟨T,ha,hb,hr.1,?_,h1,homeE_zero hb h2,fun o ho hk=>?_,fun x hx hw=>?_⟩
 ·unfold withinB;rw [ha,hb,mayB_nonempty ha,hr.2];rfl
 ·unfold dirsB at h3;rw [ho] at h3;simp [hk] at h3
 ·have:=List.all_eq_true.1 h4 x hx;rw [hw] at this
  simpa using this
theorem effE_ok {l:Nodes} {room most:Nat} (T:TreeOk l room) {x:Eff} (h:EffOk x):TreeOk (effE l room most x).2 room:=by
 obtain ⟨hp,hr⟩:=h
 cases x with
 | write p d t =>
  have hm:=hp p (by simp [Eff.paths])
  show TreeOk (writeE l room p (cutTo most d) t).2 room
  unfold writeE;split
  ·split
   ·exact putE_ok T hm (homeE_zero hm ‹_›) (.inl rfl) (fun o ho=>(fileE_zero ‹_› o ho).1) (show emp.size<=160 by decide)
   ·exact T
  ·exact T
 | add p d =>
  have hm:=hp p (by simp [Eff.paths])
  show TreeOk (addE l room p (cutTo most d)).2 room
  unfold addE;split
  ·exact T
  ·rename_i n hn;split
   ·exact putE_ok T hm (T.home (p,n) (findA_mem hn)) (T.kind (p,n) (findA_mem hn)) (fun o ho=>(fileE_zero ‹_› o ho).1) (T.target (p,n) (findA_mem hn))
   ·exact T
 | mkdir p=>exact layE_ok T (hp p (by simp [Eff.paths])) (.inr (.inl rfl)) (show emp.size<=160 by decide)
 | link p g t =>
  refine layE_ok T (hp p (by simp [Eff.paths])) (.inr (.inr rfl)) ?_;simp only [Eff.right,Bool.and_eq_true,decide_eq_true_eq] at hr;exact hr.2
 | rename a b =>
  show TreeOk (renameE l a b).2 room
  unfold renameE;split
  ·split
   ·split
    ·exact T
    ·split
     ·exact (rename_ok T (hp a (by simp [Eff.paths])) (hp b (by simp [Eff.paths])) hr ‹_› ‹_› (by simpa using ‹¬ dirsB l a b=true›) ‹_›).ok
     ·exact T
   ·exact T
  ·exact T
 | remove p =>
  have hm:=hp p (by simp [Eff.paths])
  show TreeOk (removeE l p).2 room
  unfold removeE;split
  ·split
   ·exact T
   ·rename_i hn;refine T.drop hm fun x hx=>?_
    cases hw:withinB x.1 p with
    | false=>rfl
    | true=>exact absurd (List.any_eq_true.2 ⟨x,hx,hw⟩) hn
  ·exact T
theorem effE_fail {l:Nodes} {room most:Nat} {x:Eff} (h:(effE l room most x).1≠0):(effE l room most x).2=l:=by
 have hput:∀ p n,(putE l room p n).1≠0->(putE l room p n).2=l:=fun p n=>by unfold putE;split <;> simp
 have hlay:∀ p n,(layE l room p n).1≠0->(layE l room p n).2=l:=fun p n=>by
  unfold layE;split
  ·split
   ·simp
   ·exact hput p n
  ·simp
 cases x with
 | write p d t =>
  revert h
  show (writeE l room p (cutTo most d) t).1≠0->(writeE l room p (cutTo most d) t).2=l
  unfold writeE;split
  ·split
   ·exact hput _ _
   ·simp
  ·simp
 | add p d =>
  revert h
  show (addE l room p (cutTo most d)).1≠0->(addE l room p (cutTo most d)).2=l
  unfold addE;split
  ·simp
  ·split
   ·exact hput _ _
   ·simp
 | mkdir p=>exact hlay _ _ h
 | link p g t=>exact hlay _ _ h
 | rename a b =>
  revert h
  show (renameE l a b).1≠0->(renameE l a b).2=l
  unfold renameE;split
  ·split
   ·split
    ·simp
    ·split <;> simp
   ·simp
  ·simp
 | remove p =>
  revert h
  show (removeE l p).1≠0->(removeE l p).2=l
  unfold removeE;split
  ·split <;> simp
  ·simp
structure Dk where
 live:Nodes
 lasts:Nodes
 room:Nat
 log:List Eff
 fused:Bool
 left:Int
def Dk.made (room:Nat):Dk:=⟨[],[],room,[],false,0⟩
def Dk.off (d:Dk):Bool:=d.fused&&decide (d.left=0)
def full:Nat:=1048576
def Dk.act (d:Dk) (x:Eff):Int×Dk :=
 if d.off then (20,d) else if x.paths.all mayB then (if x.right then
  (if (effE d.live d.room full x).1=0 then (0,{ d with live:=(effE d.live d.room full x).2,log:=d.log++[x],left:=d.left - 1 }) else ((effE d.live d.room full x).1,d))
 else (2,d)) else (10,d)
def pickE (room:Nat) (l:Nodes) (x:Eff) (k:Nat):Nodes:=if k=0 then l else if k=1 then (effE l room full x).2 else (effE l room (k - 2) x).2
def crashL (room:Nat):Nodes->List Eff->List UInt8->Nodes
 | l,x::r,k::ks=>crashL room (pickE room l x k.toNat) r ks
 | l,_,_=>l
structure DkOk (d:Dk):Prop where
 live:TreeOk d.live d.room
 lasts:TreeOk d.lasts d.room
 log:∀ x∈d.log,EffOk x
 r1:1024<=d.room
 r2:d.room<=1048576
 left:d.fused=true->0<=d.left
 same:d.log=[]->d.lasts=d.live
theorem TreeOk.nil (room:Nat):TreeOk [] room:=⟨List.Pairwise.nil,fun _ h=>(by cases h),fun _ h=>(by cases h),fun _ h=>(by cases h),Nat.zero_le _,fun _ h=>(by cases h)⟩
theorem DkOk.made {room:Nat} (h1:1024<=room) (h2:room<=1048576):DkOk (Dk.made room):=⟨TreeOk.nil _,TreeOk.nil _,fun _ h=>(by cases h),h1,h2,fun h=>(by cases h),fun _=>rfl⟩
theorem DkOk.act {d:Dk} (D:DkOk d) (x:Eff):DkOk (d.act x).2:=by
 unfold Dk.act;split
 ·exact D
 ·rename_i hoff;split
  ·rename_i hp;split
   ·rename_i hr;split
    ·have hx:EffOk x:=⟨fun p hp'=>List.all_eq_true.1 hp p hp',hr⟩;refine ⟨effE_ok D.live hx,D.lasts,fun y hy=>?_,D.r1,D.r2,fun hf=>?_,fun h=>by simp at h⟩
     ·rcases List.mem_append.1 hy with hy | hy
      ·exact D.log y hy
      ·simp at hy;subst hy;exact hx
     ·have:=D.left hf;unfold Dk.off at hoff;rw [show d.fused=true from hf] at hoff;simp at hoff
      show 0<=d.left - 1
      omega
    ·exact D
   ·exact D
  ·exact D
theorem crashL_step {room:Nat}:∀ (k:Nat) (log:List Eff) (picks:List UInt8) (l:Nodes) (x:Eff) (u:UInt8),log[k]?=some x->picks[k]?=some u->crashL room l (log.take (k+1)) (picks.take (k+1))=pickE room (crashL room l (log.take k) (picks.take k)) x u.toNat
 | 0,y::r,v::vs,l,x,u,h1,h2=>by
  cases h1;cases h2
  simp [crashL]
 | k+1,y::r,v::vs,l,x,u,h1,h2=>by
  have:=crashL_step (room:=room) k r vs (pickE room l y v.toNat) x u (by simpa using h1) (by simpa using h2);simp only [List.take_succ_cons,crashL];exact this
 | _,[],_,_,_,_,h1,_=>by simp at h1
 | _,_::_,[],_,_,_,_,h2=>by simp at h2
end
section
structure TreeAt (w:World) (t m:Nat) (l:Nodes) (room:Nat):Prop where
 blk:w.heap[t]?=some (.cells #[.map (some m),.int .i64 (usedL l:Nat),.int .i64 (room:Nat)] 174 (0,0))
 map:MapL w m l
theorem TreeAt.kept {w w':World} {t m:Nat} {l:Nodes} {room:Nat} (T:TreeAt w t m l room) (h1:w'.heap[t]?=w.heap[t]?) (h2:w'.heap[m]?=w.heap[m]?):TreeAt w' t m l room:=⟨h1.trans T.blk,T.map.kept h2⟩
theorem TreeAt.ext {w w':World} {t m:Nat} {l:Nodes} {room:Nat} (T:TreeAt w t m l room) (x:Ext w w'):TreeAt w' t m l room:=T.kept (x.block (ltB T.blk)) (x.block T.map.lt)
theorem TreeAt.ne {w:World} {t m:Nat} {l:Nodes} {room:Nat} (T:TreeAt w t m l room):t≠m:=by
 intro e;obtain ⟨D,⟨es,clock,h,_⟩,_⟩:=T.map.own;have:=T.blk;rw [e,h] at this
 cases this
theorem lt_of_tree {w:World} {t m:Nat} {l:Nodes} {room:Nat} (T:TreeAt w t m l room):t<w.heap.size/\m<w.heap.size:=⟨ltB T.blk,T.map.lt⟩
theorem dsize_any (k t:Int) (d g:ByteArray) (w:World) (hd:d.size<=68719476736) :
  Calls prog 256 #[.agg #[.int .i64 k,.string d,.string g,.int .i64 t]] w fun e w'=>e=.returned (.int .i64 (64+d.size:Nat))/\Ext w w':=by
 go_enter func256,ntmps256;go_wp2_with fail;go_ret;exact ⟨ret_int (by omega),(Ext.refl w).alloc _⟩
set_option maxHeartbeats 800000 in
theorem ddir_any (t m:Nat) (l:Nodes) (room:Nat) (p:ByteArray) (w:World) (T:TreeAt w t m l room) (hp:p.size<=maxLen) (hk:∀ n,findA l p=some n->n.kind≠0) :
  Calls prog 177 #[.pointer (some ⟨t,0,none⟩),.string p] w fun e w'=>e=.returned (.int .i64 (dirE l p))/\Ext w w':=by
 have c0:w.cell? ⟨t,0,none⟩=some (.map (some m)):=cellB T.blk;have L:=T.map.look_ok p hp;have HE:=lh (show dirE l p=if kindAt l p=0 then 5 else if kindAt l p=2 then 0 else 12 from rfl);unfold kindAt at HE;clear T
 cases he:p.toList.isEmpty with
 | true =>
  have HR:=lh (show dirE l p=0 from by rw [HE.out,he];rfl);have e1:p.toList=[]:=empty_of.1 he;clear HE he hk L;generalize dirE l p=E at *;go_enter func177,ntmps177;go_wp2_with fail;go_ret;exact ⟨ret_int HR.out.symm,Ext.refl w⟩
 | false =>
  cases hf:findA l p with
  | none =>
   have HR:=lh (show dirE l p=5 from by rw [HE.out,he,hf];rfl);rw [hf] at L;have L2:(Instr.lookup 172 (.map (some m)) (.string p) true).run prog w=.ok (.tuple #[.agg #[.int .i64 0,.string ⟨#[]⟩,.string ⟨#[]⟩,.int .i64 0],.bool false]) w:=L;clear HE hk L hf;generalize dirE l p=E at *;go_enter func177,ntmps177;go_wp2_with fail;go_ret;exact ⟨ret_int HR.out.symm,(Ext.refl w).alloc _⟩
  | some n =>
   have hk0:=hk n hf;rw [hf] at L;obtain ⟨k,d,g,tm⟩:=n;have L2:(Instr.lookup 172 (.map (some m)) (.string p) true).run prog w=.ok (.tuple #[.agg #[.int .i64 k,.string d,.string g,.int .i64 tm],.bool true]) w:=L
   have HR:=lh (show dirE l p=if k=2 then 0 else 12 from by
    rw [HE.out,he,hf]
    show (if k=0 then (5:Int) else if k=2 then 0 else 12)=_
    rw [if_neg hk0])
   clear HE hk L hf hk0;generalize dirE l p=E at *;by_cases h2:k=2
   ·subst h2;go_enter func177,ntmps177;go_wp2_with fail;go_ret;exact ⟨ret_int HR.out.symm,(Ext.refl w).alloc _⟩
   ·have h3:(k==2)=false:=by simpa using h2
    have h4:(k != 2)=true:=by simpa using h2
    have HR2:=lh (HR.out.trans (if_neg h2));clear h2 HR;go_enter func177,ntmps177;go_wp2_with fail;go_ret;exact ⟨ret_int HR2.out.symm,(Ext.refl w).alloc _⟩
theorem parentR_le (p:ByteArray):(parentR p).size<=p.size:=by
 unfold parentR;split
 ·exact parentS_le p
 ·exact Nat.zero_le _
set_option maxHeartbeats 800000 in
theorem dhome_any (t m:Nat) (l:Nodes) (room:Nat) (p:ByteArray) (w:World) (E:Env w) (T:TreeAt w t m l room) (hp:p.size<4294967281) (hk:∀ q n,findA l q=some n->n.kind≠0) :
  Calls prog 189 #[.pointer (some ⟨t,0,none⟩),.string p] w fun e w'=>e=.returned (.int .i64 (homeE l p))/\Ext w w':=by
 have P:=lh (parent_any p w hp E);have hle:=parentR_le p;have D:=fun w (T:TreeAt w t m l room)=>lh (ddir_any t m l room (parentR p) w T (by unfold maxLen;omega) (hk _));have HE:=lh (show homeE l p=dirE l (parentR p) from rfl);have HT:=lh T;clear T hk hle E;generalize parentR p=q at *;generalize dirE l q=R at *;generalize homeE l p=R' at *;go_enter func189,ntmps189;go_wp2_with fail;refine (P.out).mono ?_;rintro e w1 ⟨rfl,x1⟩;go_wp2_with fail;refine ((D _ (HT.out.ext x1)).out).mono ?_;rintro e w2 ⟨rfl,x2⟩;go_wp2_with fail;go_ret;exact ⟨ret_int HE.out.symm,x1.trans x2⟩
set_option maxRecDepth 100000 in
set_option maxHeartbeats 800000 in
theorem dfile_any (t m:Nat) (l:Nodes) (room:Nat) (p:ByteArray) (w:World) (T:TreeAt w t m l room) (hp:p.size<=maxLen) :
  Calls prog 190 #[.pointer (some ⟨t,0,none⟩),.string p] w fun e w'=>e=.returned (.int .i64 (fileE l p))/\Ext w w':=by
 have c0:w.cell? ⟨t,0,none⟩=some (.map (some m)):=cellB T.blk;have L:=T.map.look p hp;have HE:=lh (show fileE l p=match findA l p with | some n=>if n.kind=2 then 12 else if n.kind=3 then 11 else 0 | none=>0 from rfl);clear T
 cases hf:findA l p with
 | none =>
  have HR:=lh (show fileE l p=0 from by rw [HE.out,hf]);rw [hf] at L;have L2:(Instr.lookup 172 (.map (some m)) (.string p) false).run prog w=.ok (.agg #[.int .i64 0,.string ⟨#[]⟩,.string ⟨#[]⟩,.int .i64 0]) w:=L;have F0:∀ w:World,(Instr.field 84 (.agg #[.int .i64 0,.string ⟨#[]⟩,.string ⟨#[]⟩,.int .i64 0]) 0).run prog w=.ok (.int .i64 0) w:=fun _=>by kernel_rfl
  clear HE L hf;generalize fileE l p=E at *;go_enter func190,ntmps190;go_wp2_with fail;go_ret;exact ⟨ret_int HR.out.symm,Ext.refl w⟩
 | some n =>
  obtain ⟨k,d,g,tm⟩:=n;have HR:=lh (show fileE l p=if k=2 then 12 else if k=3 then 11 else 0 from by rw [HE.out,hf]);rw [hf] at L;have L2:(Instr.lookup 172 (.map (some m)) (.string p) false).run prog w=.ok (.agg #[.int .i64 k,.string d,.string g,.int .i64 tm]) w:=L;have F0:∀ w:World,(Instr.field 84 (.agg #[.int .i64 k,.string d,.string g,.int .i64 tm]) 0).run prog w=.ok (.int .i64 k) w:=fun _=>by kernel_rfl
  clear HE L hf;generalize fileE l p=E at *;by_cases h2:k=2
  ·subst h2;go_enter func190,ntmps190;go_wp2_with fail;go_ret;exact ⟨ret_int HR.out.symm,Ext.refl w⟩
  ·by_cases h3:k=3
   ·subst h3;go_enter func190,ntmps190;go_wp2_with fail;go_ret;exact ⟨ret_int HR.out.symm,Ext.refl w⟩
   ·have e2:(k==2)=false:=by simpa using h2
    have e3:(k==3)=false:=by simpa using h3
    have HR2:=lh ((HR.out.trans (if_neg h2)).trans (if_neg h3));clear h2 h3 HR;go_enter func190,ntmps190;go_wp2_with fail;go_ret;exact ⟨ret_int HR2.out.symm,Ext.refl w⟩
end
section
theorem TreeAt.stored {w w1 w':World} {t m:Nat} {l:Nodes} {room:Nat} (T:TreeAt w t m l room) (hs:Sorted l) {p:ByteArray} {n:Nd} (h1:MapL w1 m ((p,n)::dropA l p)) (hb:w1.heap[t]?=w.heap[t]?)
  (hw:w'=w1.setCell ⟨t,1,none⟩ (.int .i64 (usedL (insS l p n):Nat))):TreeAt w' t m (insS l p n) room:=by
 subst hw;have hne:=T.ne;refine ⟨?_,?_⟩
 ·rw [setCellB (hb.trans T.blk)];rfl
 ·exact (h1.perm (ins_drop l p n hs).symm).kept (setCellO (Ne.symm hne))
theorem held4 {w:World} {t b m:Nat} {x y k d g tm:Value} {T U:TypeId} (h1:w.heap[t]?=some (.cells #[.map (some m),x,y] T (0,0))) (h2:w.heap[b]?=some (.cells #[k,d,g,tm] U (0,0))) :
  w.cell? ⟨t,0,none⟩=some (.map (some m))/\w.cell? ⟨b,0,none⟩=some k/\w.cell? ⟨b,1,none⟩=some d/\w.cell? ⟨b,2,none⟩=some g/\w.cell? ⟨b,3,none⟩=some tm:=⟨cellB h1,cellB h2,cellB h2,cellB h2,cellB h2⟩
theorem put_end {w w3 w5 w6:World} {t m:Nat} {l:Nodes} {room:Nat} {p:ByteArray} {n:Nd} {R:Int×Nodes} {u:Int} (T3:TreeAt w3 t m l room) (X3:Ext w w3) (hs:Sorted l) (hm6:MapL w6 m ((p,n)::dropA l p)) (e6:w6.heap[t]?=w3.heap[t]?) (hg5:w3.drew.grownBy w5 (some m)) (hg6:w5.grownBy w6 (some m))
  (hu:u=(usedL (insS l p n):Nat)) (hfit:usedL (insS l p n)<=room) (hR:R=if usedL (insS l p n)<=room then (0,insS l p n) else (7,l)) :
  Ending.returned (.int .i64 0)=.returned (.int .i64 R.1)/\TreeAt (w6.setCell ⟨t,1,none⟩ (.int .i64 u)) t m R.2 room/\Chg [t,m] w (w6.setCell ⟨t,1,none⟩ (.int .i64 u)):=by
 rw [if_pos hfit] at hR;subst hR;subst hu;refine ⟨rfl,T3.stored hs hm6 e6 rfl,?_⟩;have c5:Chg [t,m] w w5:=((X3.drew).chg [t,m]).trans (Chg.grown (F:=[t,m]) hg5 (by simp)) (fun x hx=>.inl hx);have c6:Chg [t,m] w w6:=c5.trans (Chg.grown (F:=[t,m]) hg6 (by simp)) (fun x hx=>.inl hx);exact c6.trans (Chg.setCell (F:=[t,m]) w6 ⟨t,1,none⟩ _ (by simp)) (fun x hx=>.inl hx)
theorem put_full {w w3:World} {t m:Nat} {l:Nodes} {room:Nat} {p:ByteArray} {n:Nd} {R:Int×Nodes} (T3:TreeAt w3 t m l room) (X3:Ext w w3) (hfit:¬ usedL (insS l p n)<=room) (hR:R=if usedL (insS l p n)<=room then (0,insS l p n) else (7,l)) :
  Ending.returned (.int .i64 7)=.returned (.int .i64 R.1)/\TreeAt w3 t m R.2 room/\Chg [t,m] w w3:=by
 rw [if_neg hfit] at hR;subst hR;exact ⟨rfl,T3,X3.chg _⟩
set_option maxRecDepth 100000 in
set_option maxHeartbeats 4000000 in
theorem dput_any (t m:Nat) (l:Nodes) (room:Nat) (p:ByteArray) (k tm:Int) (d g:ByteArray) (w:World) (T:TreeAt w t m l room) (hs:Sorted l) (hp:p.size<=maxLen) (hl:usedL l<=1048576) (hd:d.size<=1073741824) (hr:room<=1048576) :
  Calls prog 191 #[.pointer (some ⟨t,0,none⟩),.string p,.agg #[.int .i64 k,.string d,.string g,.int .i64 tm]] w
   fun e w'=>e=.returned (.int .i64 (putE l room p ⟨k,d,g,tm⟩).1)/\TreeAt w' t m (putE l room p ⟨k,d,g,tm⟩).2 room/\Chg [t,m] w w':=by
 have hlen:=len_used l;have hU:=ins_used hs p ⟨k,d,g,tm⟩;have S1:=fun w=>lh (dsize_any k tm d g w (by omega));have HE:=lh (show putE l room p ⟨k,d,g,tm⟩=if usedL (insS l p ⟨k,d,g,tm⟩)<=room then (0,insS l p ⟨k,d,g,tm⟩) else (7,l) from rfl);have hold:=fun (o:Nd) (h:findA l p=some o)=>mem_used (findA_mem h);generalize putE l room p ⟨k,d,g,tm⟩=R at *;obtain ⟨W1,hW1⟩:∃ W1,W1=w.alloc (.cells #[.int .i64 k,.string d,.string g,.int .i64 tm] 84):=⟨_,rfl⟩;have X1:Ext w W1:=hW1▸(Ext.refl w).alloc _;have hbw:W1.heap[w.heap.size]?=some (.cells #[.int .i64 k,.string d,.string g,.int .i64 tm] 84 (0,0)):=by rw [hW1];exact block_alloc_new _ _
 have B1:=(T.ext X1).blk;have HT:=lh T;have htn:=(lt_of_tree T).1;have hmn:=(lt_of_tree T).2;have htm:=T.ne;have ct1:=After.at (k:=1) B1;have cb0:=After.at (k:=0) hbw;have cb1:=After.at (k:=1) hbw;have cb2:=After.at (k:=2) hbw;have cb3:=After.at (k:=3) hbw;clear B1 X1;subst hW1;have hB0:64+d.size<=1073741888:=by omega
 have hlen2:l.length<1048576:=by omega
 generalize hB:64+d.size=B at *;generalize hA:usedL l=A at *;have HH:=lh hU;have HA:=lh hA;clear hU hB hA hlen;have hsum:IntKind.i64.wrap ((A:Int)+(B:Int))=(A:Int)+(B:Int):=IntWalk.i64_in _ (by omega);go_enter func191,ntmps191;go_wp2_with fail;refine wp_region_after (by kernel_rfl) (by kernel_rfl) ?_
 repeat (go_big_quiet_step ((go_at_call 256;exact After.of (S1 _).out)))
 refine wpQuiet_nil ?_;rintro W2 ⟨⟨_,x2⟩,rfl⟩;clear hsum ct1 cb0 cb1 cb2 cb3 S1;have hlt0:w.heap.size<W2.heap.size:=Nat.lt_of_lt_of_le (by simp) x2.size;have hb2:=(x2.block (ltB hbw)).trans hbw;have X2:Ext w W2:=((Ext.refl w).alloc _).trans x2;have T2:=HT.out.ext X2;have L:=T2.map.look_ok p hp;have c0:W2.cell? ⟨t,0,none⟩=some (.map (some m)):=cellB T2.blk;have HB2:=lh hb2;have HX2:=lh X2;have HT2:=lh T2;clear x2 X2 T2 hb2 hbw
 cases hf:findA l p with
 | none =>
  rw [hf] at L;have L2:(Instr.lookup 172 (.map (some m)) (.string p) true).run prog W2=.ok (.tuple #[.agg #[.int .i64 0,.string ⟨#[]⟩,.string ⟨#[]⟩,.int .i64 0],.bool false]) W2:=L;clear L;have HU:=lh (show usedL (insS l p ⟨k,d,g,tm⟩)=A+B from by have:=HH.out;unfold oldU at this;rw [hf] at this;simpa using this);obtain ⟨W3,hW3⟩:∃ W3,W3=W2.alloc (.cells #[.int .i64 0,.string ⟨#[]⟩,.string ⟨#[]⟩,.int .i64 0] 84 (0,0)):=⟨_,rfl⟩;have x3:Ext W2 W3:=hW3▸(Ext.refl W2).alloc _;have HX3:=lh (HX2.out.trans x3);have HT3:=lh (HT2.out.ext x3);have HB3:=lh ((x3.block hlt0).trans HB2.out);have hlt3:w.heap.size<W3.heap.size:=Nat.lt_of_lt_of_le hlt0 x3.size;have c2:W2.cell? ⟨t,2,none⟩=some (.int .i64 (room:Nat)):=cellB HT2.out.blk;have t2:=(lt_of_tree HT2.out).1;clear HX2 HT2 HB2 HH x3 hold hf;by_cases hfit:A+B<=room
  ·obtain ⟨v0,st,w5,hr5,hg5,hs5,hall⟩:=(HT3.out.ext ((Ext.refl W3).drew)).map.entry hlen2 p hp ⟨k,d,g,tm⟩;obtain ⟨w6,hr6,hm6,hg6,hs6⟩:=hall w5 rfl;have hr5':(Instr.mapEntry 172 (.map (some m)) (.string p)).run prog W3.drew=.ok (.tuple #[v0,.int .i64 st]) w5:=hr5;have hr6':(Instr.entryStore 172 (.map (some m)) (.int .i64 st) (.agg #[.int .i64 k,.string d,.string g,.int .i64 tm])).run prog w5=.ok () w6:=hr6;have e5:∀ b,b<W3.heap.size->b≠m->w5.heap[b]?=W3.heap[b]?:=fun b hb hne=>hg5.block b hb (fun e=>hne (Option.some.inj e));have e6:∀ b,b<W3.heap.size->b≠m->w6.heap[b]?=W3.heap[b]?:=fun b hb hne=>(hg6.block b (by rw [hs5];exact hb) (fun e=>hne (Option.some.inj e))).trans (e5 b hb hne);have hbm:w.heap.size≠m:=by omega
   have hbt:w.heap.size≠t:=by omega
   have t3:t<W3.heap.size:=by omega
   have s3:=held4 HT3.out.blk HB3.out;have s4:W3.drew.cell? ⟨t,0,none⟩=some (.map (some m))/\W3.drew.cell? ⟨w.heap.size,0,none⟩=some (.int .i64 k)/\W3.drew.cell? ⟨w.heap.size,1,none⟩=some (.string d)/\W3.drew.cell? ⟨w.heap.size,2,none⟩=some (.string g)/\W3.drew.cell? ⟨w.heap.size,3,none⟩=some (.int .i64 tm):=s3;have s5:=held4 ((e5 t t3 htm).trans HT3.out.blk) ((e5 _ hlt3 hbm).trans HB3.out);have s6:=held4 ((e6 t t3 htm).trans HT3.out.blk) ((e6 _ hlt3 hbm).trans HB3.out);have q7:(w6.setCell ⟨t,1,none⟩ (.int .i64 ((A:Int)+(B:Int)))).heap[t]?=some (.cells #[.map (some m),.int .i64 ((A:Int)+(B:Int)),.int .i64 (room:Nat)] 174 (0,0)):=setCellB ((e6 t t3 htm).trans HT3.out.blk);have s7:=held4 q7 ((setCellO hbt).trans ((e6 _ hlt3 hbm).trans HB3.out));have c6:w6.cell? ⟨t,1,none⟩=some (.int .i64 A):=by rw [<-HA.out];exact cellB ((e6 t t3 htm).trans HT3.out.blk)
   have f6:w6.frozen? ⟨t,1,none⟩=false:=frozenB ((e6 t t3 htm).trans HT3.out.blk);have HH4:=lh (And.intro hm6 (And.intro (e6 t t3 htm) (And.intro hg5 hg6)));clear hm6 e6 hg5 hg6 hr6 hr5 hall hs5 hs6 e5 hbm hbt q7 t3;go_wp2_with fail;rw [<-hW3];clear hW3;go_region_held (fun w'=>w'.cell? ⟨t,0,none⟩=some (.map (some m))/\w'.cell? ⟨w.heap.size,0,none⟩=some (.int .i64 k)/\w'.cell? ⟨w.heap.size,1,none⟩=some (.string d)/\w'.cell? ⟨w.heap.size,2,none⟩=some (.string g)/\w'.cell? ⟨w.heap.size,3,none⟩=some (.int .i64 tm)) (first | assumption | go_keep) (fail);go_wp2_with fail;go_ret;exact put_end HT3.out HX3.out hs HH4.out.1 HH4.out.2.1 HH4.out.2.2.1 HH4.out.2.2.2 (by have:=HU.out;omega) (by have:=HU.out;omega) HE.out
  ·have hno:(room:Int)<(A:Int)+(B:Int):=by omega
   go_wp2_with fail;rw [<-hW3];clear hW3;go_ret;exact put_full HT3.out HX3.out (by have:=HU.out;omega) HE.out
 | some o =>
  rw [hf] at L;have ho:=hold o hf;have HU:=lh (show usedL (insS l p ⟨k,d,g,tm⟩)+(64+o.data.size)=A+B from by have:=HH.out;unfold oldU at this;rw [hf] at this;simpa using this);have ha:64+o.data.size<=A:=by have:=HA.out;omega
  obtain ⟨k1,d1,g1,tm1⟩:=o;have L2:(Instr.lookup 172 (.map (some m)) (.string p) true).run prog W2=.ok (.tuple #[.agg #[.int .i64 k1,.string d1,.string g1,.int .i64 tm1],.bool true]) W2:=L;have S2:=fun w=>lh (dsize_any k1 tm1 d1 g1 w (by simp at ha;omega));have HU:=lh (show usedL (insS l p ⟨k,d,g,tm⟩)+(64+d1.size)=A+B from HU.out);have ha:64+d1.size<=A:=ha;generalize 64+d1.size=C at *;clear L hf hold HH ho;go_wp2_with fail;refine (S2 _).out.mono ?_;rintro e W3 ⟨rfl,x3'⟩;have x3:Ext W2 W3:=((Ext.refl W2).alloc _).trans x3';have HX3:=lh (HX2.out.trans x3);have HT3:=lh (HT2.out.ext x3);have HB3:=lh ((x3.block hlt0).trans HB2.out);have hlt3:w.heap.size<W3.heap.size:=Nat.lt_of_lt_of_le hlt0 x3.size;have c2:W3.cell? ⟨t,2,none⟩=some (.int .i64 (room:Nat)):=cellB HT3.out.blk;clear HX2 HT2 HB2 x3 x3' S2;by_cases hfit:A+B - C<=room
  ·obtain ⟨v0,st,w5,hr5,hg5,hs5,hall⟩:=(HT3.out.ext ((Ext.refl W3).drew)).map.entry hlen2 p hp ⟨k,d,g,tm⟩;obtain ⟨w6,hr6,hm6,hg6,hs6⟩:=hall w5 rfl;have hr5':(Instr.mapEntry 172 (.map (some m)) (.string p)).run prog W3.drew=.ok (.tuple #[v0,.int .i64 st]) w5:=hr5;have hr6':(Instr.entryStore 172 (.map (some m)) (.int .i64 st) (.agg #[.int .i64 k,.string d,.string g,.int .i64 tm])).run prog w5=.ok () w6:=hr6;have e5:∀ b,b<W3.heap.size->b≠m->w5.heap[b]?=W3.heap[b]?:=fun b hb hne=>hg5.block b hb (fun e=>hne (Option.some.inj e));have e6:∀ b,b<W3.heap.size->b≠m->w6.heap[b]?=W3.heap[b]?:=fun b hb hne=>(hg6.block b (by rw [hs5];exact hb) (fun e=>hne (Option.some.inj e))).trans (e5 b hb hne);have hbm:w.heap.size≠m:=by omega
   have hbt:w.heap.size≠t:=by omega
   have t3:t<W3.heap.size:=by omega
   have s3:=held4 HT3.out.blk HB3.out;have s4:W3.drew.cell? ⟨t,0,none⟩=some (.map (some m))/\W3.drew.cell? ⟨w.heap.size,0,none⟩=some (.int .i64 k)/\W3.drew.cell? ⟨w.heap.size,1,none⟩=some (.string d)/\W3.drew.cell? ⟨w.heap.size,2,none⟩=some (.string g)/\W3.drew.cell? ⟨w.heap.size,3,none⟩=some (.int .i64 tm):=s3;have s5:=held4 ((e5 t t3 htm).trans HT3.out.blk) ((e5 _ hlt3 hbm).trans HB3.out);have s6:=held4 ((e6 t t3 htm).trans HT3.out.blk) ((e6 _ hlt3 hbm).trans HB3.out);have q7:(w6.setCell ⟨t,1,none⟩ (.int .i64 ((A:Int)+(B:Int) - (C:Int)))).heap[t]?=some (.cells #[.map (some m),.int .i64 ((A:Int)+(B:Int) - (C:Int)),.int .i64 (room:Nat)] 174 (0,0)):=setCellB ((e6 t t3 htm).trans HT3.out.blk);have s7:=held4 q7 ((setCellO hbt).trans ((e6 _ hlt3 hbm).trans HB3.out));have c6:w6.cell? ⟨t,1,none⟩=some (.int .i64 A):=by rw [<-HA.out];exact cellB ((e6 t t3 htm).trans HT3.out.blk)
   have f6:w6.frozen? ⟨t,1,none⟩=false:=frozenB ((e6 t t3 htm).trans HT3.out.blk);have HH4:=lh (And.intro hm6 (And.intro (e6 t t3 htm) (And.intro hg5 hg6)));clear hm6 e6 hg5 hg6 hr6 hr5 hall hs5 hs6 e5 hbm hbt q7 t3;go_wp2_with fail;go_region_held (fun w'=>w'.cell? ⟨t,0,none⟩=some (.map (some m))/\w'.cell? ⟨w.heap.size,0,none⟩=some (.int .i64 k)/\w'.cell? ⟨w.heap.size,1,none⟩=some (.string d)/\w'.cell? ⟨w.heap.size,2,none⟩=some (.string g)/\w'.cell? ⟨w.heap.size,3,none⟩=some (.int .i64 tm)) (first | assumption | go_keep) (fail);go_wp2_with fail;go_ret;exact put_end HT3.out HX3.out hs HH4.out.1 HH4.out.2.1 HH4.out.2.2.1 HH4.out.2.2.2 (by have:=HU.out;omega) (by have:=HU.out;omega) HE.out
  ·have hno:(room:Int)<(A:Int)+(B:Int) - (C:Int):=by omega
   go_wp2_with fail;go_ret;exact put_full HT3.out HX3.out (by have:=HU.out;omega) HE.out
end
section
theorem drop_end {w w4 w6:World} {t m:Nat} {l:Nodes} {room:Nat} {p:ByteArray} {u:Int} (T4:TreeAt w4 t m l room) (X4:Ext w w4) (hm6:MapL w6 m (dropA l p)) (hg6:(w4.setCell ⟨t,1,none⟩ (.int .i64 u)).mapTurned w6 m) (hu:u=(usedL (dropA l p):Nat)) :
  TreeAt w6 t m (dropA l p) room/\Chg [t,m] w w6:=by
 subst hu;have hg:=hg6.grown;have h4:(w4.setCell ⟨t,1,none⟩ (.int .i64 (usedL (dropA l p):Nat))).heap[t]?=some (.cells #[.map (some m),.int .i64 (usedL (dropA l p):Nat),.int .i64 (room:Nat)] 174 (0,0)):=setCellB T4.blk;refine ⟨⟨?_,hm6⟩,?_⟩
 ·rw [hg.block t (ltB h4) (fun e=>T4.ne (Option.some.inj e))];exact h4
 ·have c5:Chg [t,m] w (w4.setCell ⟨t,1,none⟩ (.int .i64 (usedL (dropA l p):Nat))):=(X4.chg [t,m]).trans (Chg.setCell (F:=[t,m]) w4 ⟨t,1,none⟩ _ (by simp)) (fun x hx=>.inl hx);exact c5.trans (Chg.grown (F:=[t,m]) hg (by simp)) (fun x hx=>.inl hx)
set_option maxRecDepth 100000 in
set_option maxHeartbeats 2000000 in
theorem ddrop_any (t m:Nat) (l:Nodes) (room:Nat) (p:ByteArray) (w:World) (T:TreeAt w t m l room) (hs:Sorted l) (hp:p.size<=maxLen) (hl:usedL l<=1048576) :
  Calls prog 255 #[.pointer (some ⟨t,0,none⟩),.string p] w
   fun e w'=>e=.returned (.tuple #[])/\TreeAt w' t m (dropA l p) room/\Chg [t,m] w w':=by
 have hU:=drop_used hs.nodup p;have c0:w.cell? ⟨t,0,none⟩=some (.map (some m)):=cellB T.blk;have L:=T.map.look_ok p hp;have HT:=lh T;have htn:=(lt_of_tree T).1;have htm:=T.ne
 cases hf:findA l p with
 | none =>
  rw [hf] at L;have L2:(Instr.lookup 172 (.map (some m)) (.string p) true).run prog w=.ok (.tuple #[.agg #[.int .i64 0,.string ⟨#[]⟩,.string ⟨#[]⟩,.int .i64 0],.bool false]) w:=L;have HD:=lh (usedL_drop_none hf);clear L hU hf T hl;go_enter func255,ntmps255;go_wp2_with fail;go_end0;rw [HD.out];have x:Ext w (w.alloc (.cells #[.int .i64 0,.string ⟨#[]⟩,.string ⟨#[]⟩,.int .i64 0] 84)):=(Ext.refl w).alloc _;exact ⟨rfl,HT.out.ext x,x.chg _⟩
 | some o =>
  rw [hf] at L;have ho:=mem_used (findA_mem hf);have HU:=lh (show usedL (dropA l p)+(64+o.data.size)=usedL l from by unfold oldU at hU;rw [hf] at hU;exact hU);obtain ⟨k1,d1,g1,tm1⟩:=o;have L2:(Instr.lookup 172 (.map (some m)) (.string p) true).run prog w=.ok (.tuple #[.agg #[.int .i64 k1,.string d1,.string g1,.int .i64 tm1],.bool true]) w:=L;have S2:=fun w=>lh (dsize_any k1 tm1 d1 g1 w (by simp at ho;omega));have HU:=lh (show usedL (dropA l p)+(64+d1.size)=usedL l from HU.out);have ho:64+d1.size<=usedL l:=ho;obtain ⟨W1,hW1⟩:∃ W1,W1=w.alloc (.cells #[.int .i64 k1,.string d1,.string g1,.int .i64 tm1] 84 (0,0)):=⟨_,rfl⟩;have X1:Ext w W1:=hW1▸(Ext.refl w).alloc _;have hbw:W1.heap[w.heap.size]?=some (.cells #[.int .i64 k1,.string d1,.string g1,.int .i64 tm1] 84 (0,0)):=by rw [hW1];exact block_alloc_new _ _
  have T1:=T.ext X1;have ct1:=After.at (k:=1) T1.blk;have ft1:=After.free (k:=1) T1.blk;have cb0:=After.at (k:=0) hbw;have cb1:=After.at (k:=1) hbw;have cb2:=After.at (k:=2) hbw;have cb3:=After.at (k:=3) hbw;have HX1:=lh X1;clear T T1 X1 hbw L hf hU;subst hW1;generalize hC:64+d1.size=C at *;generalize hA:usedL l=A at *;have HA:=lh hA;clear hA hC;have hsub:IntKind.i64.wrap ((A:Int) - (C:Int))=(A:Int) - (C:Int):=IntWalk.i64_in _ (by omega);go_enter func255,ntmps255;go_wp2_with fail;refine wp_region_after_tail 7 (by kernel_rfl) (by kernel_rfl) ?_;simp only [List.take_succ_cons,List.take_zero,List.drop_succ_cons,List.drop_zero]
  repeat (go_big_quiet_step ((go_at_call 256;exact After.of (S2 _).out)))
  refine wpQuiet_nil ?_;rintro W4 ⟨⟨_,x4⟩,rfl⟩;have X4:=HX1.out.trans x4;have T4:=HT.out.ext X4;have c1:W4.cell? ⟨t,1,none⟩=some (.int .i64 A):=by rw [<-HA.out];exact cellB T4.blk
  have f1:W4.frozen? ⟨t,1,none⟩=false:=frozenB T4.blk;have q5:(W4.setCell ⟨t,1,none⟩ (.int .i64 ((A:Int) - (C:Int)))).heap[t]?=some (.cells #[.map (some m),.int .i64 ((A:Int) - (C:Int)),.int .i64 (room:Nat)] 174 (0,0)):=setCellB T4.blk;have c5:(W4.setCell ⟨t,1,none⟩ (.int .i64 ((A:Int) - (C:Int)))).cell? ⟨t,0,none⟩=some (.map (some m)):=cellB q5;have hm5:MapL (W4.setCell ⟨t,1,none⟩ (.int .i64 ((A:Int) - (C:Int)))) m l:=T4.map.kept (setCellO (Ne.symm htm));obtain ⟨w6,hr6,hm6,hg6⟩:=hm5.drop p hp 0;have HH:=lh (And.intro T4 (And.intro X4 (And.intro hm6 hg6)));clear T4 X4 hm6 hg6 hm5 q5 x4 hsub ct1 ft1 cb0 cb1 cb2 cb3 HX1 HT S2;go_wp2_with fail;go_end0;have h:=drop_end HH.out.1 HH.out.2.1 HH.out.2.2.1 HH.out.2.2.2 (by have:=HU.out;omega);exact ⟨rfl,h⟩
def firstE (a b:Int):Int:=if a=0 then b else a
set_option maxHeartbeats 800000 in
theorem dfirst_any (a b:Int) (g:Nat) (w:World) (h0:w.cell? ⟨g,0,none⟩=some (.int .i64 a)) (h1:w.cell? ⟨g,1,none⟩=some (.int .i64 b)) :
  Calls prog 188 #[.slice (some ⟨g,0,none⟩) 2 2] w fun e w'=>e=.returned (.int .i64 (firstE a b))/\w'=w:=by
 by_cases ha:a=0
 ·subst ha;have HR:=lh (show firstE 0 b=b from rfl);by_cases hb:b=0
  ·subst hb;go_enter func188,ntmps188;go_wp2_with fail;go_loop [7] (fun iv=>∃ k:Nat,k<=2/\iv=.int .i64 k) (fun iv=>2 - (intOf iv).toNat)
   case atStart=>exact ⟨0,by decide,rfl⟩
   case round =>
    obtain ⟨k,hk,rfl⟩:=hrel
    have ck:k<2->w.cell? ⟨g,k,none⟩=some (.int .i64 0):=fun h=>by
     rcases (show k=0\/k=1 by omega) with rfl | rfl
     ·exact h0
     ·exact h1
    by_cases hlt:k<2
    ·have ck:=ck hlt;go_wp2_with fail;go_round
     case rel=>exact ⟨k+1,by omega,by go_num⟩
     case measure=>simp [intOf];omega
    ·obtain rfl:k=2:=by omega
     go_wp2_with fail;go_ret;exact ⟨rfl,rfl⟩
  ·have e1:(b==0)=false:=by simpa using hb
   have e2:(b != 0)=true:=by simpa using hb
   clear hb;go_enter func188,ntmps188;go_wp2_with fail;go_loop [7] (fun iv=>∃ k:Nat,k<=1/\iv=.int .i64 k) (fun iv=>2 - (intOf iv).toNat)
   case atStart=>exact ⟨0,by decide,rfl⟩
   case round =>
    obtain ⟨k,hk,rfl⟩:=hrel;rcases (show k=0\/k=1 by omega) with rfl | rfl
    ·go_wp2_with fail;go_round
     case rel=>exact ⟨1,by decide,by go_num⟩
     case measure=>simp [intOf]
    ·go_wp2_with fail;go_ret;exact ⟨ret_int HR.out.symm,rfl⟩
 ·have HR:=lh (show firstE a b=a from if_neg ha);have e1:(a==0)=false:=by simpa using ha
  have e2:(a != 0)=true:=by simpa using ha
  clear ha;go_enter func188,ntmps188;go_wp2_with fail;go_loop [7] (fun iv=>∃ k:Nat,k=0/\iv=.int .i64 k) (fun iv=>2 - (intOf iv).toNat)
  case atStart=>exact ⟨0,rfl,rfl⟩
  case round =>
   obtain ⟨k,rfl,rfl⟩:=hrel;go_wp2_with fail;go_ret;exact ⟨ret_int HR.out.symm,rfl⟩
end
section
open Go.Sort (Holds)
open Go.Maps (has_true_of_atKey)
theorem Ext.grownBy {w w':World} (x:Ext w w'):w.grownBy w' none:=⟨Below.os x,Below.tape x,Below.output x,x.size,fun _ hb _=>x.block hb⟩
def keysD (l:Nodes):List (List UInt8):=l.map fun x=>x.1.data.toList
theorem strKeys_of {w:World} {b n:Nat} {D:DataW Value} {l:Nodes} (h:w.ownsMap prog 9 RN b n D) (hn:(l.map (·.1)).Nodup) (hh:∀ s:ByteArray,Maps.has D (.string s.data.toList)=(findA l s).isSome):(keysD l).Perm (strKeys D):=by
 obtain ⟨es,rfl,hp,_⟩:=h.entries keyedN;obtain ⟨es',he,hk⟩:=h.keysOf
 cases he
 exact perm_strKeys (ss:=l.map fun x=>x.1.data.toList) hp (fun p hp'=>by
  obtain ⟨key,hkey⟩:=hk p hp';obtain ⟨x,_,hx,_⟩:=Maps.keyOf_str underlying9 hkey
  exact ⟨x,hx⟩) (by
   rw [show (l.map fun x=>x.1.data.toList)=(l.map (·.1)).map fun x=>x.data.toList from by rw [List.map_map];rfl];exact List.pairwise_map.2 (hn.imp fun hne e=>hne (ba_data e))) (fun x=>by
   have:=hh ⟨x.toArray⟩;rw [show (⟨x.toArray⟩:ByteArray).data.toList=x from rfl] at this;rw [this,findA_isSome];constructor
   ·intro hx;obtain ⟨y,hy,e⟩:=List.mem_map.1 hx;refine List.mem_map.2 ⟨y,hy,?_⟩;rw [<-e]
   ·intro hx;obtain ⟨y,hy,e⟩:=List.mem_map.1 hx
    exact List.mem_map.2 ⟨y,hy,by rw [e]⟩)
def insideL (d:ByteArray) (ks:List (List UInt8)):List (List UInt8):=ks.filter fun k=>withinB (bsL k) d
def withinsS (l:Nodes) (d:ByteArray):List ByteArray:=((insideL d (keysD l)).mergeSort fun x y=>decide (x<=y)).map bsL
theorem inside_snoc (d:ByteArray) (ks:List (List UInt8)) (k:List UInt8):insideL d (ks++[k])=insideL d ks++(if withinB (bsL k) d then [k] else []):=by
 unfold insideL;rw [List.filter_append,List.filter_cons]
 cases withinB (bsL k) d <;> rfl
theorem inside_len (d:ByteArray) (ks:List (List UInt8)):(insideL d ks).length<=ks.length:=List.length_filter_le _ _
theorem enc_map (ks:List (List UInt8)):ks.map encStr=(ks.map bsL).map Value.string:=by rw [List.map_map];rfl
theorem sort_inside {l:Nodes} {d:ByteArray} {ss:List (List UInt8)} (h:ss.Perm (keysD l)):((insideL d ss).mergeSort fun x y=>decide (x<=y)).map bsL=withinsS l d:=by
 unfold withinsS;rw [show ((insideL d ss).mergeSort fun x y=>decide (x<=y))=(insideL d (keysD l)).mergeSort fun x y=>decide (x<=y) from mergeSort_of_perm (h.filter _)]
theorem RN_inv (v:Value) (y:DataW Value×List MemPlace) (_:RN v=some y):∃ c:Value,v=id c:=⟨v,rfl⟩
theorem str_inv (key:Value) (kl:Lit) (hk:keyOf prog 9 key=some kl):∃ x,key=encStr x:=by obtain ⟨x,hx,_⟩:=Maps.keyOf_str underlying9 hk;exact ⟨x,hx⟩
def InsAt (w wr:World) (m n:Nat) (D:DataW Value) (d:ByteArray) (v:Value):Prop :=
 ∃ (left:Lit->Bool) (cnt:Nat) (ss:List (List UInt8)),wr.ranges prog 9 RN m w.heap.size n D left cnt/\ss.length+cnt<=Maps.size D/\wr.ownsRow w.heap.size 9 1 v (insideL d ss).length ((insideL d ss).map encStr)/\Collected D left ss/\Ext w wr
theorem ins_skip {w w2 w3:World} {m n:Nat} {D:DataW Value} {d:ByteArray} {v:Value} {left:Lit->Bool} {cnt:Nat} {ss:List (List UInt8)} {x:List UInt8} (hrg:w2.ranges prog 9 RN m w.heap.size n D left cnt) (x3:Ext w2 w3) (hc:ss.length+cnt+1<=Maps.size D)
  (hrow:w2.ownsRow w.heap.size 9 1 v (insideL d ss).length ((insideL d ss).map encStr)) (hC:Collected D left (ss++[x])) (hs:insideL d (ss++[x])=insideL d ss) (hx:Ext w w2):InsAt w w3 m n D d v :=
 ⟨left,cnt,ss++[x],hrg.kept x3.grownBy (by simp) (by simp),by simp;omega,by rw [hs];exact owns_ext hrow x3,hC,hx.trans x3⟩
theorem ins_add {w w2 w3 w4:World} {o:Obj} {m n:Nat} {D:DataW Value} {d:ByteArray} {v v':Value} {left:Lit->Bool} {cnt:Nat} {ss:List (List UInt8)} {x:List UInt8} (hrg:w2.ranges prog 9 RN m w.heap.size n D left cnt) (x3:Ext w2 w3) (hc:ss.length+cnt+1<=Maps.size D)
  (hrow:w3.ownsRow w.heap.size 9 1 v (insideL d ss).length ((insideL d ss).map encStr)) (hown:w4.ownsRow w.heap.size 9 1 v' ((insideL d ss).length+1) ((insideL d ss).map encStr++[.string (bsL x)])) (hg:(w3.alloc o).grownBy w4 v.ownBlock)
  (hC:Collected D left (ss++[x])) (hs:insideL d (ss++[x])=insideL d ss++(if true then [x] else [])) (hx:Ext w w2) (hm:m<w.heap.size):InsAt w w4 m n D d v'/\w4.rangeLeft m w.heap.size=cnt:=by
 have h3:=hrg.kept x3.grownBy (by simp) (by simp);have hge:=own_block_ge hrow;have h4:=(h3.alloc o).kept hg (fun e=>by have:=hge _ e.symm;omega) (row_ne_iter hrow h3);refine ⟨⟨left,cnt,ss++[x],h4,by simp;omega,?_,hC,?_⟩,h4.left_eq⟩
 ·rw [hs];simp only [if_true,List.length_append,List.length_singleton,List.map_append,List.map_cons,List.map_nil];exact hown
 ·exact Below.grown ((hx.trans x3).alloc o) hg ((hx.trans x3).alloc o).size (fun j hj=>hge j hj)
theorem sorted_end {w wr:World} {l:Nodes} {d:ByteArray} {ss:List (List UInt8)} {g cap n:Nat} {cur:Array Value} {os:Array Obj} (hx:Ext w wr) (hp:ss.Perm (keysD l)) (hbase:w.heap.size<=g) (hb:wr.heap[g]?=some (.cells cur 9 (0,0))) (h1:(insideL d ss).length<=cap) (h2:cap<=maxLen) (h3:cur.size=cap*1) :
  (Go.Sort.grow (Go.Sort.putRow encStr (Go.Sort.ahead wr n) g 0 ((insideL d ss).mergeSort fun x y=>decide (x<=y)).toArray) os).ownsRow w.heap.size 9 1 (.slice (some ⟨g,0,none⟩) (insideL d ss).length cap) (withinsS l d).length ((withinsS l d).map Value.string) /\
  Ext w (Go.Sort.grow (Go.Sort.putRow encStr (Go.Sort.ahead wr n) g 0 ((insideL d ss).mergeSort fun x y=>decide (x<=y)).toArray) os):=by
 have hs:=ownsRow_sorted (ss:=insideL d ss) (ts:=(insideL d ss).mergeSort fun x y=>decide (x<=y)) (os:=os) (n:=n) (by simp) hbase hb h1 h2 h3;refine ⟨?_,?_⟩
 ·rw [<-sort_inside hp,<-enc_map];simp only [List.length_map,List.length_mergeSort];exact hs
 ·exact Below.grown hx (grownBy_sorted _) hx.size (fun j hj=>by cases hj;exact hbase)
set_option maxHeartbeats 2000000 in
set_option maxRecDepth 100000 in
theorem dwithin_any (t m:Nat) (l:Nodes) (room:Nat) (d:ByteArray) (w:World) (E:Env w) (T:TreeAt w t m l room) (hd:d.size<4294967280) (hl:l.length<=1048576) (hk:∀ x∈l,x.1.size<=160) :
  Calls prog 254 #[.pointer (some ⟨t,0,none⟩),.string d] w fun e w'=>∃ v,e=.returned v/\w'.ownsRow w.heap.size 9 1 v (withinsS l d).length ((withinsS l d).map Value.string)/\Ext w w':=by
 have c0:w.cell? ⟨t,0,none⟩=some (.map (some m)):=cellB T.blk;obtain ⟨hnd,_,D,hown,hread⟩:=T.map;have HP:=lh (strKeys_of hown hnd fun s=>(hread s).1);have hsz:Maps.size D=l.length:=size_of hown hnd fun s=>(hread s).1
 have HK:=lh (show ∀ x:List UInt8,Maps.has D (.string x)=true->(bsL x).size<=160 from fun x hx=>by
  have:=(hread (bsL x)).1;rw [show (bsL x).data.toList=x from rfl,hx] at this;obtain ⟨y,hy,e⟩:=List.mem_map.1 (findA_isSome.1 this.symm)
  rw [<-e];exact hk y hy)
 have W:=fun k w hk E=>lh (within_any (bsL k) d w hk hd E);have SS:=fun blk off cap ss w h1 h2 h3=>lh (Tryz.slices_Sort_string blk off cap ss w h1 h2 h3);have SN:=fun p cap w=>lh (Tryz.slices_Sort_string_none p cap w);have HE:=lh E;have hm:=T.map.lt;clear hread T hnd hk;go_enter func254,ntmps254;go_wp2_with (at_range;refine wpList_range_own _ rfl _ 172 rfl 9 84 keyedN underlying172 RN m l.length D rfl hown ?_;intro w0 hrg0 hg0 hs0);go_frame;have H0:=lh (show InsAt w w0 m l.length D d (.slice none 0 0) from ⟨_,_,[],hrg0,by simp,World.ownsRow_nil _ _ _ _,Collected.start D,Below.grown (Below.refl _ _) hg0 (Nat.le_refl _) (fun j hj=>by cases hj)⟩);clear hg0 hs0 hrg0;go_loopw [4] (fun v wr=>Hid (InsAt w wr m l.length D d v)) (fun _ wr=>wr.rangeLeft m w.heap.size)
 case atStart=>exact H0
 case round =>
  obtain ⟨left,cnt,ss,hrg,hcs,hrow,hC,hx⟩:=hrel.out;clear hrel H0;go_wp2_with (at_next;refine wpList_next_ranges _ rfl _ rfl 9 keyedN RN encStr id str_inv RN_inv m w.heap.size l.length D left cnt rfl hrg ?_ ?_)
  ·intro hc0 hl0;have hperm:ss.Perm (keysD l):=(hC.perm hrg.owns keyedN underlying9 hl0).trans HP.out.symm;have HPm:=lh hperm;have HX:=lh hx;have hil:=inside_len d ss;have hcs2:ss.length<=l.length:=by omega
   rcases hrow.2 with ⟨rfl,hnil⟩ | ⟨g,cap,cur,rfl,hbase,hb,h1,h2,h3,h4⟩
   ·have HN:=lh (show withinsS l d=[] from by
     have h0:insideL d ss=[]:=by simpa using hnil
     rw [<-sort_inside hperm,h0];simp)
    clear hC hrg hrow hnil hl0 hperm hx hcs hc0;go_wp2_with fail;refine (SN _ _ _).out.mono ?_;rintro e w9 ⟨rfl,rfl⟩;go_wp2_with fail;go_ret;exact ⟨_,rfl,by rw [HN.out];exact World.ownsRow_nil _ _ _ _,HX.out⟩
   ·have hH:Holds encStr wr g 0 (insideL d ss).toArray:=holds_of_block hb (by simpa using h4);have hgl:g<wr.heap.size:=(Array.getElem?_eq_some_iff.1 hb).1;have HS:=lh (SS g 0 cap (insideL d ss) wr hH hgl (by omega)).out;have HEnd:=fun n os=>lh (sorted_end (n:=n) (os:=os) hx hperm hbase hb h1 h2 h3);clear hC hrg hrow hl0 hperm hx hcs hc0 h4 hH h3 hb SS SN;go_wp2_with fail;refine HS.out.mono ?_;rintro e w9 ⟨rfl,n9,os9,rfl⟩;have HE9:=HEnd n9 os9;clear HEnd HS;go_wp2_with fail;go_ret;exact ⟨_,rfl,HE9.out⟩
  ·intro x c kl yd yp w2 cnt2 hkey hlk hv hat hrg2 hlt hg2 hs2 hen;obtain ⟨x',ex,rfl,_⟩:=Maps.keyOf_str underlying9 hkey;obtain rfl:x=x':=encStr_inj ex;have hen2:(Instr.entry (.pointer (some ⟨w.heap.size,0,none⟩))).run prog w2=.ok (.tuple #[.string (bsL x),c]) w2:=hen;have hC2:=hC.step hlk hat;have hxs:=HK.out x (has_true_of_atKey hat);have hx2:Ext w w2:=Below.grown hx hg2 hx.size (fun j hj=>by cases hj;exact Nat.le_refl _);have hrow2:=hrow.kept hg2 (.inr (fun e=>row_ne_iter hrow hrg e.symm));have HW:=lh (W x w2 (by omega) (HE.out.ext hx2)).out;have HX2:=lh hx2;have HR2:=lh hrow2;have HG2:=lh hrg2;have HC2:=lh hC2;have hil:=inside_len d ss;have HSn:=lh (inside_snoc d ss x);have hcnt:ss.length+1+cnt2<=l.length:=by omega
   have HSZ:=lh hsz;have HLT:=lh (show cnt2<cnt from hlt);have HG:=lh hrg;clear hen hs2 hg2 hrg2 hv hkey ex hC hC2 hx hx2 hrow hrow2 hrg hlk hat hcs hlt W HK SS SN;generalize withinB (bsL x) d=b at *
   cases b with
   | false =>
    go_wp2_with fail;refine HW.out.mono ?_;rintro e w3 ⟨rfl,x3⟩;have HX3:=lh x3;clear x3 HW;go_wp2_with fail;go_roundw
    case rel=>exact ins_skip HG2.out HX3.out (by rw [Nat.add_right_comm] at hcnt;rw [HSZ.out];exact hcnt) HR2.out HC2.out (by rw [HSn.out];simp) HX2.out
    case measure =>
     have h1:=(HG2.out.kept HX3.out.grownBy (by simp) (by simp)).left_eq;have h2:=HG.out.left_eq;rw [h1,h2];exact HLT.out
   | true =>
    go_wp2_with fail;refine HW.out.mono ?_;rintro e w3 ⟨rfl,x3⟩;have HX3:=lh x3;have HO3:=lh (owns_ext HR2.out x3);clear x3 HW;go_wp2_with (at_builtin;refine append_one el_string w.heap.size _ _ _ (HO3.out.alloc _) w3.heap.size (.string (bsL x)) (.tmp 18) (.tmp 20) rfl rfl rfl rfl (by rw [cell_alloc_new rfl];rfl) rfl (by omega) (by have:=(HX2.out.trans HX3.out).size;simp;omega) ?_);intro v' w4 hown4 hg4 hv4;have HF:=lh (ins_add HG2.out HX3.out (by rw [Nat.add_right_comm] at hcnt;rw [HSZ.out];exact hcnt) HO3.out hown4 hg4 HC2.out HSn.out HX2.out hm);clear hown4 hg4 hv4;go_wp2_with fail;go_roundw
    case rel=>exact HF.out.1
    case measure =>
     have h2:=HG.out.left_eq;rw [HF.out.2,h2];exact HLT.out
end
section
theorem TreeOk.nz {l:Nodes} {room:Nat} (T:TreeOk l room):∀ q n,findA l q=some n->n.kind≠0:=fun q n h=>by
 have:=T.kind (q,n) (findA_mem h);simp only at this;omega
theorem writeE_first (l:Nodes) (room:Nat) (p d:ByteArray) (t:Int):writeE l room p d t=if firstE (homeE l p) (fileE l p)=0 then putE l room p ⟨1,d,emp,t⟩ else (firstE (homeE l p) (fileE l p),l):=by
 unfold writeE firstE;by_cases h:homeE l p=0
 ·rw [if_pos h,if_pos h]
 ·rw [if_neg h,if_neg h,if_neg h]
theorem Chg.from_ext {F:List Nat} {a b c:World} (x:Ext a b) (k:Chg F b c):Chg F a c:=(x.chg F).trans k (fun _ hx=>.inl hx)
set_option maxRecDepth 100000 in
set_option maxHeartbeats 2000000 in
theorem dwrite_any (t m:Nat) (l:Nodes) (room:Nat) (p d:ByteArray) (tm:Int) (w:World) (E:Env w) (T:TreeAt w t m l room) (O:TreeOk l room) (hr:room<=1048576) (hp:p.size<=160) (hd:d.size<=1073741824) :
  Calls prog 115 #[.pointer (some ⟨t,0,none⟩),.string p,.string d,.int .i64 tm] w
   fun e w'=>e=.returned (.int .i64 (writeE l room p d tm).1)/\TreeAt w' t m (writeE l room p d tm).2 room/\Chg [t,m] w w':=by
 have HE:=lh (writeE_first l room p d tm);have H1:=lh (dhome_any t m l room p w E T (by omega) O.nz);have H2:=fun w T=>lh (dfile_any t m l room p w T (by unfold maxLen;omega));have H3:=fun a b g w h0 h1=>lh (dfirst_any a b g w h0 h1);have H4:=fun w T=>lh (dput_any t m l room p 1 tm d ⟨#[]⟩ w T O.sorted (by unfold maxLen;omega) (by have:=O.used;omega) hd hr);have HEm:=lh (show (⟨#[]⟩:ByteArray)=emp from rfl);have HT:=lh T;clear T O E;generalize writeE l room p d tm=R at *;have HP:=lh (show putE l room p ⟨1,d,emp,tm⟩=putE l room p ⟨1,d,⟨#[]⟩,tm⟩ from rfl);rw [HP.out] at HE;clear HP HEm;generalize putE l room p ⟨1,d,⟨#[]⟩,tm⟩=P at *;generalize homeE l p=h at *;generalize fileE l p=f at *
 cases hF:decide (firstE h f=0) with
 | true =>
  have hF0:firstE h f=0:=of_decide_eq_true hF;have HR:=lh (show R=P from by rw [HE.out,if_pos hF0]);have HF0:=lh hF0;clear HE hF hF0;go_enter func115,ntmps115;go_wp2_with fail;refine H1.out.mono ?_;rintro e w1 ⟨rfl,x1⟩;go_wp2_with fail;refine (H2 _ (HT.out.ext x1)).out.mono ?_;rintro e w2 ⟨rfl,x2⟩;go_wp2_with fail;refine (H3 h f w2.heap.size _ (by rw [cell_alloc_new rfl];rfl) (by rw [cell_alloc_new rfl];rfl)).out.mono ?_;rintro e w3 ⟨rfl,hw3⟩;have x3:Ext w w3:=hw3▸(x1.trans x2).alloc _;have HX3:=lh x3;have hf0:=HF0.out;clear x1 x2 hw3 x3;generalize firstE h f=F at *;subst hf0;go_wp2_with fail;refine (H4 _ (HT.out.ext HX3.out)).out.mono ?_;rintro e w4 ⟨rfl,t4,x4⟩;have HT4:=lh t4;have HX4:=lh (Chg.from_ext HX3.out x4);clear t4 x4;go_wp2_with fail;go_ret;rw [HR.out];exact ⟨rfl,HT4.out,HX4.out⟩
 | false =>
  have hF0:¬ firstE h f=0:=of_decide_eq_false hF;have HR:=lh (show R=(firstE h f,l) from by rw [HE.out,if_neg hF0]);have HF0:=lh (show (firstE h f==0)=false/\(firstE h f != 0)=true from by simpa using hF0);clear HE hF hF0;go_enter func115,ntmps115;go_wp2_with fail;refine H1.out.mono ?_;rintro e w1 ⟨rfl,x1⟩;go_wp2_with fail;refine (H2 _ (HT.out.ext x1)).out.mono ?_;rintro e w2 ⟨rfl,x2⟩;go_wp2_with fail;refine (H3 h f w2.heap.size _ (by rw [cell_alloc_new rfl];rfl) (by rw [cell_alloc_new rfl];rfl)).out.mono ?_;rintro e w3 ⟨rfl,hw3⟩;have x3:Ext w w3:=hw3▸(x1.trans x2).alloc _;have HX3:=lh x3;obtain ⟨f0,f1⟩:=HF0.out;clear x1 x2 hw3 x3 HF0;generalize firstE h f=F at *;go_wp2_with fail;go_ret;rw [HR.out];exact ⟨rfl,HT.out.ext HX3.out,HX3.out.chg _⟩
set_option maxRecDepth 100000 in
set_option maxHeartbeats 2000000 in
theorem dlay_any (t m:Nat) (l:Nodes) (room:Nat) (p:ByteArray) (k tm:Int) (d g:ByteArray) (w:World) (E:Env w) (T:TreeAt w t m l room) (O:TreeOk l room) (hr:room<=1048576) (hp:p.size<=160) (hd:d.size<=1073741824) :
  Calls prog 118 #[.pointer (some ⟨t,0,none⟩),.string p,.agg #[.int .i64 k,.string d,.string g,.int .i64 tm]] w
   fun e w'=>e=.returned (.int .i64 (layE l room p ⟨k,d,g,tm⟩).1)/\TreeAt w' t m (layE l room p ⟨k,d,g,tm⟩).2 room/\Chg [t,m] w w':=by
 have HE:=lh (show layE l room p ⟨k,d,g,tm⟩=if homeE l p=0 then (if (findA l p).isSome then (6,l) else putE l room p ⟨k,d,g,tm⟩) else (homeE l p,l) from rfl);obtain ⟨W1,hW1⟩:∃ W1,W1=w.alloc (.cells #[.int .i64 k,.string d,.string g,.int .i64 tm] 84 (0,0)):=⟨_,rfl⟩;have X1:Ext w W1:=hW1▸(Ext.refl w).alloc _;have HB:=lh (show W1.heap[w.heap.size]?=some (.cells #[.int .i64 k,.string d,.string g,.int .i64 tm] 84 (0,0)) by rw [hW1];exact block_alloc_new _ _);have H1:=lh (dhome_any t m l room p W1 (E.ext X1) (T.ext X1) (by omega) O.nz);have H4:=fun w T=>lh (dput_any t m l room p k tm d g w T O.sorted (by unfold maxLen;omega) (by have:=O.used;omega) hd hr);have HT:=lh (T.ext X1);have HX1:=lh X1;have hp2:p.size<=maxLen:=by unfold maxLen;omega
 clear T O E X1;subst hW1;generalize layE l room p ⟨k,d,g,tm⟩=R at *;generalize putE l room p ⟨k,d,g,tm⟩=P at *;generalize homeE l p=h at *;by_cases hh:h=0
 ·have HE:=lh (HE.out.trans (if_pos hh));subst hh
  cases hf:findA l p with
  | none =>
   have HR:=lh (show R=P from by rw [HE.out,hf];rfl);go_enter func118,ntmps118;go_wp2_with fail;refine H1.out.mono ?_;rintro e W2 ⟨rfl,x2⟩;have T2:=HT.out.ext x2;have L:=T2.map.look_ok p hp2;rw [hf] at L;have L2:(Instr.lookup 172 (.map (some m)) (.string p) true).run prog W2=.ok (.tuple #[.agg #[.int .i64 0,.string ⟨#[]⟩,.string ⟨#[]⟩,.int .i64 0],.bool false]) W2:=L;have c0:W2.cell? ⟨t,0,none⟩=some (.map (some m)):=cellB T2.blk;have hb2:=(x2.block (ltB HB.out)).trans HB.out;have b0:W2.cell? ⟨w.heap.size,0,none⟩=some (.int .i64 k):=cellB hb2;have b1:W2.cell? ⟨w.heap.size,1,none⟩=some (.string d):=cellB hb2;have b2:W2.cell? ⟨w.heap.size,2,none⟩=some (.string g):=cellB hb2;have b3:W2.cell? ⟨w.heap.size,3,none⟩=some (.int .i64 tm):=cellB hb2;have bl:=ltB hb2;have x3:=(HX1.out.trans x2).alloc (.cells #[.int .i64 0,.string ⟨#[]⟩,.string ⟨#[]⟩,.int .i64 0] 84 (0,0));have HX3:=lh x3;have HT3:=lh (T2.ext ((Ext.refl W2).alloc (.cells #[.int .i64 0,.string ⟨#[]⟩,.string ⟨#[]⟩,.int .i64 0] 84 (0,0))));clear L x2 x3 T2 hb2 HE hf H1;go_wp2_with fail;refine (H4 _ HT3.out).out.mono ?_;rintro e w4 ⟨rfl,t4,x4⟩;have HT4:=lh t4;have HX4:=lh (Chg.from_ext HX3.out x4);clear t4 x4;go_wp2_with fail;go_ret;rw [HR.out];exact ⟨rfl,HT4.out,HX4.out⟩
  | some o =>
   have HR:=lh (show R=(6,l) from by rw [HE.out,hf];rfl);obtain ⟨k1,d1,g1,tm1⟩:=o;go_enter func118,ntmps118;go_wp2_with fail;refine H1.out.mono ?_;rintro e W2 ⟨rfl,x2⟩;have T2:=HT.out.ext x2;have L:=T2.map.look_ok p hp2;rw [hf] at L;have L2:(Instr.lookup 172 (.map (some m)) (.string p) true).run prog W2=.ok (.tuple #[.agg #[.int .i64 k1,.string d1,.string g1,.int .i64 tm1],.bool true]) W2:=L;have c0:W2.cell? ⟨t,0,none⟩=some (.map (some m)):=cellB T2.blk;have x3:=(HX1.out.trans x2).alloc (.cells #[.int .i64 k1,.string d1,.string g1,.int .i64 tm1] 84 (0,0));have HX3:=lh x3;have HT3:=lh (T2.ext ((Ext.refl W2).alloc (.cells #[.int .i64 k1,.string d1,.string g1,.int .i64 tm1] 84 (0,0))));clear L x2 x3 T2 HE hf H1;go_wp2_with fail;go_ret;rw [HR.out];exact ⟨rfl,HT3.out,HX3.out.chg _⟩
 ·have HR:=lh (HE.out.trans (if_neg hh));have h1:(h==0)=false:=by simpa using hh
  have h2:(h != 0)=true:=by simpa using hh
  clear hh;go_enter func118,ntmps118;go_wp2_with fail;refine H1.out.mono ?_;rintro e W2 ⟨rfl,x2⟩;have HT2:=lh (HT.out.ext x2);have HX2:=lh (HX1.out.trans x2);clear x2;go_wp2_with fail;go_ret;rw [HR.out];exact ⟨rfl,HT2.out,HX2.out.chg _⟩
theorem withins_any {l:Nodes} {p:ByteArray}:(withinsS l p).length=0↔(l.any fun x=>withinB x.1 p)=false:=by
 unfold withinsS;rw [List.length_map,List.length_mergeSort,List.length_eq_zero_iff];unfold insideL;rw [List.filter_eq_nil_iff,List.any_eq_false];constructor
 ·intro h x hx;exact h _ (List.mem_map.2 ⟨x,hx,rfl⟩)
 ·intro h k hk;obtain ⟨x,hx,rfl⟩:=List.mem_map.1 hk;exact h x hx
set_option maxRecDepth 100000 in
set_option maxHeartbeats 2000000 in
theorem dremove_any (t m:Nat) (l:Nodes) (room:Nat) (p:ByteArray) (w:World) (E:Env w) (T:TreeAt w t m l room) (O:TreeOk l room) (hr:room<=1048576) (hp:p.size<=160) :
  Calls prog 186 #[.pointer (some ⟨t,0,none⟩),.string p] w
   fun e w'=>e=.returned (.int .i64 (removeE l p).1)/\TreeAt w' t m (removeE l p).2 room/\Chg [t,m] w w':=by
 have hp2:p.size<=maxLen:=by unfold maxLen;omega
 have L:=T.map.look_ok p hp2;have c0:w.cell? ⟨t,0,none⟩=some (.map (some m)):=cellB T.blk;have HE:=lh (show removeE l p=if (findA l p).isSome then (if l.any fun x=>withinB x.1 p then (22,l) else (0,dropA l p)) else (5,l) from rfl);have HT:=lh T;have hu:=O.used;have hlen:=len_used l
 cases hf:findA l p with
 | none =>
  rw [hf] at L;have L2:(Instr.lookup 172 (.map (some m)) (.string p) true).run prog w=.ok (.tuple #[.agg #[.int .i64 0,.string ⟨#[]⟩,.string ⟨#[]⟩,.int .i64 0],.bool false]) w:=L;have HR:=lh (show removeE l p=(5,l) from by rw [HE.out,hf];rfl);clear L HE hf T;generalize removeE l p=R at *;go_enter func186,ntmps186;go_wp2_with fail;go_ret;rw [HR.out];have x:Ext w (w.alloc (.cells #[.int .i64 0,.string ⟨#[]⟩,.string ⟨#[]⟩,.int .i64 0] 84)):=(Ext.refl w).alloc _;exact ⟨rfl,HT.out.ext x,x.chg _⟩
 | some n =>
  obtain ⟨k,d,g,tm⟩:=n;rw [hf] at L;have L2:(Instr.lookup 172 (.map (some m)) (.string p) true).run prog w=.ok (.tuple #[.agg #[.int .i64 k,.string d,.string g,.int .i64 tm],.bool true]) w:=L;have HE:=lh (show removeE l p=if (l.any fun x=>withinB x.1 p)=true then (22,l) else (0,dropA l p) from by rw [HE.out,hf];rfl);have H2:=fun w E T=>lh (dwithin_any t m l room p w E T (by omega) (by omega) fun x hx=>mayB_size (O.may x hx));have H4:=fun w T=>lh (ddrop_any t m l room p w T O.sorted (by unfold maxLen;omega) (by omega));have x1:Ext w (w.alloc (.cells #[.int .i64 k,.string d,.string g,.int .i64 tm] 84 (0,0))):=(Ext.refl w).alloc _;have HX1:=lh x1;have HT1:=lh (T.ext x1);have HE1:=lh (E.ext x1);have HWI:=lh (withins_any (l:=l) (p:=p));clear L hf O T x1 hu hlen;generalize removeE l p=R at *;generalize (l.any fun x=>withinB x.1 p)=b at *;generalize withinsS l p=ws at *;go_enter func186,ntmps186;go_wp2_with fail;refine (H2 _ HE1.out HT1.out).out.mono ?_;rintro e W2 ⟨v,rfl,hown,x2⟩;have HT2:=lh (HT1.out.ext x2);have HX2:=lh (HX1.out.trans x2)
  obtain ⟨cap,a,rfl,hcap⟩:∃ (cap:Nat) (a:Option Addr),v=.slice a ws.length cap/\ws.length<=9223372036854775807:=by
   rcases hown.2 with ⟨rfl,h0⟩ | ⟨g',cap,cur,rfl,_,_,h1,h2,_⟩
   ·have:ws.length=0:=by simpa using h0
    exact ⟨0,none,by rw [this],by omega⟩
   ·exact ⟨cap,_,rfl,by unfold maxLen at h2;omega⟩
  clear hown x2 H2
  cases b with
  | true =>
   have hl:0<ws.length:=by
    rcases Nat.eq_zero_or_pos ws.length with h | h
    ·have:=HWI.out.1 h;cases this
    ·exact h
   have HR:=lh (HE.out.trans (if_pos rfl));clear HE;go_wp2_with fail;go_ret;rw [HR.out];exact ⟨rfl,HT2.out,HX2.out.chg _⟩
  | false =>
   have hl:ws.length=0:=HWI.out.2 rfl;have HR:=lh (HE.out.trans (if_neg (by decide)));rw [hl];clear HE;go_wp2_with fail;refine (H4 _ HT2.out).out.mono ?_;rintro e w4 ⟨rfl,t4,x4⟩;have HT4:=lh t4;have HX4:=lh (Chg.from_ext HX2.out x4);clear t4 x4;go_wp2_with fail;go_ret;rw [HR.out];exact ⟨rfl,HT4.out,HX4.out⟩
end
section
end
section
theorem own_ge {w:World} {base n k:Nat} {e:TypeId} {v:Value} {xs:List Value} (h:w.ownsRow base e k v n xs):∀ b,v.ownBlock=some b->base<=b:=by
 intro b hb;rcases h.2 with ⟨rfl,_⟩ | ⟨g,cap,cur,rfl,hg,_⟩
 ·simp [Value.ownBlock] at hb
 ·simp [Value.ownBlock] at hb;omega
end
section
theorem clone_end {w:World} {es:Array MapEntry} {clock U room:Nat} {l:Nodes} (HM:∀ w2:World,w2.heap[w.heap.size]?=some (.map es clock)->MapL w2 w.heap.size l) (hU:usedL l=U) :
  TreeAt (((w.alloc (.map es clock)).alloc (.cells #[.map (some w.heap.size),.int .i64 (U:Nat),.int .i64 (room:Nat)] 174 (0,0))).drew) (w.heap.size+1) w.heap.size l room /\
  Ext w (((w.alloc (.map es clock)).alloc (.cells #[.map (some w.heap.size),.int .i64 (U:Nat),.int .i64 (room:Nat)] 174 (0,0))).drew):=by
 subst hU;refine ⟨⟨?_,HM _ ?_⟩,(((Ext.refl w).alloc _).alloc _).drew⟩
 ·have:=block_alloc_new (w.alloc (.map es clock)) (.cells #[.map (some w.heap.size),.int .i64 (usedL l:Nat),.int .i64 (room:Nat)] 174 (0,0));rw [size_alloc] at this;exact this
 ·show ((w.alloc (.map es clock)).alloc _).heap[w.heap.size]?=_
  rw [block_alloc_old (by rw [size_alloc];omega)];exact block_alloc_new _ _
set_option maxRecDepth 100000 in
set_option maxHeartbeats 2000000 in
theorem dclone_any (t m:Nat) (l:Nodes) (room:Nat) (w:World) (T:TreeAt w t m l room) :
  Calls prog 105 #[.pointer (some ⟨t,0,none⟩)] w
   fun e w'=>e=.returned (.pointer (some ⟨w.heap.size+1,0,none⟩))/\TreeAt w' (w.heap.size+1) w.heap.size l room/\Ext w w':=by
 obtain ⟨hnd,hsm,D,⟨es,clock,hb,hrest⟩,hread⟩:=T.map;have HC:=lh (AnyW.maps_Clone Tryz.mapsClone m es clock w.drew hb);have HM:=lh (show ∀ w2,w2.heap[w.heap.size]?=some (.map es clock)->MapL w2 w.heap.size l from fun w2 h=>⟨hnd,hsm,D,⟨es,clock,h,hrest⟩,hread⟩);have c0:w.cell? ⟨t,0,none⟩=some (.map (some m)):=cellB T.blk;have c1:w.cell? ⟨t,1,none⟩=some (.int .i64 (usedL l:Nat)):=cellB T.blk;have c2:w.cell? ⟨t,2,none⟩=some (.int .i64 (room:Nat)):=cellB T.blk;have hlt:=(lt_of_tree T).1;have HT:=lh T;clear T hnd hsm hrest hread hb;obtain ⟨U,hU⟩:∃ U,usedL l=U:=⟨_,rfl⟩;rw [hU] at c1;have HU:=lh hU;clear hU;go_enter func105,ntmps105;go_wp2_with fail;go_region_held (fun w'=>w'.cell? ⟨t,0,none⟩=some (.map (some m))/\w'.cell? ⟨t,1,none⟩=some (.int .i64 (U:Nat))/\w'.cell? ⟨t,2,none⟩=some (.int .i64 (room:Nat))) (go_keep) ((go_at_call 173;refine (HC.out).mono ?_;rintro e w1 ⟨rfl,rfl⟩));go_wp2_with fail;go_ret;exact ⟨rfl,clone_end HM.out HU.out⟩
set_option maxHeartbeats 800000 in
theorem TreeAt.fresh (w:World) (room:Nat):TreeAt ((w.alloc (.map #[] 0)).alloc (.cells #[.map (some w.heap.size),.int .i64 0,.int .i64 (room:Nat)] 174 (0,0))) (w.heap.size+1) w.heap.size [] room:=by
 refine ⟨?_,(MapL.made w).ext ((Ext.refl _).alloc _)⟩;have:=block_alloc_new (w.alloc (.map #[] 0)) (.cells #[.map (some w.heap.size),.int .i64 0,.int .i64 (room:Nat)] 174 (0,0));rw [size_alloc] at this;exact this
end
section
def EffAt (w:World) (B:List Nat) (v:Value):Eff->Prop
 | .write p d t=>∃ b1 b2 b3,v=.func (.func 114) #[] #[.pointer (some ⟨b1,0,none⟩),.pointer (some ⟨b2,0,none⟩),.pointer (some ⟨b3,0,none⟩)]/\b1∈B/\b2∈B/\b3∈B /\
   w.cell? ⟨b1,0,none⟩=some (.string p)/\w.cell? ⟨b2,0,none⟩=some (.string d)/\w.cell? ⟨b3,0,none⟩=some (.int .i64 t)
 | .add _ _=>False
 | .mkdir p=>∃ b1,v=.func (.func 117) #[] #[.pointer (some ⟨b1,0,none⟩)]/\b1∈B/\w.cell? ⟨b1,0,none⟩=some (.string p)
 | .link p g t=>∃ b1 b2,v=.func (.func 121) #[] #[.pointer (some ⟨b1,0,none⟩),.pointer (some ⟨b2,0,none⟩)]/\b1∈B/\b2∈B/\w.cell? ⟨b1,0,none⟩=some (.string p) /\
   w.cell? ⟨b2,0,none⟩=some (.int .i64 3)/\w.cell? ⟨b2,1,none⟩=some (.string ⟨#[]⟩)/\w.cell? ⟨b2,2,none⟩=some (.string g)/\w.cell? ⟨b2,3,none⟩=some (.int .i64 t)
 | .rename _ _=>False
 | .remove p=>∃ b1,v=.func (.func 185) #[] #[.pointer (some ⟨b1,0,none⟩)]/\b1∈B/\w.cell? ⟨b1,0,none⟩=some (.string p)
theorem EffAt.turn {w w':World} {B B':List Nat} {v:Value} {x:Eff} (h:EffAt w B v x) (hB:∀ b∈B,b∈B') (hk:∀ b∈B,b<w.heap.size->w'.heap[b]?=w.heap[b]?):EffAt w' B' v x:=by
 have key:∀ (b o:Nat) (u:Value),b∈B->w.cell? ⟨b,o,none⟩=some u->w'.cell? ⟨b,o,none⟩=some u:=fun b o u hb hc=>(World.cell?_of_block (hk b hb (lt_of_cell hc))).trans hc
 cases x with
 | write p d t =>
  obtain ⟨b1,b2,b3,hv,m1,m2,m3,c1,c2,c3⟩:=h;exact ⟨b1,b2,b3,hv,hB _ m1,hB _ m2,hB _ m3,key _ _ _ m1 c1,key _ _ _ m2 c2,key _ _ _ m3 c3⟩
 | add p d =>
  exact h.elim
 | mkdir p =>
  obtain ⟨b1,hv,m1,c1⟩:=h;exact ⟨b1,hv,hB _ m1,key _ _ _ m1 c1⟩
 | link p g t =>
  obtain ⟨b1,b2,hv,m1,m2,c1,c2,c3,c4,c5⟩:=h;exact ⟨b1,b2,hv,hB _ m1,hB _ m2,key _ _ _ m1 c1,key _ _ _ m2 c2,key _ _ _ m2 c3,key _ _ _ m2 c4,key _ _ _ m2 c5⟩
 | rename p q =>
  exact h.elim
 | remove p =>
  obtain ⟨b1,hv,m1,c1⟩:=h;exact ⟨b1,hv,hB _ m1,key _ _ _ m1 c1⟩
theorem cutTo_is (most:Nat) (d:ByteArray):d.extract 0 (min (most:Int) (d.size:Int)).toNat=cutTo most d:=by
 unfold cutTo;rw [show (min (most:Int) (d.size:Int)).toNat=min most d.size from by omega]
theorem cutTo_le (most:Nat) (d:ByteArray):(cutTo most d).size<=most:=by unfold cutTo;simp;omega
structure Ready (w:World) (t m:Nat) (l:Nodes) (room:Nat):Prop where
 env:Env w
 tree:TreeAt w t m l room
 ok:TreeOk l room
 room:room<=1048576
def EffPost (t m:Nat) (l:Nodes) (room most:Nat) (x:Eff) (w:World) (e:Ending) (w':World):Prop :=
 e=.returned (.int .i64 (effE l room most x).1)/\TreeAt w' t m (effE l room most x).2 room/\Chg [t,m] w w'
set_option maxRecDepth 100000 in
set_option maxHeartbeats 2000000 in
theorem ewrite_any (t m:Nat) (l:Nodes) (room most:Nat) (p d:ByteArray) (tm:Int) (w:World) (R:Ready w t m l room) (hm:most<=1048576) (hp:p.size<=160) (hd:d.size<=4611686018427387904) (b1 b2 b3:Nat) (c1:w.cell? ⟨b1,0,none⟩=some (.string p)) (c2:w.cell? ⟨b2,0,none⟩=some (.string d)) (c3:w.cell? ⟨b3,0,none⟩=some (.int .i64 tm)) :
  Calls prog 114 #[.pointer (some ⟨t,0,none⟩),.int .i64 (most:Nat),.pointer (some ⟨b1,0,none⟩),.pointer (some ⟨b2,0,none⟩),.pointer (some ⟨b3,0,none⟩)] w (EffPost t m l room most (.write p d tm) w):=by
 have hle:=cutTo_le most d;have HCUT:=cutTo_is most d;have H:=fun (x:After w)=>lh (dwrite_any t m l room p (cutTo most d) tm x.v (R.env.ext x.x) (R.tree.ext x.x) R.ok R.room hp (by omega));have HP:=lh (show ∀ e w',EffPost t m l room most (.write p d tm) w e w'↔(e=.returned (.int .i64 (writeE l room p (cutTo most d) tm).1)/\TreeAt w' t m (writeE l room p (cutTo most d) tm).2 room/\Chg [t,m] w w') from fun e w'=>Iff.rfl);have d1:=After.cell c1;have d2:=After.cell c2;have d3:=After.cell c3;have hmin:0<=min (most:Int) (d.size:Int)/\min (most:Int) (d.size:Int)<=d.size:=by omega
 obtain ⟨hmin1,hmin2⟩:=hmin;generalize cutTo most d=q at *;generalize writeE l room p q tm=P at *;clear R;go_enter func114,ntmps114;go_wp2_with fail;refine wp_region_after_tail 9 (by kernel_rfl) (by kernel_rfl) ?_;simp only [List.take_succ_cons,List.take_zero,List.drop_succ_cons,List.drop_zero]
 repeat (go_big_quiet_step (fail))
 refine wpQuiet_nil ?_;rintro _ ⟨y,rfl⟩;go_wp2_with fail;refine (H y).out.mono ?_;rintro e w4 ⟨rfl,t4,x4⟩;have HF:=lh ((HP.out _ _).2 ⟨rfl,t4,Chg.from_ext y.x x4⟩);clear t4 x4;go_wp2_with fail;go_ret;exact HF.out
set_option maxRecDepth 100000 in
set_option maxHeartbeats 2000000 in
theorem emkdir_any (t m:Nat) (l:Nodes) (room most:Nat) (p:ByteArray) (w:World) (R:Ready w t m l room) (hp:p.size<=160) (b1:Nat) (c1:w.cell? ⟨b1,0,none⟩=some (.string p)) :
  Calls prog 117 #[.pointer (some ⟨t,0,none⟩),.int .i64 (most:Nat),.pointer (some ⟨b1,0,none⟩)] w (EffPost t m l room most (.mkdir p) w):=by
 have H:=lh (dlay_any t m l room p 2 0 ⟨#[]⟩ ⟨#[]⟩ w R.env R.tree R.ok R.room hp (by decide));have HP:=lh (show ∀ e w',EffPost t m l room most (.mkdir p) w e w'↔(e=.returned (.int .i64 (layE l room p ⟨2,⟨#[]⟩,⟨#[]⟩,0⟩).1)/\TreeAt w' t m (layE l room p ⟨2,⟨#[]⟩,⟨#[]⟩,0⟩).2 room/\Chg [t,m] w w') from fun e w'=>Iff.rfl);generalize layE l room p ⟨2,⟨#[]⟩,⟨#[]⟩,0⟩=P at *;clear R;go_enter func117,ntmps117;go_wp2_with fail;refine H.out.mono ?_;rintro e w4 ⟨rfl,t4,x4⟩;have HF:=lh ((HP.out _ _).2 ⟨rfl,t4,x4⟩);clear t4 x4;go_wp2_with fail;go_ret;exact HF.out
set_option maxRecDepth 100000 in
set_option maxHeartbeats 2000000 in
theorem elink_any (t m:Nat) (l:Nodes) (room most:Nat) (p g:ByteArray) (tm:Int) (w:World) (R:Ready w t m l room) (hp:p.size<=160) (b1 b2:Nat) (c1:w.cell? ⟨b1,0,none⟩=some (.string p)) (k0:w.cell? ⟨b2,0,none⟩=some (.int .i64 3)) (k1:w.cell? ⟨b2,1,none⟩=some (.string ⟨#[]⟩)) (k2:w.cell? ⟨b2,2,none⟩=some (.string g)) (k3:w.cell? ⟨b2,3,none⟩=some (.int .i64 tm)) :
  Calls prog 121 #[.pointer (some ⟨t,0,none⟩),.int .i64 (most:Nat),.pointer (some ⟨b1,0,none⟩),.pointer (some ⟨b2,0,none⟩)] w (EffPost t m l room most (.link p g tm) w):=by
 have H:=lh (dlay_any t m l room p 3 tm ⟨#[]⟩ g w R.env R.tree R.ok R.room hp (by decide));have HP:=lh (show ∀ e w',EffPost t m l room most (.link p g tm) w e w'↔(e=.returned (.int .i64 (layE l room p ⟨3,⟨#[]⟩,g,tm⟩).1)/\TreeAt w' t m (layE l room p ⟨3,⟨#[]⟩,g,tm⟩).2 room/\Chg [t,m] w w') from fun e w'=>Iff.rfl);generalize layE l room p ⟨3,⟨#[]⟩,g,tm⟩=P at *;clear R;go_enter func121,ntmps121;go_wp2_with fail;refine H.out.mono ?_;rintro e w4 ⟨rfl,t4,x4⟩;have HF:=lh ((HP.out _ _).2 ⟨rfl,t4,x4⟩);clear t4 x4;go_wp2_with fail;go_ret;exact HF.out
set_option maxRecDepth 100000 in
set_option maxHeartbeats 2000000 in
theorem eremove_any (t m:Nat) (l:Nodes) (room most:Nat) (p:ByteArray) (w:World) (R:Ready w t m l room) (hp:p.size<=160) (b1:Nat) (c1:w.cell? ⟨b1,0,none⟩=some (.string p)) :
  Calls prog 185 #[.pointer (some ⟨t,0,none⟩),.int .i64 (most:Nat),.pointer (some ⟨b1,0,none⟩)] w (EffPost t m l room most (.remove p) w):=by
 have H:=lh (dremove_any t m l room p w R.env R.tree R.ok R.room hp);have HP:=lh (show ∀ e w',EffPost t m l room most (.remove p) w e w'↔(e=.returned (.int .i64 (removeE l p).1)/\TreeAt w' t m (removeE l p).2 room/\Chg [t,m] w w') from fun e w'=>Iff.rfl);generalize removeE l p=P at *;clear R;go_enter func185,ntmps185;go_wp2_with fail;refine H.out.mono ?_;rintro e w4 ⟨rfl,t4,x4⟩;have HF:=lh ((HP.out _ _).2 ⟨rfl,t4,x4⟩);clear t4 x4;go_wp2_with fail;go_ret;exact HF.out
theorem enters_write:Enters prog 114:=enters_of (fn:=Tryz.f114) (by kernel_rfl) (by kernel_rfl) rfl
theorem enters_mkdir:Enters prog 117:=enters_of (fn:=Tryz.f117) (by kernel_rfl) (by kernel_rfl) rfl
theorem enters_link:Enters prog 121:=enters_of (fn:=Tryz.f121) (by kernel_rfl) (by kernel_rfl) rfl
theorem enters_remove:Enters prog 185:=enters_of (fn:=Tryz.f185) (by kernel_rfl) (by kernel_rfl) rfl
def Eff.few:Eff->Prop
 | .write _ d _=>d.size<=4611686018427387904
 | .add _ d=>d.size<=4611686018427387904
 | _=>True
theorem eff_shape {w:World} {B:List Nat} {v:Value} {x:Eff} (h:EffAt w B v x):∃ F cap,v=.func (.func F) #[] cap:=by
 cases x <;> (first | exact h.elim | (obtain ⟨_,_,_,rfl,_⟩:=h;exact ⟨_,_,rfl⟩) | (obtain ⟨_,_,rfl,_⟩:=h;exact ⟨_,_,rfl⟩) | (obtain ⟨_,rfl,_⟩:=h;exact ⟨_,_,rfl⟩))
theorem eff_calls {w:World} {B:List Nat} {F:FuncId} {cap:Array Value} {x:Eff} (h:EffAt w B (.func (.func F) #[] cap) x) (hx:EffOk x) (hf:x.few) {t m:Nat} {l:Nodes} {room most:Nat} (R:Ready w t m l room) (hm:most<=1048576) :
  Enters prog F/\Calls prog F (#[.pointer (some ⟨t,0,none⟩),.int .i64 (most:Nat)]++cap) w (EffPost t m l room most x w):=by
 cases x with
 | write p d tm =>
  obtain ⟨b1,b2,b3,hv,_,_,_,c1,c2,c3⟩:=h
  cases hv
  exact ⟨enters_write,ewrite_any t m l room most p d tm w R hm (mayB_size (hx.paths p (by simp [Eff.paths]))) hf b1 b2 b3 c1 c2 c3⟩
 | add p d =>
  exact h.elim
 | mkdir p =>
  obtain ⟨b1,hv,_,c1⟩:=h
  cases hv
  exact ⟨enters_mkdir,emkdir_any t m l room most p w R (mayB_size (hx.paths p (by simp [Eff.paths]))) b1 c1⟩
 | link p g tm =>
  obtain ⟨b1,b2,hv,_,_,c1,k0,k1,k2,k3⟩:=h
  cases hv
  exact ⟨enters_link,elink_any t m l room most p g tm w R (mayB_size (hx.paths p (by simp [Eff.paths]))) b1 b2 c1 k0 k1 k2 k3⟩
 | rename p q =>
  exact h.elim
 | remove p =>
  obtain ⟨b1,hv,_,c1⟩:=h
  cases hv
  exact ⟨enters_remove,eremove_any t m l room most p w R (mayB_size (hx.paths p (by simp [Eff.paths]))) b1 c1⟩
end
section
def rowB (v:Value):List Nat:=match v.ownBlock with | some b=>[b] | none=>[]
theorem mem_rowB {v:Value} {b:Nat}:b∈rowB v↔v.ownBlock=some b:=by
 unfold rowB
 cases v.ownBlock with
 | none=>simp
 | some c=>simp [eq_comm]
def Sub (w:World) (A A':List Nat):Prop:=∀ b∈A',b∈A\/w.heap.size<=b
theorem Sub.refl (w:World) (A:List Nat):Sub w A A:=fun _ h=>.inl h
structure DkIn (w:World) (d lt lm st sm:Nat) (lg:Value) (vs:List Value) (I:List Nat) (D:Dk):Prop where
 blk:w.heap[d]?=some (.cells #[.pointer (some ⟨lt,0,none⟩),.pointer (some ⟨st,0,none⟩),lg,.bool D.fused,.int .i64 D.left] 178 (0,0))
 live:TreeAt w lt lm D.live D.room
 lasts:TreeAt w st sm D.lasts D.room
 log:w.ownsRow 0 238 1 lg D.log.length vs
 effs:∀ (k:Nat) v x,vs[k]?=some v->D.log[k]?=some x->EffAt w I v x/\x.few
 nd:[d,lt,lm,st,sm].Nodup
 lgne:∀ b,lg.ownBlock=some b->b∉[d,lt,lm,st,sm]
 imm:∀ b∈I,b∉[d,lt,lm,st,sm]/\lg.ownBlock≠some b/\b<w.heap.size
def DkAt (w:World) (d:Nat) (M I:List Nat) (D:Dk):Prop:=∃ lt lm st sm lg vs,DkIn w d lt lm st sm lg vs I D/\M=[d,lt,lm,st,sm]++rowB lg
structure DkStep (w:World) (M I:List Nat) (w':World) (M' I':List Nat):Prop where
 chg:Chg M w w'
 m:Sub w M M'
 i:Sub w I I'
theorem DkStep.of_ext {w w':World} (x:Ext w w') (M I:List Nat):DkStep w M I w' M I:=⟨x.chg _,Sub.refl _ _,Sub.refl _ _⟩
theorem DkStep.ext {w0 w w':World} {M I M' I':List Nat} (h:DkStep w M I w' M' I') (x:Ext w0 w) (hM:∀ b∈M,w0.heap.size<=b):Ext w0 w'/\∀ b∈M',w0.heap.size<=b :=
 ⟨h.chg.ext x hM,fun b hb=>(h.m b hb).elim (hM b) fun hge=>Nat.le_trans x.size hge⟩
theorem own_lt {w:World} {base k n:Nat} {e:TypeId} {v:Value} {xs:List Value} (h:w.ownsRow base e k v n xs):∀ b,v.ownBlock=some b->b<w.heap.size:=by
 intro b hb;rcases h.2 with ⟨rfl,_⟩ | ⟨g,cap,cur,rfl,_,hh,_⟩
 ·simp [Value.ownBlock] at hb
 ·simp [Value.ownBlock] at hb;subst hb;exact ltB hh
theorem DkAt.lt {w:World} {d:Nat} {M I:List Nat} {D:Dk} (h:DkAt w d M I D):(∀ b∈M,b<w.heap.size)/\∀ b∈I,b<w.heap.size:=by
 obtain ⟨lt,lm,st,sm,lg,vs,h,rfl⟩:=h;refine ⟨fun b hb=>?_,fun b hb=>(h.imm b hb).2.2⟩;rcases List.mem_append.1 hb with hb | hb
 ·have h1:=lt_of_tree h.live;have h2:=lt_of_tree h.lasts;simp only [List.mem_cons,List.not_mem_nil,or_false] at hb;rcases hb with rfl | rfl | rfl | rfl | rfl
  ·exact ltB h.blk
  ·exact h1.1
  ·exact h1.2
  ·exact h2.1
  ·exact h2.2
 ·exact own_lt h.log b (mem_rowB.1 hb)
theorem owns_blocks {w w':World} {base k:Nat} {e:TypeId} {v:Value} {n:Nat} {xs:List Value} (h:w.ownsRow base e k v n xs) (hk:∀ b,v.ownBlock=some b->w'.heap[b]?=w.heap[b]?):w'.ownsRow base e k v n xs:=by
 refine ⟨h.1,?_⟩;rcases h.2 with h1 | ⟨g,cap,cur,hv,hg,hh,hr⟩
 ·exact .inl h1
 ·exact .inr ⟨g,cap,cur,hv,hg,(hk g (by rw [hv];rfl)).trans hh,hr⟩
theorem DkAt.kept {w w':World} {d:Nat} {M I:List Nat} {D:Dk} (h:DkAt w d M I D) (hs:w.heap.size<=w'.heap.size) (hk:∀ b,b<w.heap.size->b∈M\/b∈I->w'.heap[b]?=w.heap[b]?):DkAt w' d M I D:=by
 have hlt:=h.lt;obtain ⟨lt,lm,st,sm,lg,vs,h,rfl⟩:=h;have hm:∀ b,b∈[d,lt,lm,st,sm]->w'.heap[b]?=w.heap[b]?:=fun b hb=>hk b (hlt.1 b (List.mem_append.2 (.inl hb))) (.inl (List.mem_append.2 (.inl hb)));refine ⟨lt,lm,st,sm,lg,vs,⟨(hm d (by simp)).trans h.blk,h.live.kept (hm lt (by simp)) (hm lm (by simp)),h.lasts.kept (hm st (by simp)) (hm sm (by simp)),owns_blocks h.log fun b hb=>hk b (own_lt h.log b hb) (.inl (List.mem_append.2 (.inr (mem_rowB.2 hb)))),fun k v x h1 h2=>?_,h.nd,h.lgne,fun b hb=>⟨(h.imm b hb).1,(h.imm b hb).2.1,Nat.lt_of_lt_of_le (h.imm b hb).2.2 hs⟩⟩,rfl⟩;obtain ⟨h3,h4⟩:=h.effs k v x h1 h2;exact ⟨h3.turn (fun _ hb=>hb) fun b hb hl=>hk b hl (.inr hb),h4⟩
theorem DkAt.ext {w w':World} {d:Nat} {M I:List Nat} {D:Dk} (h:DkAt w d M I D) (x:Ext w w'):DkAt w' d M I D:=h.kept x.size fun _ hb _=>x.block hb
structure Apart (M I M2 I2:List Nat):Prop where
 mm:∀ b∈M,b∉M2
 mi:∀ b∈M,b∉I2
 im:∀ b∈I,b∉M2
theorem Apart.symm {M I M2 I2:List Nat} (h:Apart M I M2 I2):Apart M2 I2 M I:=⟨fun b hb hb2=>h.mm b hb2 hb,fun b hb hb2=>h.im b hb2 hb,fun b hb hb2=>h.mi b hb2 hb⟩
theorem Apart.step {w w':World} {M I M' I' M2 I2:List Nat} (h:Apart M I M2 I2) (k:DkStep w M I w' M' I') (h1:∀ b∈M2,b<w.heap.size) (h2:∀ b∈I2,b<w.heap.size):Apart M' I' M2 I2 :=
 ⟨fun b hb hb2=>(k.m b hb).elim (fun hm=>h.mm b hm hb2) fun hge=>absurd (h1 b hb2) (Nat.not_lt.2 hge),fun b hb hb2=>(k.m b hb).elim (fun hm=>h.mi b hm hb2) fun hge=>absurd (h2 b hb2) (Nat.not_lt.2 hge),
  fun b hb hb2=>(k.i b hb).elim (fun hm=>h.im b hm hb2) fun hge=>absurd (h1 b hb2) (Nat.not_lt.2 hge)⟩
theorem dis_any (d:Nat) (a:Addr) (w:World) (h:w.cell? ⟨d,0,none⟩=some (.pointer (some a))) :
  Calls prog 87 #[.pointer (some ⟨d,0,none⟩)] w fun e w'=>e=.returned (.bool true)/\w'=w:=by
 go_enter func87,ntmps87;go_wp2_with fail;go_ret;exact ⟨rfl,rfl⟩
set_option maxHeartbeats 800000 in
theorem doff_at (d:Nat) (a:Addr) (fused:Bool) (left:Int) (w:World) (h:w.cell? ⟨d,0,none⟩=some (.pointer (some a))) (h3:w.cell? ⟨d,3,none⟩=some (.bool fused)) (h4:w.cell? ⟨d,4,none⟩=some (.int .i64 left)) :
  Calls prog 187 #[.pointer (some ⟨d,0,none⟩)] w fun e w'=>e=.returned (.bool (fused&&decide (left=0)))/\w'=w:=by
 have H:=lh (dis_any d a w h);clear h
 cases fused with
 | false =>
  go_enter func187,ntmps187;go_wp2_with fail;refine H.out.mono ?_;rintro e w1 ⟨rfl,hw1⟩;obtain rfl:=hw1.symm;go_wp2_with fail;go_ret;exact ⟨rfl,rfl⟩
 | true =>
  have HR:=lh (show (true&&decide (left=0))=(left==0) from by rw [Bool.true_and];rfl)
  cases hl:(left==0)
  ·go_enter func187,ntmps187;go_wp2_with fail;refine H.out.mono ?_;rintro e w1 ⟨rfl,hw1⟩;obtain rfl:=hw1.symm;go_wp2_with fail;go_ret;exact ⟨ret_bool (by rw [HR.out,hl]),rfl⟩
  ·go_enter func187,ntmps187;go_wp2_with fail;refine H.out.mono ?_;rintro e w1 ⟨rfl,hw1⟩;obtain rfl:=hw1.symm;go_wp2_with fail;go_ret;exact ⟨ret_bool (by rw [HR.out,hl]),rfl⟩
theorem dclock_any (t:Int) (w:World):Calls prog 116 #[.int .i64 t] w fun e w'=>e=.returned (.bool (clockB t))/\w'=w:=by
 unfold clockB;by_cases h0:0<=t
 ·by_cases h1:t<=4294967295
  ·have d0:decide (0<=t)=true:=by simpa using h0
   have d1:decide (t<=4294967295)=true:=by simpa using h1
   rw [d0,d1];go_enter func116,ntmps116;go_wp2_with fail;go_ret;exact ⟨rfl,rfl⟩
  ·have d0:decide (0<=t)=true:=by simpa using h0
   have d1:decide (t<=4294967295)=false:=by simpa using h1
   rw [d0,d1];go_enter func116,ntmps116;go_wp2_with fail;go_ret;exact ⟨rfl,rfl⟩
 ·have d0:decide (0<=t)=false:=by simpa using h0
  rw [d0,Bool.false_and];go_enter func116,ntmps116;go_wp2_with fail;go_ret;exact ⟨rfl,rfl⟩
end
section
theorem el_effect:Elem prog 176 238 .nilFunc 8:=⟨by kernel_rfl,by kernel_rfl,rfl,by decide⟩
structure DkFit (D:Dk):Prop where
 ok:DkOk D
 len:D.log.length<=1073741824
 lo:-4611686018427387904<=D.left
 hi:D.left<=9223372036854775807
def ActPost (w:World) (d:Nat) (M I:List Nat) (R:Int×Dk) (e:Ending) (w':World):Prop :=
 e=.returned (.int .i64 R.1)/\∃ M' I',DkAt w' d M' I' R.2/\DkStep w M I w' M' I'
theorem ActPost.still {w w':World} {d:Nat} {M I:List Nat} {D:Dk} {R:Int×Dk} {n:Int} (h:DkAt w d M I D) (x:Ext w w') (hR:R=(n,D)):ActPost w d M I R (.returned (.int .i64 n)) w':=by
 subst hR;exact ⟨rfl,M,I,h.ext x,DkStep.of_ext x M I⟩
theorem act_fail {w w3 w4:World} {d lt lm st sm:Nat} {lg:Value} {vs:List Value} {I:List Nat} {D:Dk} {R:Int×Dk} {n:Int} {l:Nodes} (h:DkIn w d lt lm st sm lg vs I D) (x:Ext w w3) (t4:TreeAt w4 lt lm l D.room) (c4:Chg [lt,lm] w3 w4) (hl:l=D.live) (hR:R=(n,D)) :
  ActPost w d ([d,lt,lm,st,sm]++rowB lg) I R (.returned (.int .i64 n)) w4/\Chg ([d,lt,lm,st,sm]++rowB lg) w3 w4:=by
 subst hR;subst hl;have hd:DkAt w d ([d,lt,lm,st,sm]++rowB lg) I D:=⟨lt,lm,st,sm,lg,vs,h,rfl⟩;have hlt:=hd.lt;have hnd:=h.nd;simp only [List.nodup_cons,List.mem_cons,List.not_mem_nil,not_or,or_false] at hnd;obtain ⟨⟨n1,n2,n3,n4⟩,⟨_,n5,n6⟩,⟨n7,n8⟩,_⟩:=hnd;have key:∀ b,b<w.heap.size->b≠lt->b≠lm->w4.heap[b]?=w.heap[b]?:=fun b hb h1 h2=>(c4.block b (Nat.lt_of_lt_of_le hb x.size) (by simp [h1,h2])).trans (x.block hb);have l1:=lt_of_tree h.live;have l2:=lt_of_tree h.lasts;refine ⟨⟨rfl,_,I,⟨lt,lm,st,sm,lg,vs,⟨(key d (ltB h.blk) n1 n2).trans h.blk,t4,h.lasts.kept (key st l2.1 (Ne.symm n5) (Ne.symm n7)) (key sm l2.2 (Ne.symm n6) (Ne.symm n8)),owns_blocks h.log fun b hb=>key b (own_lt h.log b hb) (fun e=>h.lgne b hb (by simp [e])) (fun e=>h.lgne b hb (by simp [e])),fun k v y h1 h2=>?_,h.nd,h.lgne,fun b hb=>?_⟩,rfl⟩,⟨?_,Sub.refl _ _,Sub.refl _ _⟩⟩,c4.mono fun b hb=>by simp at hb;rcases hb with rfl | rfl <;> simp⟩
 ·obtain ⟨h3,h4⟩:=h.effs k v y h1 h2;exact ⟨h3.turn (fun _ hb=>hb) fun b hb hl=>key b hl (fun e=>(h.imm b hb).1 (by simp [e])) (fun e=>(h.imm b hb).1 (by simp [e])),h4⟩
 ·exact ⟨(h.imm b hb).1,(h.imm b hb).2.1,Nat.lt_of_lt_of_le (h.imm b hb).2.2 (Nat.le_trans x.size c4.size)⟩
 ·exact Chg.from_ext x (c4.mono fun b hb=>by simp at hb;rcases hb with rfl | rfl <;> simp)
theorem act_done {w w3 w4 w5:World} {o:Obj} {d lt lm st sm:Nat} {lg lg':Value} {vs:List Value} {I B:List Nat} {D:Dk} {R:Int×Dk} {l:Nodes} {x:Eff} {v:Value} (h:DkIn w d lt lm st sm lg vs I D) (xt:Ext w w3) (t4:TreeAt w4 lt lm l D.room) (c4:Chg [lt,lm] w3 w4)
  (he:EffAt w3 B v x) (hB:∀ b∈B,w.heap.size<=b/\b<w3.heap.size) (hf:x.few)
  (hown:w5.ownsRow 0 238 1 lg' (D.log.length+1) (vs++[v])) (hg:(w4.alloc o).grownBy w5 lg.ownBlock) (hw:lg'.ownBlock=lg.ownBlock\/lg'.ownBlock=some (w4.heap.size+1))
  (hR:R=(0,{ D with live:=l,log:=D.log++[x],left:=D.left - 1 })) :
  ActPost w d ([d,lt,lm,st,sm]++rowB lg) I R (.returned (.int .i64 0)) ((w5.setCell ⟨d,2,none⟩ lg').setCell ⟨d,4,none⟩ (.int .i64 (D.left - 1))) /\
  Chg ([d,lt,lm,st,sm]++rowB lg) w3 ((w5.setCell ⟨d,2,none⟩ lg').setCell ⟨d,4,none⟩ (.int .i64 (D.left - 1))):=by
 subst hR;have hd:DkAt w d ([d,lt,lm,st,sm]++rowB lg) I D:=⟨lt,lm,st,sm,lg,vs,h,rfl⟩;have hnd:=h.nd;simp only [List.nodup_cons,List.mem_cons,List.not_mem_nil,not_or,or_false] at hnd;obtain ⟨⟨n1,n2,n3,n4⟩,⟨_,n5,n6⟩,⟨n7,n8⟩,_⟩:=hnd;have hs4:w.heap.size<=w4.heap.size:=Nat.le_trans xt.size c4.size;have hs5:w4.heap.size+1<=w5.heap.size:=by have:=hg.size;rwa [size_alloc] at this
 have key4:∀ b,b<w.heap.size->b≠lt->b≠lm->w4.heap[b]?=w.heap[b]?:=fun b hb h1 h2=>(c4.block b (Nat.lt_of_lt_of_le hb xt.size) (by simp [h1,h2])).trans (xt.block hb);have key5:∀ b,b<w4.heap.size->lg.ownBlock≠some b->w5.heap[b]?=w4.heap[b]?:=fun b hb hn=>(hg.block b (by rw [size_alloc];omega) (Ne.symm hn)).trans (block_alloc_old hb);have hlg:∀ b,b∈[d,lt,lm,st,sm]->lg.ownBlock≠some b:=fun b hb e=>h.lgne b e hb;have keyN:∀ b,b≠d->((w5.setCell ⟨d,2,none⟩ lg').setCell ⟨d,4,none⟩ (.int .i64 (D.left - 1))).heap[b]?=w5.heap[b]?:=fun b hb=>(setCellO hb).trans (setCellO hb);have l1:=lt_of_tree h.live;have l2:=lt_of_tree h.lasts;have l4:=lt_of_tree t4;have hdl:=ltB h.blk;have hlg':∀ b,lg'.ownBlock=some b->lg.ownBlock=some b\/w.heap.size<=b:=fun b hb=>hw.elim (fun e=>.inl (e▸hb)) fun e=>.inr (by rw [e] at hb;have:=Option.some.inj hb;omega);have b5:w5.heap[d]?=some (.cells #[.pointer (some ⟨lt,0,none⟩),.pointer (some ⟨st,0,none⟩),lg,.bool D.fused,.int .i64 D.left] 178 (0,0)):=(key5 d (by omega) (hlg d (by simp))).trans ((key4 d hdl n1 n2).trans h.blk)
 have eold:∀ b,b<w.heap.size->b∉[d,lt,lm,st,sm]->lg.ownBlock≠some b->((w5.setCell ⟨d,2,none⟩ lg').setCell ⟨d,4,none⟩ (.int .i64 (D.left - 1))).heap[b]?=w.heap[b]?:=fun b hb hn hl=>by
  simp only [List.mem_cons,List.not_mem_nil,not_or,or_false] at hn;exact (keyN b hn.1).trans ((key5 b (by omega) hl).trans (key4 b hb hn.2.1 hn.2.2.1))
 have hBn:∀ b∈B,b∉[d,lt,lm,st,sm]/\lg.ownBlock≠some b:=fun b hb=>by
  have:=(hB b hb).1;exact ⟨fun hm=>by have:=hd.lt.1 b (List.mem_append.2 (.inl hm));omega,fun e=>by have:=own_lt h.log b e;omega⟩
 have enew:∀ b,b∈B->((w5.setCell ⟨d,2,none⟩ lg').setCell ⟨d,4,none⟩ (.int .i64 (D.left - 1))).heap[b]?=w3.heap[b]?:=fun b hb=>by
  obtain ⟨hn,hl⟩:=hBn b hb;simp only [List.mem_cons,List.not_mem_nil,not_or,or_false] at hn;have h3:=(hB b hb).2;exact (keyN b hn.1).trans ((key5 b (Nat.lt_of_lt_of_le h3 c4.size) hl).trans (c4.block b h3 (by simp [hn.2.1,hn.2.2.1])))
 have hs3:=xt.size;have hs34:=c4.size
 have hC3:Chg ([d,lt,lm,st,sm]++rowB lg) w3 ((w5.setCell ⟨d,2,none⟩ lg').setCell ⟨d,4,none⟩ (.int .i64 (D.left - 1))):=by
  have c5:Chg (rowB lg) (w4.alloc o) w5:=Chg.grownO hg fun b hb=>.inl (mem_rowB.2 hb);have c3:Chg ([d,lt,lm,st,sm]++rowB lg) w3 w4:=c4.mono fun b hb=>by simp at hb;rcases hb with rfl | rfl <;> simp
  have c6:=((c3.alloc o).trans c5 fun b hb=>.inl (List.mem_append.2 (.inr hb))).trans (Chg.setCell (F:=[d]) w5 ⟨d,2,none⟩ lg' (by simp)) fun b hb=>.inl (by simp at hb;simp [hb]);exact c6.trans (Chg.setCell (F:=[d]) _ ⟨d,4,none⟩ _ (by simp)) fun b hb=>.inl (by simp at hb;simp [hb])
 refine ⟨⟨rfl,[d,lt,lm,st,sm]++rowB lg',I++B,⟨lt,lm,st,sm,lg',vs++[v],⟨?_,?_,?_,?_,fun k u y h1 h2=>?_,h.nd,fun b hb=>?_,fun b hb=>?_⟩,rfl⟩,⟨?_,fun b hb=>?_,fun b hb=>?_⟩⟩,hC3⟩
 ·rw [setCellB (setCellB b5)];rfl
 ·exact t4.kept ((keyN lt (Ne.symm n1)).trans (key5 lt l4.1 (hlg lt (by simp)))) ((keyN lm (Ne.symm n2)).trans (key5 lm l4.2 (hlg lm (by simp))))
 ·exact h.lasts.kept ((keyN st (Ne.symm n3)).trans ((key5 st (by omega) (hlg st (by simp))).trans (key4 st l2.1 (Ne.symm n5) (Ne.symm n7)))) ((keyN sm (Ne.symm n4)).trans ((key5 sm (by omega) (hlg sm (by simp))).trans (key4 sm l2.2 (Ne.symm n6) (Ne.symm n8))))
 ·rw [show ({ D with live:=l,log:=D.log++[x],left:=D.left - 1 }:Dk).log.length=D.log.length+1 from by simp]
  exact owns_blocks hown fun b hb=>keyN b fun e=>by
   subst e;rcases hlg' b hb with h9 | h9
   ·exact hlg b (by simp) h9
   ·omega
 ·have hlen:vs.length=D.log.length:=by have:=h.log.1;omega
  rcases Nat.lt_or_ge k vs.length with hk | hk
  ·rw [List.getElem?_append_left hk] at h1
   have h2':D.log[k]?=some y:=by
    have h2:(D.log++[x])[k]?=some y:=h2
    rwa [List.getElem?_append_left (by omega)] at h2
   obtain ⟨h3,h4⟩:=h.effs k u y h1 h2';exact ⟨h3.turn (fun b hb=>List.mem_append.2 (.inl hb)) fun b hb hl=>eold b hl (h.imm b hb).1 (h.imm b hb).2.1,h4⟩
  ·rw [List.getElem?_append_right hk] at h1;have h2:(D.log++[x])[k]?=some y:=h2;rw [List.getElem?_append_right (by omega)] at h2
   have k0:k - vs.length=0:=by
    have:=(List.getElem?_eq_some_iff.1 h1).1;simp at this;omega
   rw [k0] at h1;rw [show k - D.log.length=0 from by omega] at h2;simp at h1 h2;subst h1;subst h2;exact ⟨he.turn (fun b hb=>List.mem_append.2 (.inr hb)) fun b hb hl=>enew b hb,hf⟩
 ·intro hm;rcases hlg' b hb with h9 | h9
  ·exact h.lgne b h9 hm
  ·have:=hd.lt.1 b (List.mem_append.2 (.inl hm));omega
 ·rcases List.mem_append.1 hb with hb | hb
  ·have hbb:=h.imm b hb;refine ⟨hbb.1,fun e=>?_,?_⟩
   ·rcases hlg' b e with h9 | h9
    ·exact hbb.2.1 h9
    ·have:=hbb.2.2;omega
   ·have:=hbb.2.2;simp;omega
  ·obtain ⟨hn,hl⟩:=hBn b hb;have h3:=(hB b hb).2;refine ⟨hn,fun e=>?_,?_⟩
   ·rcases hw with h9 | h9
    ·exact hl (h9▸e)
    ·rw [h9] at e;have:=Option.some.inj e;omega
   ·simp;omega
 ·exact Chg.from_ext xt hC3
 ·rcases List.mem_append.1 hb with hb | hb
  ·exact .inl (List.mem_append.2 (.inl hb))
  ·rcases hlg' b (mem_rowB.1 hb) with h9 | h9
   ·exact .inl (List.mem_append.2 (.inr (mem_rowB.2 h9)))
   ·exact .inr h9
 ·rcases List.mem_append.1 hb with hb | hb
  ·exact .inl hb
  ·exact .inr (hB b hb).1
def ActPost2 (w0 w:World) (d:Nat) (M I:List Nat) (R:Int×Dk) (e:Ending) (w':World):Prop:=ActPost w0 d M I R e w'/\Chg M w w'
theorem ActPost2.still {w0 w w':World} {d:Nat} {M I:List Nat} {D:Dk} {R:Int×Dk} {n:Int} (h:DkAt w0 d M I D) (x0:Ext w0 w) (x:Ext w w') (hR:R=(n,D)):ActPost2 w0 w d M I R (.returned (.int .i64 n)) w':=⟨ActPost.still h (x0.trans x) hR,x.chg M⟩
end
section
set_option maxRecDepth 100000 in
set_option maxHeartbeats 4000000 in
theorem do_any {w0 w:World} {d:Nat} {M I:List Nat} {D:Dk} (h:DkAt w0 d M I D) (xw:Ext w0 w) (O:DkFit D) (E:Env w0) {B:List Nat} {F:FuncId} {cap:Array Value} {x:Eff} (he:EffAt w B (.func (.func F) #[] cap) x) (hB:∀ b∈B,w0.heap.size<=b/\b<w.heap.size) (hf:x.few)
  (r:Bool) (hr:x.right=r) (g n:Nat) (hn:x.paths.length=n) (hn4:n<=4) (hc:∀ (k:Nat) p,x.paths[k]?=some p->w.cell? ⟨g,k,none⟩=some (.string p)) (hz:∀ p∈x.paths,p.size<4294967281) :
  Calls prog 113 #[.pointer (some ⟨d,0,none⟩),.func (.func F) #[] cap,.bool r,.slice (some ⟨g,0,none⟩) n n] w (ActPost2 w0 w d M I (D.act x)):=by
 have HR:=lh (show D.act x=if D.off then (20,D) else if x.paths.all mayB then (if x.right then
  (if (effE D.live D.room full x).1=0 then (0,{ D with live:=(effE D.live D.room full x).2,log:=D.log++[x],left:=D.left - 1 }) else ((effE D.live D.room full x).1,D))
 else (2,D)) else (10,D) from rfl)
 have HD:=lh h;obtain ⟨lt,lm,st,sm,lg,vs,h,hM⟩:=h;have HI:=lh h;have HM:=lh hM;have HX:=lh xw;have hb:=(xw.block (ltB h.blk)).trans h.blk;have c0:w.cell? ⟨d,0,none⟩=some (.pointer (some ⟨lt,0,none⟩)):=cellB hb;have c3:w.cell? ⟨d,3,none⟩=some (.bool D.fused):=cellB hb;have c4:w.cell? ⟨d,4,none⟩=some (.int .i64 D.left):=cellB hb;have H1:=lh (dis_any d _ w c0);have H2:=lh (show Calls prog 187 #[.pointer (some ⟨d,0,none⟩)] w fun e w'=>e=.returned (.bool D.off)/\w'=w from doff_at d _ D.fused D.left w c0 c3 c4);have H3:=fun s w h E=>lh (may_any s w h E);have HE:=lh E;have HC:=lh hc;have HZ:=lh hz;have HRi:=lh hr;have HN:=lh hn;have HEf:=lh he;have HB:=lh hB;have HO:=lh O;have hdl:=ltB h.blk;clear h hM xw hb c0 c3 c4 hc hz hr hn E he hB O;generalize hAct:D.act x=R at *;clear hAct
 cases hoff:D.off with
 | true =>
  have HR2:=lh (HR.out.trans (if_pos hoff));rw [hoff] at H2;clear HR;go_enter func113,ntmps113;go_wp2_with fail;refine H1.out.mono ?_;rintro e w1 ⟨rfl,hw1⟩;obtain rfl:=hw1.symm;clear hw1;go_wp2_with fail;refine H2.out.mono ?_;rintro e w1 ⟨rfl,hw1⟩;obtain rfl:=hw1.symm;clear hw1;go_wp2_with fail;go_ret;exact ActPost2.still HD.out HX.out (Ext.refl _) HR2.out
 | false =>
  have HR2:=lh (HR.out.trans (if_neg (by rw [hoff];decide)));rw [hoff] at H2;clear HR
  cases hall:x.paths.all mayB with
  | false =>
   have HR3:=lh (HR2.out.trans (if_neg (by rw [hall];decide)));have HAL:=lh hall;clear HR2 hall;go_enter func113,ntmps113;go_wp2_with fail;refine H1.out.mono ?_;rintro e w1 ⟨rfl,hw1⟩;obtain rfl:=hw1.symm;clear hw1;go_wp2_with fail;refine H2.out.mono ?_;rintro e w1 ⟨rfl,hw1⟩;obtain rfl:=hw1.symm;clear hw1;go_wp2_with fail;go_loopw [21] (fun iv wr=>Hid (∃ k:Nat,k<=n/\iv=.int .i64 k/\(∀ p∈x.paths.take k,mayB p=true)/\Ext w wr)) (fun iv _=>n - (intOf iv).toNat)
   case atStart=>exact ⟨0,Nat.zero_le _,rfl,by simp,Ext.refl _⟩
   case round =>
    obtain ⟨k,hk,rfl,hak,hx⟩:=hrel.out;clear hrel;have HAK:=lh hak;have HXr:=lh hx;by_cases hlt2:k<n
    ·obtain ⟨p,hp⟩:∃ p,x.paths[k]?=some p:=⟨_,List.getElem?_eq_getElem (by rw [HN.out];exact hlt2)⟩;have c:=HC.out k p hp;have ck:=(hx.cell (lt_of_cell c)).trans c;have hm:=lh (H3 p wr (HZ.out p (List.mem_of_getElem? hp)) (HE.out.ext (HX.out.trans hx))).out;have HTK:=lh (show x.paths.take (k+1)=x.paths.take k++[p] from by rw [List.take_add_one,hp];rfl);clear hak hx c hp
     cases hmq:mayB p with
     | true =>
      rw [hmq] at hm;have HMQ:=lh hmq;clear hmq;go_wp2_with fail;refine hm.out.mono ?_;rintro e w5 ⟨rfl,x5⟩;have HX5:=lh (HXr.out.trans x5);clear x5;go_wp2_with fail;go_roundw
      case rel=>exact ⟨k+1,by omega,by go_num,fun q hq=>by
       rw [HTK.out] at hq;rcases List.mem_append.1 hq with h | h
       ·exact HAK.out q h
       ·simp at h;subst h;exact HMQ.out,HX5.out⟩
      case measure=>simp [intOf];omega
     | false =>
      rw [hmq] at hm;clear hmq;go_wp2_with fail;refine hm.out.mono ?_;rintro e w5 ⟨rfl,x5⟩;have HX5:=lh (HXr.out.trans x5);clear x5;go_wp2_with fail;go_ret;exact ActPost2.still HD.out HX.out HX5.out HR3.out
    ·exfalso;rw [List.take_of_length_le (by rw [HN.out];omega)] at hak;have:=List.all_eq_true.2 hak;rw [HAL.out] at this
     cases this
  | true =>
   have HR3:=lh (HR2.out.trans (if_pos hall));have HAL:=lh (List.all_eq_true.1 hall);clear HR2 hall;go_enter func113,ntmps113;go_wp2_with fail;refine H1.out.mono ?_;rintro e w1 ⟨rfl,hw1⟩;obtain rfl:=hw1.symm;clear hw1;go_wp2_with fail;refine H2.out.mono ?_;rintro e w1 ⟨rfl,hw1⟩;obtain rfl:=hw1.symm;clear hw1;go_wp2_with fail;go_loopw [21] (fun iv wr=>Hid (∃ k:Nat,k<=n/\iv=.int .i64 k/\Ext w wr)) (fun iv _=>n - (intOf iv).toNat)
   case atStart=>exact ⟨0,Nat.zero_le _,rfl,Ext.refl _⟩
   case round =>
    obtain ⟨k,hk,rfl,hx⟩:=hrel.out;clear hrel;have HXr:=lh hx;by_cases hlt2:k<n
    ·obtain ⟨p,hp⟩:∃ p,x.paths[k]?=some p:=⟨_,List.getElem?_eq_getElem (by rw [HN.out];exact hlt2)⟩;have c:=HC.out k p hp;have ck:=(hx.cell (lt_of_cell c)).trans c;have hm:=lh (H3 p wr (HZ.out p (List.mem_of_getElem? hp)) (HE.out.ext (HX.out.trans hx))).out;rw [HAL.out p (List.mem_of_getElem? hp)] at hm;clear hx c hp;go_wp2_with fail;refine hm.out.mono ?_;rintro e w5 ⟨rfl,x5⟩;have HX5:=lh (HXr.out.trans x5);clear x5;go_wp2_with fail;go_roundw
     case rel=>exact ⟨k+1,by omega,by go_num,HX5.out⟩
     case measure=>simp [intOf];omega
    ·obtain rfl:k=n:=by omega
     have nlt:decide ((k:Int)<(k:Int))=false:=by simp
     clear hk hlt2 hx
     cases r with
     | false =>
      have HR4:=lh (HR3.out.trans (if_neg (by rw [HRi.out];decide)));go_wp2_with fail;go_ret;exact ActPost2.still HD.out HX.out HXr.out HR4.out
     | true =>
      have HR4:=lh (HR3.out.trans (if_pos HRi.out));have hxw:=HX.out.trans HXr.out;have hxo:EffOk x:=⟨HAL.out,HRi.out⟩;have hb:=(hxw.block (ltB HI.out.blk)).trans HI.out.blk;have c0:wr.cell? ⟨d,0,none⟩=some (.pointer (some ⟨lt,0,none⟩)):=cellB hb;have hea:=HEf.out.turn (fun _ hb=>hb) fun b _ hl=>HXr.out.block hl;have hRd:Ready wr lt lm D.live D.room:=⟨HE.out.ext hxw,HI.out.live.ext hxw,HO.out.ok.live,HO.out.ok.r2⟩;obtain ⟨hen,hcall⟩:=eff_calls hea hxo hf hRd (most:=full) (by decide);have hen:∀ args W,(callFunc F args).run prog W=.ok (.enter F args) W:=hen;have HCall:=lh hcall;have HEa:=lh hea;have HXw:=lh hxw;have HBr:=lh (show ∀ b∈B,w0.heap.size<=b/\b<wr.heap.size from fun b hb=>⟨(HB.out b hb).1,Nat.lt_of_lt_of_le (HB.out b hb).2 HXr.out.size⟩);have HFail:=lh (effE_fail (l:=D.live) (room:=D.room) (most:=full) (x:=x));have hlen:=HO.out.len;have hlo:=HO.out.lo;have hhi:=HO.out.hi;clear hea hxo hRd hb hcall hxw nlt HEf HB HR3;go_wp2_with fail;refine HCall.out.mono ?_;rintro e w4 ⟨rfl,t4,x4⟩;have HT4:=lh t4;have HC4:=lh x4
      have hdw:w4.heap[d]?=some (.cells #[.pointer (some ⟨lt,0,none⟩),.pointer (some ⟨st,0,none⟩),lg,.bool D.fused,.int .i64 D.left] 178 (0,0)):=by
       have hnd:=HI.out.nd;simp only [List.nodup_cons,List.mem_cons,List.not_mem_nil,not_or,or_false] at hnd;exact (x4.block d (Nat.lt_of_lt_of_le hdl HXw.out.size) (by simp [hnd.1.1,hnd.1.2.1])).trans ((HXw.out.block hdl).trans HI.out.blk)
      have HDW:=lh hdw;have d2:w4.cell? ⟨d,2,none⟩=some lg:=cellB hdw;have hd4:d<w4.heap.size:=ltB hdw;clear t4 x4 hdw HCall hen c0;generalize hS:effE D.live D.room full x=S at *;obtain ⟨en,l4⟩:=S;by_cases hen0:en=0
      ·have HR5:=lh (HR4.out.trans (if_pos hen0));subst hen0
       have HOw:=lh (show w4.ownsRow 0 238 1 lg D.log.length vs from owns_blocks HI.out.log fun b hb=>by
        have hbl:=own_lt HI.out.log b hb
        exact (HC4.out.block b (Nat.lt_of_lt_of_le hbl HXw.out.size) (fun hm=>HI.out.lgne b hb (by simp at hm;rcases hm with rfl | rfl <;> simp))).trans (HXw.out.block hbl))
       have hlgd:∀ b,lg.ownBlock=some b->b≠d:=fun b hb e=>HI.out.lgne b hb (by simp [e]);have HLGD:=lh hlgd;clear HFail hS hlgd;go_wp2_with (at_builtin;refine append_kw ⟨el_effect.ut,el_effect.info,el_effect.one,by decide,el_effect.few⟩ 0 _ _ _ (HOw.out.alloc _) w4.heap.size [.func (.func F) #[] cap] rfl (.tmp 43) (.tmp 45) rfl rfl rfl rfl (fun j u hj=>by rw [cell_alloc_new rfl];simpa using hj) (by simp [Value.oneCell']) (by omega) (Nat.zero_le _) ?_);intro v5 w5 hown5 hg5 hv5 hw5;obtain ⟨g5,cap5,rfl,hv5⟩:=hv5
       have hd5:w5.heap[d]?=some (.cells #[.pointer (some ⟨lt,0,none⟩),.pointer (some ⟨st,0,none⟩),lg,.bool D.fused,.int .i64 D.left] 178 (0,0)):=by
        rw [hg5.block d (by rw [size_alloc];omega) (fun e=>HLGD.out d e.symm rfl),block_alloc_old hd4];exact HDW.out
       have e2:w5.cell? ⟨d,2,none⟩=some lg:=cellB hd5;have e3:w5.frozen? ⟨d,2,none⟩=false:=frozenB hd5;have hd6:(w5.setCell ⟨d,2,none⟩ (.slice (some ⟨g5,0,none⟩) (D.log.length+1) cap5)).heap[d]?=some (.cells #[.pointer (some ⟨lt,0,none⟩),.pointer (some ⟨st,0,none⟩),.slice (some ⟨g5,0,none⟩) (D.log.length+1) cap5,.bool D.fused,.int .i64 D.left] 178 (0,0)):=setCellB hd5;have e4:(w5.setCell ⟨d,2,none⟩ (.slice (some ⟨g5,0,none⟩) (D.log.length+1) cap5)).cell? ⟨d,4,none⟩=some (.int .i64 D.left):=cellB hd6;have e5:(w5.setCell ⟨d,2,none⟩ (.slice (some ⟨g5,0,none⟩) (D.log.length+1) cap5)).frozen? ⟨d,4,none⟩=false:=frozenB hd6;have HEnd:=lh (act_done HI.out HXw.out HT4.out HC4.out HEa.out HBr.out hf hown5 hg5 hw5 HR5.out);clear hown5 hg5 hv5 hw5 hd5 hd6;go_wp2_with fail;go_ret;rw [HM.out];exact ⟨HEnd.out.1,Chg.from_ext HXr.out HEnd.out.2⟩
      ·have HR5:=lh (HR4.out.trans (if_neg hen0));have HL:=lh (HFail.out hen0);have n1:(en==0)=false:=by simpa using hen0
       have n2:(en != 0)=true:=by simpa using hen0
       have HEnd:=lh (act_fail HI.out HXw.out HT4.out HC4.out HL.out HR5.out);clear hen0 hS HFail;go_wp2_with fail;go_ret;rw [HM.out];exact ⟨HEnd.out.1,Chg.from_ext HXr.out HEnd.out.2⟩
end
section
theorem cell1 {w:World} {v:Value} {t:TypeId}:(w.alloc (.cells #[v] t)).cell? ⟨w.heap.size,0,none⟩=some v:=by rw [cell_alloc_new rfl];rfl
theorem cell_up {w:World} {o:Obj} {b k:Nat} {v:Value} (h:w.cell? ⟨b,k,none⟩=some v):(w.alloc o).cell? ⟨b,k,none⟩=some v:=(cell_alloc_old (lt_of_cell h)).trans h
set_option maxRecDepth 100000 in
set_option maxHeartbeats 2000000 in
theorem Mkdir_any {w:World} {d:Nat} {M I:List Nat} {D:Dk} (h:DkAt w d M I D) (O:DkFit D) (E:Env w) (p:ByteArray) (hp:p.size<4294967281) :
  Calls prog 59 #[.pointer (some ⟨d,0,none⟩),.string p] w (ActPost w d M I (D.act (.mkdir p))):=by
 obtain ⟨W2,hW2⟩:∃ W2,W2=(w.alloc (.cells #[.string p] 9)).alloc (.cells #[.string p] 9):=⟨_,rfl⟩;have x2:Ext w W2:=hW2▸((Ext.refl w).alloc _).alloc _;have hsz:W2.heap.size=w.heap.size+2:=by rw [hW2,size_alloc,size_alloc]
 have HD:=lh (do_any (x:=.mkdir p) h x2 O E (B:=[w.heap.size]) (F:=117) (cap:=#[.pointer (some ⟨w.heap.size,0,none⟩)])
  ⟨w.heap.size,rfl,by simp,hW2▸cell_up cell1⟩ (fun b hb=>by simp at hb;omega) trivial true rfl (w.heap.size+1) 1 rfl (by decide)
  (fun k q hk=>by
   match k,hk with
   | 0,hk =>
    simp [Eff.paths] at hk;subst hk;have:=cell1 (w:=w.alloc (.cells #[.string p] 9)) (v:=.string p) (t:=9);rw [size_alloc] at this
    rw [hW2];exact this)
  (fun q hq=>by simp [Eff.paths] at hq;subst hq;exact hp))
 clear x2 hsz h O E;subst hW2;generalize D.act (.mkdir p)=R at *;go_enter func59,ntmps59;go_wp2_with fail;refine HD.out.mono ?_;rintro e w1 ⟨⟨rfl,h1⟩,_⟩;have HP:=lh h1;clear h1;go_wp2_with fail;go_ret;exact ⟨rfl,HP.out⟩
set_option maxRecDepth 100000 in
set_option maxHeartbeats 2000000 in
theorem Write_any {w:World} {d:Nat} {M I:List Nat} {D:Dk} (h:DkAt w d M I D) (O:DkFit D) (E:Env w) (p a:ByteArray) (tm:Int) (hp:p.size<4294967281) (ha:a.size<=4611686018427387904) :
  Calls prog 56 #[.pointer (some ⟨d,0,none⟩),.string p,.string a,.int .i64 tm] w (ActPost w d M I (D.act (.write p a tm))):=by
 obtain ⟨W1,hW1⟩:∃ W1,W1=((w.alloc (.cells #[.string p] 9)).alloc (.cells #[.string a] 9)).alloc (.cells #[.int .i64 tm] 2):=⟨_,rfl⟩;have x1:Ext w W1:=hW1▸(((Ext.refl w).alloc _).alloc _).alloc _;have hsz:W1.heap.size=w.heap.size+3:=by rw [hW1,size_alloc,size_alloc,size_alloc]
 have ca:((w.alloc (.cells #[.string p] 9)).alloc (.cells #[.string a] 9)).cell? ⟨w.heap.size+1,0,none⟩=some (.string a):=by
  have:=cell1 (w:=w.alloc (.cells #[.string p] 9)) (v:=.string a) (t:=9)
  rwa [size_alloc] at this
 have ct:W1.cell? ⟨w.heap.size+2,0,none⟩=some (.int .i64 tm):=by
  have:=cell1 (w:=(w.alloc (.cells #[.string p] 9)).alloc (.cells #[.string a] 9)) (v:=.int .i64 tm) (t:=2);rw [size_alloc,size_alloc] at this;rw [hW1];exact this
 have cp:W1.cell? ⟨w.heap.size,0,none⟩=some (.string p):=hW1▸cell_up (cell_up cell1);have ca2:W1.cell? ⟨w.heap.size+1,0,none⟩=some (.string a):=hW1▸cell_up ca;have HM:=h.lt.1;have x2:Ext w (W1.alloc (.cells #[.string p] 9)).drew:=(x1.alloc _).drew
 have HD:=lh (do_any (x:=.write p a tm) h x2 O E (B:=[w.heap.size,w.heap.size+1,w.heap.size+2]) (F:=114) (cap:=#[.pointer (some ⟨w.heap.size,0,none⟩),.pointer (some ⟨w.heap.size+1,0,none⟩),.pointer (some ⟨w.heap.size+2,0,none⟩)])
  ⟨w.heap.size,w.heap.size+1,w.heap.size+2,rfl,by simp,by simp,by simp,cell_up (o:=.cells #[.string p] 9) cp,cell_up (o:=.cells #[.string p] 9) ca2,cell_up (o:=.cells #[.string p] 9) ct⟩ (fun b hb=>by show _/\b<(W1.alloc _).heap.size;rw [size_alloc];simp at hb;omega) ha (clockB tm) rfl W1.heap.size 1 rfl (by decide)
  (fun k q hk=>by
   match k,hk with
   | 0,hk=>simp [Eff.paths] at hk;subst hk;exact cell1 (w:=W1) (v:=.string p) (t:=9))
  (fun q hq=>by simp [Eff.paths] at hq;subst hq;exact hp))
 have HS:=lh (show ∀ w',Chg M (W1.alloc (.cells #[.string p] 9)).drew w'->w'.cell? ⟨w.heap.size,0,none⟩=some (.string p)/\w'.cell? ⟨w.heap.size+2,0,none⟩=some (.int .i64 tm) from fun w' c=>by
  have nm:∀ b,w.heap.size<=b->b∉M:=fun b hb hm=>by have:=HM b hm;omega
  exact ⟨(c.cell (by show _<(W1.alloc _).heap.size;rw [size_alloc];omega) (nm _ (by omega))).trans (cell_up (o:=.cells #[.string p] 9) cp),(c.cell (by show _<(W1.alloc _).heap.size;rw [size_alloc];omega) (nm _ (by omega))).trans (cell_up (o:=.cells #[.string p] 9) ct)⟩)
 have HCk:=fun w=>lh (dclock_any tm w);rw [hsz] at HD;clear x1 x2 h O E ca ca2 HM;subst hW1;generalize D.act (.write p a tm)=R at *;generalize clockB tm=cb at *;go_enter func56,ntmps56;go_wp2_with fail
 go_region_held (fun w'=>w'.cell? ⟨w.heap.size,0,none⟩=some (.string p)/\w'.cell? ⟨w.heap.size+2,0,none⟩=some (.int .i64 tm)) (first | go_keep | exact HS.out _ (by assumption)) (first
  | (go_at_call 116;refine (HCk _).out.mono ?_;rintro e w' ⟨rfl,rfl⟩)
  | (go_at_call 113;refine HD.out.mono ?_;rintro e w9 ⟨⟨rfl,h1⟩,h2⟩))
 all_goals (go_wp2_with fail;go_ret;exact ⟨rfl,by assumption⟩)
end
end Go.Proofs.YtodickpibbbiiaaGreatDoor
