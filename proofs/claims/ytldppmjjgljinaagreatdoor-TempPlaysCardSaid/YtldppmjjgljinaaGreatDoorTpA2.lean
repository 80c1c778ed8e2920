import Derived.Test.YtldppmjjgljinaaGreatDoorTpA1
import Derived.Deep.RegionLaw
import Derived.Maps.OwnSet
import Derived.StringKeys
import Derived.WideKeyEntry
import Derived.Sort.KeysCollected
import Derived.Laws.ResultCell
import Derived.Laws.EntriesVeiled
import Derived.Laws.Rows
import Derived.WideLaws
import Derived.Deep.RegionHeld
open Go.Proofs.Tryz
namespace Go.Proofs.YtldppmjjgljinaaGreatDoor
open Go.RowKit
section
def Sorted (l:Nodes):Prop:=l.Pairwise fun x y=>cmpL x.1.toList y.1.toList=-1
def insS:Nodes->ByteArray->Nd->Nodes
 | [],p,n=>[(p,n)]
 | (q,m)::r,p,n=>if p=q then (p,n)::r else if cmpL p.toList q.toList=-1 then (p,n)::(q,m)::r else (q,m)::insS r p n
def usedL:Nodes->Nat
 | []=>0
 | x::r=>64+x.2.data.size+usedL r
def oldU (l:Nodes) (p:ByteArray):Nat:=match findA l p with | some o=>64+o.data.size | none=>0
theorem cmp_lt_ne {a b:ByteArray} (h:cmpL a.toList b.toList=-1):a≠b:=fun e=>by rw [e,cmpL_self] at h;cases h
theorem cmp_total {a b:ByteArray} (h:a≠b) (k:¬ cmpL a.toList b.toList=-1):cmpL b.toList a.toList=-1:=by
 rcases cmpL_vals a.toList b.toList with e | e | e
 ·exact absurd e k
 ·exact absurd (ba_ext (cmpL_zero _ _ e)) h
 ·rw [cmpL_anti,e]
theorem Sorted.nodup {l:Nodes} (h:Sorted l):(l.map (·.1)).Nodup:=List.pairwise_map.2 (h.imp fun k=>cmp_lt_ne k)
theorem ins_mem {l:Nodes} {p:ByteArray} {n:Nd} {x:ByteArray×Nd} (h:x∈insS l p n):x=(p,n)\/x∈l:=by
 induction l with
 | nil=>simp [insS] at h;exact .inl h
 | cons y r ih =>
  obtain ⟨q,m⟩:=y;unfold insS at h;split at h
  ·rcases List.mem_cons.1 h with h | h
   ·exact .inl h
   ·exact .inr (List.mem_cons_of_mem _ h)
  ·split at h
   ·rcases List.mem_cons.1 h with h | h
    ·exact .inl h
    ·exact .inr h
   ·rcases List.mem_cons.1 h with h | h
    ·exact .inr (by rw [h];exact List.mem_cons_self)
    ·rcases ih h with h | h
     ·exact .inl h
     ·exact .inr (List.mem_cons_of_mem _ h)
theorem ins_find (l:Nodes) (p:ByteArray) (n:Nd) (s:ByteArray):findA (insS l p n) s=if s=p then some n else findA l s:=by
 induction l with
 | nil =>
  unfold insS findA;by_cases e:s=p
  ·rw [if_pos e,if_pos e.symm]
  ·rw [if_neg e,if_neg (Ne.symm e)];rfl
 | cons y r ih =>
  obtain ⟨q,m⟩:=y;unfold insS;by_cases hpq:p=q
  ·rw [if_pos hpq];subst hpq;by_cases e:s=p
   ·rw [if_pos e,findA,if_pos e.symm]
   ·rw [if_neg e,findA,if_neg (Ne.symm e),findA,if_neg (Ne.symm e)]
  ·rw [if_neg hpq];split
   ·by_cases e:s=p
    ·rw [if_pos e,findA,if_pos e.symm]
    ·rw [if_neg e,findA,if_neg (Ne.symm e)]
   ·rw [findA];by_cases e:q=s
    ·rw [if_pos e,if_neg (fun e2=>hpq (e2.symm.trans e.symm)),findA,if_pos e]
    ·rw [if_neg e,ih,findA,if_neg e]
theorem Sorted.ins {l:Nodes} (h:Sorted l) (p:ByteArray) (n:Nd):Sorted (insS l p n):=by
 induction l with
 | nil=>exact List.pairwise_singleton _ _
 | cons y r ih =>
  obtain ⟨q,m⟩:=y;obtain ⟨h1,h2⟩:=List.pairwise_cons.1 h;unfold insS;split
  ·rename_i e;subst e;exact List.pairwise_cons.2 ⟨h1,h2⟩
  ·rename_i hne;split
   ·rename_i hlt;refine List.pairwise_cons.2 ⟨fun z hz=>?_,h⟩;rcases List.mem_cons.1 hz with rfl | hz
    ·exact hlt
    ·exact cmpL_trans _ _ _ hlt (h1 z hz)
   ·rename_i hge;refine List.pairwise_cons.2 ⟨fun z hz=>?_,ih h2⟩;rcases ins_mem hz with rfl | hz
    ·exact cmp_total hne hge
    ·exact h1 z hz
theorem Sorted.drop {l:Nodes} (h:Sorted l) (p:ByteArray):Sorted (dropA l p):=List.Pairwise.sublist List.filter_sublist h
theorem Sorted.filter {l:Nodes} (h:Sorted l) (f:ByteArray×Nd->Bool):Sorted (l.filter f):=List.Pairwise.sublist List.filter_sublist h
theorem ins_perm {l:Nodes} {p:ByteArray} {n:Nd} (h:∀ x∈l,x.1≠p):(insS l p n).Perm ((p,n)::l):=by
 induction l with
 | nil=>exact List.Perm.refl _
 | cons y r ih =>
  obtain ⟨q,m⟩:=y;unfold insS;rw [if_neg (Ne.symm (h (q,m) List.mem_cons_self))];split
  ·exact List.Perm.refl _
  ·exact ((ih fun x hx=>h x (List.mem_cons_of_mem _ hx)).cons _).trans (List.Perm.swap _ _ _)
theorem nodup_of_keys {l:Nodes} (h:(l.map (·.1)).Nodup):l.Nodup:=(List.pairwise_map.1 h).imp fun k e=>k (by rw [e])
theorem perm_of_find {a b:Nodes} (ha:(a.map (·.1)).Nodup) (hb:(b.map (·.1)).Nodup) (h:∀ s,findA a s=findA b s):a.Perm b:=by
 refine (List.perm_ext_iff_of_nodup (nodup_of_keys ha) (nodup_of_keys hb)).2 fun x=>?_;obtain ⟨s,n⟩:=x;constructor
 ·intro hx;exact findA_mem ((h s).symm.trans (findA_of_mem ha hx))
 ·intro hx;exact findA_mem ((h s).trans (findA_of_mem hb hx))
theorem usedL_perm {a b:Nodes} (h:a.Perm b):usedL a=usedL b:=by
 induction h with
 | nil=>rfl
 | cons x _ ih=>show _+usedL _=_+usedL _;rw [ih]
 | swap x y l=>show _+(_+usedL _)=_+(_+usedL _);omega
 | trans _ _ ih1 ih2=>exact ih1.trans ih2
theorem usedL_append (a b:Nodes):usedL (a++b)=usedL a+usedL b:=by
 induction a with
 | nil=>simp [usedL]
 | cons x r ih=>show _+usedL (r++b)=_+usedL r+_;rw [ih];omega
theorem usedL_drop_none {l:Nodes} {p:ByteArray} (h:findA l p=none):dropA l p=l:=by
 unfold dropA;refine List.filter_eq_self.2 fun x hx=>?_
 have:x.1≠p:=fun e=>by
  have:=findA_isSome.2 (List.mem_map.2 ⟨x,hx,e⟩);rw [h] at this;cases this
 simpa using this
theorem drop_used {l:Nodes} (h:(l.map (·.1)).Nodup) (p:ByteArray):usedL (dropA l p)+oldU l p=usedL l:=by
 induction l with
 | nil=>rfl
 | cons y r ih =>
  obtain ⟨q,m⟩:=y;rw [List.map_cons,List.nodup_cons] at h;unfold oldU findA;by_cases e:q=p
  ·rw [if_pos e]
   have hn:findA r p=none:=by
    cases hf:findA r p with
    | none=>rfl
    | some o=>exact absurd (List.mem_map.2 ⟨_,findA_mem hf,e.symm⟩) h.1
   have:dropA ((q,m)::r) p=r:=by
    unfold dropA;rw [List.filter_cons,if_neg (by simpa using e)];exact usedL_drop_none hn
   rw [this]
   show usedL r+(64+m.data.size)=64+m.data.size+usedL r
   omega
  ·rw [if_neg e]
   have:dropA ((q,m)::r) p=(q,m)::dropA r p:=by
    unfold dropA;rw [List.filter_cons,if_pos (by simpa using e)]
   rw [this];have h2:=ih h.2
   show 64+m.data.size+usedL (dropA r p)+oldU r p=64+m.data.size+usedL r
   omega
theorem ins_drop (l:Nodes) (p:ByteArray) (n:Nd) (h:Sorted l):(insS l p n).Perm ((p,n)::dropA l p) :=
 perm_of_find (h.ins p n).nodup (by
  rw [List.map_cons,List.nodup_cons];refine ⟨fun hm=>?_,dropA_nodup h.nodup p⟩;obtain ⟨y,hy,e⟩:=List.mem_map.1 hm;have:=(List.mem_filter.1 hy).2;simp at this
  exact this e) fun s=>by
  rw [ins_find,findA,findA_drop];by_cases e:s=p
  ·rw [if_pos e,if_pos e.symm]
  ·rw [if_neg e,if_neg (Ne.symm e),if_neg e]
theorem ins_used {l:Nodes} (h:Sorted l) (p:ByteArray) (n:Nd):usedL (insS l p n)+oldU l p=usedL l+(64+n.data.size):=by
 rw [usedL_perm (ins_drop l p n h)];have:=drop_used h.nodup p
 show 64+n.data.size+usedL (dropA l p)+oldU l p=_
 omega
theorem mem_used {l:Nodes} {x:ByteArray×Nd} (h:x∈l):64+x.2.data.size<=usedL l:=by
 induction l with
 | nil=>cases h
 | cons y r ih =>
  rcases List.mem_cons.1 h with rfl | h
  ·show _<=64+x.2.data.size+usedL r;omega
  ·have:=ih h;show _<=64+y.2.data.size+usedL r;omega
theorem len_used (l:Nodes):64*l.length<=usedL l:=by
 induction l with
 | nil=>exact Nat.le_refl _
 | cons y r ih=>show 64*(r.length+1)<=64+y.2.data.size+usedL r;omega
def kindAt (l:Nodes) (p:ByteArray):Int:=if p.toList.isEmpty then 2 else match findA l p with | some n=>n.kind | none=>0
def dirE (l:Nodes) (p:ByteArray):Int:=if kindAt l p=0 then 5 else if kindAt l p=2 then 0 else 12
def homeE (l:Nodes) (p:ByteArray):Int:=dirE l (parentR p)
def fileE (l:Nodes) (p:ByteArray):Int:=match findA l p with | some n=>if n.kind=2 then 12 else if n.kind=3 then 11 else 0 | none=>0
structure TreeOk (l:Nodes) (room:Nat):Prop where
 sorted:Sorted l
 may:∀ x∈l,mayB x.1=true
 kind:∀ x∈l,x.2.kind=1\/x.2.kind=2\/x.2.kind=3
 home:∀ x∈l,kindAt l (parentS x.1)=2
 used:usedL l<=room
 target:∀ x∈l,x.2.target.size<=160
theorem mayB_size {s:ByteArray} (h:mayB s=true):s.size<=160:=by
 unfold mayB at h;simp only [Bool.and_eq_true,decide_eq_true_eq] at h;exact h.1.1
theorem empty_of {s:ByteArray}:s.toList.isEmpty=true↔s.toList=[]:=by cases s.toList <;> simp
theorem mayB_nonempty {s:ByteArray} (h:mayB s=true):s.toList.isEmpty=false:=by
 cases e:s.toList.isEmpty with
 | false=>rfl
 | true=>exact absurd (empty_of.1 e) (mayB_ne h)
theorem parentR_may {s:ByteArray} (h:mayB s=true):parentR s=parentS s:=by unfold parentR;rw [if_pos h]
theorem kindAt_two {l:Nodes} {p:ByteArray} (h:kindAt l p=2) (hp:p.toList.isEmpty=false):∃ o,findA l p=some o/\o.kind=2:=by
 unfold kindAt at h;rw [hp] at h
 cases hf:findA l p with
 | none=>rw [hf] at h;cases h
 | some o=>rw [hf] at h;exact ⟨o,rfl,h⟩
theorem within_of_form {p d:ByteArray} (hp:mayB p=true) (hd:mayB d=true) {r:List UInt8} (h:p.toList=d.toList++47::r):withinB p d=true:=by
 unfold withinB;rw [hp,hd,(hasPrefix_iff _ _).2 ⟨r,by rw [h];simp⟩];simp
theorem parent_split {p:ByteArray} {d r:List UInt8} (h:p.toList=d++47::r):(parentS p).toList=d\/∃ r',(parentS p).toList=d++47::r'/\(parentS p).toList.length<p.toList.length:=by
 rw [(split_toList p).1,h];rcases last_slash r with hr | ⟨c,e,rfl,he⟩
 ·rw [aheadL_at d r hr];exact .inl rfl
 ·refine .inr ⟨c,?_⟩;have:d++47::(c++47::e)=(d++47::c)++47::e:=by simp
  rw [this,aheadL_at _ e he];refine ⟨rfl,?_⟩;simp
theorem parent_form {p:ByteArray} (h:(parentS p).toList≠[]):∃ b,p.toList=(parentS p).toList++47::b:=by
 rw [(split_toList p).1] at h ⊢;rcases last_slash p.toList with hn | ⟨a,b,e,hb⟩
 ·rw [aheadL_no hn] at h;exact absurd rfl h
 ·rw [e,aheadL_at a b hb];exact ⟨b,rfl⟩
theorem within_parent {p d:ByteArray} (hp:mayB p=true) (hd:mayB d=true) (h:parentS p=d):withinB p d=true:=by
 obtain ⟨b,hb⟩:=parent_form (p:=p) (by rw [h];exact mayB_ne hd);exact within_of_form hp hd (by rw [hb,h])
theorem TreeOk.inside {l:Nodes} {room:Nat} (T:TreeOk l room) {d:ByteArray} (hd:mayB d=true):∀ (k:Nat) (x:ByteArray×Nd),x∈l->x.1.toList.length<=k->withinB x.1 d=true->∃ o,findA l d=some o/\o.kind=2:=by
 intro k
 induction k with
 | zero =>
  intro x hx hk hw;exact absurd (List.length_eq_zero_iff.1 (by omega)) (mayB_ne (T.may x hx))
 | succ k ih =>
  intro x hx hk hw;obtain ⟨r,hr⟩:=within_form hd hw;have hh:=T.home x hx;rcases parent_split hr with h | ⟨r',h,hlt⟩
  ·have e:parentS x.1=d:=ba_ext h;rw [e] at hh;exact kindAt_two hh (mayB_nonempty hd)
  ·have hne:(parentS x.1).toList.isEmpty=false:=by rw [h];simp
   obtain ⟨o,ho,_⟩:=kindAt_two hh hne;have hm:=findA_mem ho;exact ih _ hm (by show (parentS x.1).toList.length<=k;omega) (within_of_form (T.may _ hm) hd h)
theorem kindAt_congr {l m:Nodes} {p:ByteArray} (h:findA l p=findA m p):kindAt l p=kindAt m p:=by unfold kindAt;rw [h]
theorem homeE_zero {l:Nodes} {p:ByteArray} (hp:mayB p=true) (h:homeE l p=0):kindAt l (parentS p)=2:=by
 unfold homeE dirE at h;rw [parentR_may hp] at h;split at h
 ·cases h
 ·split at h
  ·assumption
  ·cases h
theorem parent_ne {p:ByteArray} (hp:mayB p=true):parentS p≠p:=by
 intro e;by_cases hn:(parentS p).toList=[]
 ·rw [e] at hn;exact mayB_ne hp hn
 ·obtain ⟨b,hb⟩:=parent_form hn;have:=congrArg List.length hb;rw [e] at this;simp at this
theorem TreeOk.find_may {l:Nodes} {room:Nat} (T:TreeOk l room) {p:ByteArray} {n:Nd} (h:findA l p=some n):mayB p=true:=T.may _ (findA_mem h)
theorem TreeOk.put {l:Nodes} {room:Nat} (T:TreeOk l room) {p:ByteArray} {n:Nd} (hp:mayB p=true) (hh:kindAt l (parentS p)=2) (hk:n.kind=1\/n.kind=2\/n.kind=3) (ho:∀ o,findA l p=some o->o.kind≠2)
  (hu:usedL (insS l p n)<=room) (ht:n.target.size<=160):TreeOk (insS l p n) room:=by
 have other:∀ q,q≠p->kindAt (insS l p n) q=kindAt l q:=fun q hq=>kindAt_congr (by rw [ins_find,if_neg hq])
 have ne:∀ q,kindAt l q=2->q≠p:=fun q hq e=>by
  subst e;obtain ⟨o,h1,h2⟩:=kindAt_two hq (mayB_nonempty hp);exact ho o h1 h2
 refine ⟨T.sorted.ins p n,fun x hx=>?_,fun x hx=>?_,fun x hx=>?_,hu,fun x hx=>?_⟩
 ·rcases ins_mem hx with rfl | hx
  ·exact hp
  ·exact T.may x hx
 ·rcases ins_mem hx with rfl | hx
  ·exact hk
  ·exact T.kind x hx
 ·rcases ins_mem hx with rfl | hx
  ·rw [other _ (parent_ne hp)];exact hh
  ·rw [other _ (ne _ (T.home x hx))];exact T.home x hx
 ·rcases ins_mem hx with rfl | hx
  ·exact ht
  ·exact T.target x hx
theorem mem_drop {l:Nodes} {p:ByteArray} {x:ByteArray×Nd}:x∈dropA l p↔x∈l/\x.1≠p:=by
 unfold dropA;rw [List.mem_filter];simp
theorem TreeOk.drop {l:Nodes} {room:Nat} (T:TreeOk l room) {p:ByteArray} (hp:mayB p=true) (hw:∀ x∈l,withinB x.1 p=false):TreeOk (dropA l p) room:=by
 refine ⟨T.sorted.drop p,fun x hx=>T.may x (mem_drop.1 hx).1,fun x hx=>T.kind x (mem_drop.1 hx).1,fun x hx=>?_,?_,fun x hx=>T.target x (mem_drop.1 hx).1⟩
 ·obtain ⟨h1,_⟩:=mem_drop.1 hx
  have hne:parentS x.1≠p:=fun e=>by
   have:=within_parent (T.may x h1) hp e;rw [hw x h1] at this
   cases this
  exact (kindAt_congr (m:=l) (by rw [findA_drop,if_neg hne])).trans (T.home x h1)
 ·have:=drop_used T.sorted.nodup p;have:=T.used;omega
end
section
def newP (a b k:ByteArray):ByteArray:=b++k.extract a.size k.size
def movedB (a k:ByteArray):Bool:=decide (k=a)||withinB k a
def newX (a b:ByteArray) (x:ByteArray×Nd):ByteArray×Nd:=(newP a b x.1,x.2)
def movL (l:Nodes) (a:ByteArray):Nodes:=l.filter fun x=>movedB a x.1
def restL (l:Nodes) (a b:ByteArray):Nodes:=(dropA l b).filter fun x=>!movedB a x.1
def moveL (l:Nodes) (a b:ByteArray):Nodes:=((movL l a).map (newX a b)).foldl (fun o x=>insS o x.1 x.2) (restL l a b)
def stepM (a b:ByteArray) (cur:Nodes) (k:ByteArray):Nodes:=dropA ((newP a b k,(findA cur k).getD nd0)::dropA cur (newP a b k)) k
theorem newP_toList (a b k:ByteArray):(newP a b k).toList=b.toList++k.toList.drop a.size:=by
 unfold newP;rw [toList_append,toList_extract,List.take_of_length_le (by simp [len_toList])]
theorem moved_form {a k:ByteArray} (ha:mayB a=true) (h:movedB a k=true):∃ t,k.toList=a.toList++t/\(k=a/\t=[]\/∃ r,t=47::r/\withinB k a=true):=by
 unfold movedB at h;simp only [Bool.or_eq_true,decide_eq_true_eq] at h;rcases h with rfl | h
 ·exact ⟨[],by simp,.inl ⟨rfl,rfl⟩⟩
 ·obtain ⟨r,hr⟩:=within_form ha h;exact ⟨47::r,hr,.inr ⟨r,rfl,h⟩⟩
theorem newP_form {a b k:ByteArray} {t:List UInt8} (h:k.toList=a.toList++t):(newP a b k).toList=b.toList++t:=by
 rw [newP_toList,h,<-len_toList a,List.drop_left]
theorem newP_self (a b:ByteArray):newP a b a=b:=ba_ext (by rw [newP_form (t:=[]) (by simp)];simp)
theorem newP_inj {a b k j:ByteArray} (ha:mayB a=true) (hk:movedB a k=true) (hj:movedB a j=true) (h:newP a b k=newP a b j):k=j:=by
 obtain ⟨t,e1,_⟩:=moved_form ha hk;obtain ⟨u,e2,_⟩:=moved_form ha hj;have:=congrArg ByteArray.toList h;rw [newP_form e1,newP_form e2] at this;exact ba_ext (by rw [e1,e2,List.append_cancel_left this])
structure MoveOk (l:Nodes) (room:Nat) (a b:ByteArray):Prop where
 tree:TreeOk l room
 ma:mayB a=true
 mb:mayB b=true
 ne:a≠b
 out:withinB b a=false
 is:(findA l a).isSome=true
 home:kindAt l (parentS b)=2
 dirs:∀ o,findA l b=some o->o.kind≠2
 may:∀ x∈l,withinB x.1 a=true->mayB (newP a b x.1)=true
theorem mem_mov {l:Nodes} {a:ByteArray} {x:ByteArray×Nd}:x∈movL l a↔x∈l/\movedB a x.1=true:=by unfold movL;rw [List.mem_filter]
theorem mem_rest {l:Nodes} {a b:ByteArray} {x:ByteArray×Nd}:x∈restL l a b↔x∈l/\x.1≠b/\movedB a x.1=false:=by
 unfold restL;rw [List.mem_filter,mem_drop,and_assoc];simp
theorem MoveOk.notb {l:Nodes} {room:Nat} {a b:ByteArray} (M:MoveOk l room a b):movedB a b=false:=by
 unfold movedB;rw [M.out,decide_eq_false (Ne.symm M.ne)];rfl
theorem MoveOk.newMay {l:Nodes} {room:Nat} {a b:ByteArray} (M:MoveOk l room a b) {x:ByteArray×Nd} (h:x∈movL l a):mayB (newP a b x.1)=true:=by
 obtain ⟨h1,h2⟩:=mem_mov.1 h;obtain ⟨t,ht,h3⟩:=moved_form M.ma h2;rcases h3 with ⟨e,_⟩ | ⟨r,_,hw⟩
 ·rw [e,newP_self];exact M.mb
 ·exact M.may x h1 hw
theorem MoveOk.fresh {l:Nodes} {room:Nat} {a b:ByteArray} (M:MoveOk l room a b) {x y:ByteArray×Nd} (hx:x∈movL l a) (hy:y∈l) (hb:y.1≠b):y.1≠newP a b x.1:=by
 obtain ⟨h1,h2⟩:=mem_mov.1 hx;obtain ⟨t,ht,h3⟩:=moved_form M.ma h2;rcases h3 with ⟨e,_⟩ | ⟨r,rfl,hw⟩
 ·rw [e,newP_self];exact hb
 ·intro e;have hf:=newP_form (b:=b) ht;rw [<-e] at hf;obtain ⟨o,ho,hk⟩:=M.tree.inside M.mb _ y hy (Nat.le_refl _) (within_of_form (M.tree.may y hy) M.mb hf);exact M.dirs o ho hk
theorem mov_ne {l:Nodes} {room:Nat} {a b:ByteArray} (M:MoveOk l room a b) {x:ByteArray×Nd} (hx:x∈movL l a):x.1≠b:=fun e=>by
 have:=(mem_mov.1 hx).2;rw [e,M.notb] at this
 cases this
theorem keys_nodup_map {a b:ByteArray} {N:Nodes} (ha:mayB a=true) (h:(N.map (·.1)).Nodup) (hm:∀ x∈N,movedB a x.1=true):((N.map (newX a b)).map (·.1)).Nodup:=by
 have h':=List.pairwise_map.1 h;rw [List.map_map];refine List.pairwise_map.2 ?_;refine List.Pairwise.imp_of_mem ?_ h';intro x y hx hy hne e;exact hne (newP_inj ha (hm x hx) (hm y hy) e)
theorem MoveOk.keys {l:Nodes} {room:Nat} {a b:ByteArray} (M:MoveOk l room a b) {P R:Nodes} (h:(P++R).Perm (movL l a)):((P.map (newX a b)++(R++restL l a b)).map (·.1)).Nodup:=by
 have hn:((P++R).map (·.1)).Nodup:=(h.map _).nodup_iff.2 ((M.tree.sorted.filter _).nodup);have hin:∀ x,x∈P\/x∈R->x∈movL l a:=fun x hx=>h.mem_iff.1 (List.mem_append.2 hx);rw [List.map_append] at hn;obtain ⟨n1,n2,n3⟩:=List.nodup_append.1 hn;rw [List.map_append,List.nodup_append];refine ⟨keys_nodup_map M.ma n1 fun x hx=>(mem_mov.1 (hin x (.inl hx))).2,?_,?_⟩
 ·rw [List.map_append,List.nodup_append];refine ⟨n2,((M.tree.sorted.drop b).filter _).nodup,?_⟩;intro k hk j hj e;obtain ⟨x,hx,rfl⟩:=List.mem_map.1 hk;obtain ⟨y,hy,rfl⟩:=List.mem_map.1 hj;have h1:=(mem_mov.1 (hin x (.inr hx))).2;have h2:=(mem_rest.1 hy).2.2;rw [e,h2] at h1
  cases h1
 ·intro k hk j hj e;obtain ⟨x',hx',rfl⟩:=List.mem_map.1 hk;obtain ⟨x,hx,rfl⟩:=List.mem_map.1 hx';obtain ⟨y,hy,rfl⟩:=List.mem_map.1 hj;rcases List.mem_append.1 hy with hy | hy
  ·exact M.fresh (hin x (.inl hx)) (mem_mov.1 (hin y (.inr hy))).1 (mov_ne M (hin y (.inr hy))) e.symm
  ·exact M.fresh (hin x (.inl hx)) (mem_rest.1 hy).1 (mem_rest.1 hy).2.1 e.symm
theorem drop_none {l:Nodes} {p:ByteArray} (h:p∉l.map (·.1)):dropA l p=l:=by
 unfold dropA;refine List.filter_eq_self.2 fun x hx=>?_;have:x.1≠p:=fun e=>h (List.mem_map.2 ⟨x,hx,e⟩)
 simpa using this
theorem dropA_append (l m:Nodes) (p:ByteArray):dropA (l++m) p=dropA l p++dropA m p:=by unfold dropA;rw [List.filter_append]
theorem dropA_cons_self (p:ByteArray) (n:Nd) (l:Nodes):dropA ((p,n)::l) p=dropA l p:=by unfold dropA;rw [List.filter_cons,if_neg (by simp)]
theorem dropA_cons_ne {p q:ByteArray} (n:Nd) (l:Nodes) (h:q≠p):dropA ((q,n)::l) p=(q,n)::dropA l p:=by unfold dropA;rw [List.filter_cons,if_pos (by simpa using h)]
theorem snoc_perm (a b:ByteArray) (x:ByteArray×Nd) (P Q:Nodes):((P++[x]).map (newX a b)++Q).Perm (newX a b x::(P.map (newX a b)++Q)):=by
 rw [List.map_append];simp only [List.map_cons,List.map_nil,List.append_assoc,List.singleton_append];exact List.perm_middle
theorem MoveOk.step {l:Nodes} {room:Nat} {a b:ByteArray} (M:MoveOk l room a b) {P R cur:Nodes} {x:ByteArray×Nd} (h:(P++x::R).Perm (movL l a)) (hc:cur.Perm (P.map (newX a b)++(x::R++restL l a b))) :
  findA cur x.1=some x.2/\(stepM a b cur x.1).Perm ((P++[x]).map (newX a b)++(R++restL l a b)):=by
 have k1:=M.keys h;have k2:=M.keys (P:=P++[x]) (R:=R) (by simpa using h);have hcn:(cur.map (·.1)).Nodup:=(hc.map _).nodup_iff.2 k1;have hxm:x∈movL l a:=h.mem_iff.1 (by simp);have hfx:findA cur x.1=some x.2:=findA_of_mem hcn (hc.mem_iff.2 (by simp));have hnx:x.1≠newP a b x.1:=M.fresh hxm (mem_mov.1 hxm).1 (mov_ne M hxm);refine ⟨hfx,?_⟩
 have hnew:newP a b x.1∉cur.map (·.1):=fun hm=>by
  have hm2:=((hc.map (·.1)).mem_iff).1 hm
  have k3:(newP a b x.1::((P.map (newX a b)++(R++restL l a b)).map (·.1))).Nodup:=by
   have:=(snoc_perm a b x P (R++restL l a b)).map (·.1);exact this.nodup_iff.1 k2
  rw [List.nodup_cons] at k3;refine k3.1 ?_;rw [List.map_append,List.mem_append] at hm2 ⊢;rcases hm2 with h | h
  ·exact .inl h
  ·rw [List.cons_append,List.map_cons,List.mem_cons] at h;rcases h with h | h
   ·exact absurd h.symm hnx
   ·exact .inr h
 unfold stepM;rw [hfx,Option.getD_some,drop_none hnew,dropA_cons_ne _ _ (Ne.symm hnx)]
 have hd:(dropA cur x.1).Perm (P.map (newX a b)++(R++restL l a b)):=by
  have h1:(dropA cur x.1).Perm (dropA (P.map (newX a b)++(x::R++restL l a b)) x.1):=hc.filter _;refine h1.trans ?_
  have hn:x.1∉(P.map (newX a b)).map (·.1)/\x.1∉(R++restL l a b).map (·.1):=by
   rw [List.map_append,List.nodup_append,List.cons_append,List.map_cons,List.nodup_cons] at k1;exact ⟨fun hm=>k1.2.2 _ hm _ (List.mem_cons_self) rfl,k1.2.1.1⟩
  rw [dropA_append,drop_none hn.1,List.cons_append];obtain ⟨xk,xn⟩:=x;rw [dropA_cons_self,drop_none hn.2]
 exact (hd.cons _).trans (snoc_perm a b x P _).symm
theorem foldl_ins_perm:∀ (N B:Nodes),((N++B).map (·.1)).Nodup->(N.foldl (fun o x=>insS o x.1 x.2) B).Perm (N++B)
 | [],_,_=>List.Perm.refl _
 | x::N,B,h=>by
  have hx:∀ y∈B,y.1≠x.1:=fun y hy e=>by
   rw [List.cons_append,List.map_cons,List.nodup_cons] at h;exact h.1 (List.mem_map.2 ⟨y,List.mem_append.2 (.inr hy),e⟩)
  have hp:(N++insS B x.1 x.2).Perm (x::(N++B)):=((ins_perm hx).append_left N).trans List.perm_middle;refine (foldl_ins_perm N (insS B x.1 x.2) ?_).trans hp;exact ((hp.map (·.1)).nodup_iff).2 h
theorem foldl_ins_sorted:∀ (N B:Nodes),Sorted B->Sorted (N.foldl (fun o x=>insS o x.1 x.2) B)
 | [],_,h=>h
 | x::N,_,h=>foldl_ins_sorted N _ (h.ins x.1 x.2)
theorem MoveOk.perm {l:Nodes} {room:Nat} {a b:ByteArray} (M:MoveOk l room a b):(moveL l a b).Perm ((movL l a).map (newX a b)++restL l a b):=by
 refine foldl_ins_perm _ _ ?_;have:=M.keys (P:=movL l a) (R:=[]) (by simp)
 simpa using this
theorem MoveOk.sorted {l:Nodes} {room:Nat} {a b:ByteArray} (M:MoveOk l room a b):Sorted (moveL l a b):=foldl_ins_sorted _ _ ((M.tree.sorted.drop b).filter _)
theorem usedL_map (a b:ByteArray) (N:Nodes):usedL (N.map (newX a b))=usedL N:=by
 induction N with
 | nil=>rfl
 | cons x r ih=>show 64+x.2.data.size+usedL (r.map (newX a b))=_;rw [ih];rfl
theorem MoveOk.used {l:Nodes} {room:Nat} {a b:ByteArray} (M:MoveOk l room a b):usedL (moveL l a b)=usedL (dropA l b):=by
 rw [usedL_perm M.perm,usedL_append,usedL_map];have h:=List.filter_append_perm (fun x:ByteArray×Nd=>movedB a x.1) (dropA l b);rw [<-usedL_perm h,usedL_append]
 have:(dropA l b).filter (fun x=>movedB a x.1)=movL l a:=by
  unfold dropA movL;rw [List.filter_filter];refine List.filter_congr fun x hx=>?_
  cases hm:movedB a x.1 with
  | false=>rfl
  | true =>
   have:x.1≠b:=fun e=>by rw [e,M.notb] at hm;cases hm
   simpa using this
 rw [this];rfl
theorem MoveOk.find_new {l:Nodes} {room:Nat} {a b:ByteArray} (M:MoveOk l room a b) {x:ByteArray×Nd} (hx:x∈movL l a):findA (moveL l a b) (newP a b x.1)=some x.2 :=
 findA_of_mem M.sorted.nodup (M.perm.mem_iff.2 (List.mem_append.2 (.inl (List.mem_map.2 ⟨x,hx,rfl⟩))))
theorem MoveOk.find_rest {l:Nodes} {room:Nat} {a b:ByteArray} (M:MoveOk l room a b) {x:ByteArray×Nd} (hx:x∈restL l a b):findA (moveL l a b) x.1=some x.2 :=
 findA_of_mem M.sorted.nodup (M.perm.mem_iff.2 (List.mem_append.2 (.inr hx)))
theorem kindAt_some {l:Nodes} {p:ByteArray} {o:Nd} (h:findA l p=some o) (hk:o.kind=2):kindAt l p=2:=by
 unfold kindAt;split
 ·rfl
 ·rw [h];exact hk
theorem kindAt_nil {l:Nodes} {p:ByteArray} (h:p.toList=[]):kindAt l p=2:=by unfold kindAt;rw [h];rfl
theorem MoveOk.stays {l:Nodes} {room:Nat} {a b q:ByteArray} (M:MoveOk l room a b) (h:kindAt l q=2) (hm:movedB a q=false):kindAt (moveL l a b) q=2:=by
 by_cases hq:q.toList=[]
 ·exact kindAt_nil hq
 ·obtain ⟨o,ho,hk⟩:=kindAt_two h (by cases e:q.toList with | nil=>exact absurd e hq | cons _ _=>rfl);have hb:q≠b:=fun e=>M.dirs o (e▸ho) hk;exact kindAt_some (M.find_rest (mem_rest.2 ⟨findA_mem ho,hb,hm⟩)) hk
theorem withinB_trans {p q d:ByteArray} (hp:mayB p=true) (hd:mayB d=true) (hq:mayB q=true) (h1:withinB p q=true) (h2:withinB q d=true):withinB p d=true:=by
 obtain ⟨r,hr⟩:=within_form hq h1;obtain ⟨t,ht⟩:=within_form hd h2;exact within_of_form hp hd (r:=t++47::r) (by rw [hr,ht];simp)
theorem parent_moved {a y:ByteArray} (ha:mayB a=true) (hy:mayB y=true) (hp:mayB (parentS y)=true) (h:movedB a (parentS y)=true):movedB a y=true:=by
 have hw:withinB y (parentS y)=true:=within_parent hy hp rfl;unfold movedB at h ⊢;simp only [Bool.or_eq_true,decide_eq_true_eq] at h ⊢;rcases h with h | h
 ·rw [h] at hw;exact .inr hw
 ·exact .inr (withinB_trans hy ha hp hw h)
theorem ne_empty {s:ByteArray} (h:s.toList≠[]):s.toList.isEmpty=false:=by cases e:s.toList with | nil=>exact absurd e h | cons _ _=>rfl
theorem MoveOk.parMay {l:Nodes} {room:Nat} {a b q:ByteArray} (M:MoveOk l room a b) (h:kindAt l q=2) (hm:movedB a q=true):mayB q=true:=by
 by_cases hn:q.toList=[]
 ·exfalso;obtain ⟨u,hu,_⟩:=moved_form M.ma hm;rw [hn] at hu;exact mayB_ne M.ma (List.append_eq_nil_iff.1 hu.symm).1
 ·obtain ⟨o,ho,_⟩:=kindAt_two h (ne_empty hn);exact M.tree.find_may ho
theorem MoveOk.homeIn {l:Nodes} {room:Nat} {a b:ByteArray} (M:MoveOk l room a b) {y:ByteArray×Nd} (h1:y∈l) {r:List UInt8} (ht:y.1.toList=a.toList++47::r):kindAt (moveL l a b) (parentS (newP a b y.1))=2:=by
 have hnf:=newP_form (b:=b) ht
 have hpne:(parentS y.1).toList≠[]:=by
  rcases parent_split ht with h | ⟨r',h,_⟩
  ·rw [h];exact mayB_ne M.ma
  ·rw [h];simp
 obtain ⟨o,ho,hk⟩:=kindAt_two (M.tree.home y h1) (ne_empty hpne);have hpm:=M.tree.find_may ho
 have hmv:movedB a (parentS y.1)=true:=by
  unfold movedB;simp only [Bool.or_eq_true,decide_eq_true_eq];rcases parent_split ht with h | ⟨r',h,_⟩
  ·exact .inl (ba_ext h)
  ·exact .inr (within_of_form hpm M.ma h)
 have he:parentS (newP a b y.1)=newP a b (parentS y.1):=by
  refine ba_ext ?_;rw [(split_toList (newP a b y.1)).1,hnf];have hyp:=(split_toList y.1).1;rw [ht] at hyp;rcases last_slash r with hr | ⟨c,e,hce,he⟩
  ·rw [aheadL_at _ r hr] at hyp ⊢;rw [newP_form (a:=a) (b:=b) (t:=[]) (by rw [hyp];simp)];simp
  ·rw [hce] at hyp ⊢;have e1:b.toList++47::(c++47::e)=(b.toList++47::c)++47::e:=by simp
   have e2:a.toList++47::(c++47::e)=(a.toList++47::c)++47::e:=by simp
   rw [e1,aheadL_at _ e he];rw [e2,aheadL_at _ e he] at hyp;rw [newP_form (a:=a) (b:=b) hyp]
 rw [he];exact kindAt_some (M.find_new (x:=(parentS y.1,o)) (mem_mov.2 ⟨findA_mem ho,hmv⟩)) hk
theorem MoveOk.ok {l:Nodes} {room:Nat} {a b:ByteArray} (M:MoveOk l room a b):TreeOk (moveL l a b) room:=by
 have cases:∀ x∈moveL l a b,(∃ y∈movL l a,x=newX a b y)\/x∈restL l a b:=fun x hx=>by
  rcases List.mem_append.1 (M.perm.mem_iff.1 hx) with h | h
  ·obtain ⟨y,hy,rfl⟩:=List.mem_map.1 h;exact .inl ⟨y,hy,rfl⟩
  ·exact .inr h
 refine ⟨M.sorted,fun x hx=>?_,fun x hx=>?_,fun x hx=>?_,?_,fun x hx=>?_⟩
 ·rcases cases x hx with ⟨y,hy,rfl⟩ | h
  ·exact M.newMay hy
  ·exact M.tree.may x (mem_rest.1 h).1
 ·rcases cases x hx with ⟨y,hy,rfl⟩ | h
  ·exact M.tree.kind y (mem_mov.1 hy).1
  ·exact M.tree.kind x (mem_rest.1 h).1
 ·rcases cases x hx with ⟨y,hy,rfl⟩ | h
  ·show kindAt (moveL l a b) (parentS (newP a b y.1))=2
   obtain ⟨h1,h2⟩:=mem_mov.1 hy;obtain ⟨t,ht,h3⟩:=moved_form M.ma h2;rcases h3 with ⟨e,_⟩ | ⟨r,rfl,hw⟩
   ·rw [e,newP_self];refine M.stays M.home ?_
    cases hm:movedB a (parentS b) with
    | false=>rfl
    | true =>
     have hpm:mayB (parentS b)=true:=M.parMay M.home hm;have:=parent_moved M.ma M.mb hpm hm;rw [M.notb] at this
     cases this
   ·exact M.homeIn h1 ht
  ·obtain ⟨h1,h2,h3⟩:=mem_rest.1 h;refine M.stays (M.tree.home x h1) ?_
   cases hm:movedB a (parentS x.1) with
   | false=>rfl
   | true =>
    have hpm:mayB (parentS x.1)=true:=M.parMay (M.tree.home x h1) hm;have:=parent_moved M.ma (M.tree.may x h1) hpm hm;rw [h3] at this
    cases this
 ·rw [M.used];have:=drop_used M.tree.sorted.nodup b;have:=M.tree.used;omega
 ·rcases cases x hx with ⟨y,hy,rfl⟩ | h
  ·exact M.tree.target y (mem_mov.1 hy).1
  ·exact M.tree.target x (mem_rest.1 h).1
end
section
inductive Eff where
 | write (p data:ByteArray) (time:Int)
 | add (p data:ByteArray)
 | mkdir (p:ByteArray)
 | link (p target:ByteArray) (time:Int)
 | rename (p q:ByteArray)
 | remove (p:ByteArray)
def emp:ByteArray:=⟨#[]⟩
def cutTo (most:Nat) (d:ByteArray):ByteArray:=d.extract 0 (min most d.size)
def putE (l:Nodes) (room:Nat) (p:ByteArray) (n:Nd):Int×Nodes:=if usedL (insS l p n)<=room then (0,insS l p n) else (7,l)
def layE (l:Nodes) (room:Nat) (p:ByteArray) (n:Nd):Int×Nodes :=
 if homeE l p=0 then (if (findA l p).isSome then (6,l) else putE l room p n) else (homeE l p,l)
def writeE (l:Nodes) (room:Nat) (p data:ByteArray) (t:Int):Int×Nodes :=
 if homeE l p=0 then (if fileE l p=0 then putE l room p ⟨1,data,emp,t⟩ else (fileE l p,l)) else (homeE l p,l)
def addE (l:Nodes) (room:Nat) (p data:ByteArray):Int×Nodes :=
 match findA l p with
 | none=>(5,l)
 | some n=>if fileE l p=0 then putE l room p ⟨n.kind,n.data++data,n.target,n.time⟩ else (fileE l p,l)
def removeE (l:Nodes) (p:ByteArray):Int×Nodes :=
 if (findA l p).isSome then (if l.any fun x=>withinB x.1 p then (22,l) else (0,dropA l p)) else (5,l)
def dirsB (l:Nodes) (a b:ByteArray):Bool:=match findA l b with | some o=>decide (o.kind=2)||decide (((findA l a).getD nd0).kind=2) | none=>false
def renameE (l:Nodes) (a b:ByteArray):Int×Nodes :=
 if (findA l a).isSome then
  (if homeE l b=0 then (if dirsB l a b then (12,l) else if l.all fun x=>!withinB x.1 a||mayB (newP a b x.1) then (0,moveL l a b) else (10,l)) else (homeE l b,l))
 else (5,l)
def effE (l:Nodes) (room most:Nat):Eff->Int×Nodes
 | .write p d t=>writeE l room p (cutTo most d) t
 | .add p d=>addE l room p (cutTo most d)
 | .mkdir p=>layE l room p ⟨2,emp,emp,0⟩
 | .link p g t=>layE l room p ⟨3,emp,g,t⟩
 | .rename p q=>renameE l p q
 | .remove p=>removeE l p
def Eff.paths:Eff->List ByteArray
 | .write p _ _=>[p]
 | .add p _=>[p]
 | .mkdir p=>[p]
 | .link p _ _=>[p]
 | .rename p q=>[p,q]
 | .remove p=>[p]
def clockB (t:Int):Bool:=decide (0<=t)&&decide (t<=4294967295)
def Eff.right:Eff->Bool
 | .write _ _ t=>clockB t
 | .add _ _=>true
 | .mkdir _=>true
 | .link _ g t=>clockB t&&decide (0<g.size)&&decide (g.size<=160)
 | .rename p q=>!decide (p=q)&&!Lib.hasPrefix q.toList (p.toList++[47])
 | .remove _=>true
structure EffOk (x:Eff):Prop where
 paths:∀ p∈x.paths,mayB p=true
 right:x.right=true
theorem putE_ok {l:Nodes} {room:Nat} (T:TreeOk l room) {p:ByteArray} {n:Nd} (hp:mayB p=true) (hh:kindAt l (parentS p)=2) (hk:n.kind=1\/n.kind=2\/n.kind=3) (ho:∀ o,findA l p=some o->o.kind≠2) (ht:n.target.size<=160) :
  TreeOk (putE l room p n).2 room:=by
 unfold putE;split
 ·exact T.put hp hh hk ho ‹_› ht
 ·exact T
theorem fileE_zero {l:Nodes} {p:ByteArray} (h:fileE l p=0):∀ o,findA l p=some o->o.kind≠2/\o.kind≠3:=by
 intro o ho;unfold fileE at h;rw [ho] at h;dsimp only at h;split at h
 ·cases h
 ·split at h
  ·cases h
  ·exact ⟨‹_›,‹_›⟩
theorem layE_ok {l:Nodes} {room:Nat} (T:TreeOk l room) {p:ByteArray} {n:Nd} (hp:mayB p=true) (hk:n.kind=1\/n.kind=2\/n.kind=3) (ht:n.target.size<=160):TreeOk (layE l room p n).2 room:=by
 unfold layE;split
 ·rename_i hh;split
  ·exact T
  ·rename_i hn;refine putE_ok T hp (homeE_zero hp hh) hk (fun o ho=>?_) ht;rw [ho] at hn;simp at hn
 ·exact T
theorem rename_ok {l:Nodes} {room:Nat} (T:TreeOk l room) {a b:ByteArray} (ha:mayB a=true) (hb:mayB b=true) (hr:(Eff.rename a b).right=true) (h1:(findA l a).isSome=true) (h2:homeE l b=0) (h3:dirsB l a b=false) (h4:(l.all fun x=>!withinB x.1 a||mayB (newP a b x.1))=true):MoveOk l room a b:=by
 simp only [Eff.right,Bool.and_eq_true,Bool.not_eq_true',decide_eq_false_iff_not] at hr;refine ⟨T,ha,hb,hr.1,?_,h1,homeE_zero hb h2,fun o ho hk=>?_,fun x hx hw=>?_⟩
 ·unfold withinB;rw [ha,hb,mayB_nonempty ha,hr.2];rfl
 ·unfold dirsB at h3;rw [ho] at h3;simp [hk] at h3
 ·have:=List.all_eq_true.1 h4 x hx;rw [hw] at this
  simpa using this
theorem effE_ok {l:Nodes} {room most:Nat} (T:TreeOk l room) {x:Eff} (h:EffOk x):TreeOk (effE l room most x).2 room:=by
 obtain ⟨hp,hr⟩:=h
 cases x with
 | write p d t =>
  have hm:=hp p (by simp [Eff.paths])
  show TreeOk (writeE l room p (cutTo most d) t).2 room
  unfold writeE;split
  ·split
   ·exact putE_ok T hm (homeE_zero hm ‹_›) (.inl rfl) (fun o ho=>(fileE_zero ‹_› o ho).1) (show emp.size<=160 by decide)
   ·exact T
  ·exact T
 | add p d =>
  have hm:=hp p (by simp [Eff.paths])
  show TreeOk (addE l room p (cutTo most d)).2 room
  unfold addE;split
  ·exact T
  ·rename_i n hn;split
   ·exact putE_ok T hm (T.home (p,n) (findA_mem hn)) (T.kind (p,n) (findA_mem hn)) (fun o ho=>(fileE_zero ‹_› o ho).1) (T.target (p,n) (findA_mem hn))
   ·exact T
 | mkdir p=>exact layE_ok T (hp p (by simp [Eff.paths])) (.inr (.inl rfl)) (show emp.size<=160 by decide)
 | link p g t =>
  refine layE_ok T (hp p (by simp [Eff.paths])) (.inr (.inr rfl)) ?_;simp only [Eff.right,Bool.and_eq_true,decide_eq_true_eq] at hr;exact hr.2
 | rename a b =>
  show TreeOk (renameE l a b).2 room
  unfold renameE;split
  ·split
   ·split
    ·exact T
    ·split
     ·exact (rename_ok T (hp a (by simp [Eff.paths])) (hp b (by simp [Eff.paths])) hr ‹_› ‹_› (by simpa using ‹¬ dirsB l a b=true›) ‹_›).ok
     ·exact T
   ·exact T
  ·exact T
 | remove p =>
  have hm:=hp p (by simp [Eff.paths])
  show TreeOk (removeE l p).2 room
  unfold removeE;split
  ·split
   ·exact T
   ·rename_i hn;refine T.drop hm fun x hx=>?_
    cases hw:withinB x.1 p with
    | false=>rfl
    | true=>exact absurd (List.any_eq_true.2 ⟨x,hx,hw⟩) hn
  ·exact T
theorem effE_fail {l:Nodes} {room most:Nat} {x:Eff} (h:(effE l room most x).1≠0):(effE l room most x).2=l:=by
 have hput:∀ p n,(putE l room p n).1≠0->(putE l room p n).2=l:=fun p n=>by unfold putE;split <;> simp
 have hlay:∀ p n,(layE l room p n).1≠0->(layE l room p n).2=l:=fun p n=>by
  unfold layE;split
  ·split
   ·simp
   ·exact hput p n
  ·simp
 cases x with
 | write p d t =>
  revert h
  show (writeE l room p (cutTo most d) t).1≠0->(writeE l room p (cutTo most d) t).2=l
  unfold writeE;split
  ·split
   ·exact hput _ _
   ·simp
  ·simp
 | add p d =>
  revert h
  show (addE l room p (cutTo most d)).1≠0->(addE l room p (cutTo most d)).2=l
  unfold addE;split
  ·simp
  ·split
   ·exact hput _ _
   ·simp
 | mkdir p=>exact hlay _ _ h
 | link p g t=>exact hlay _ _ h
 | rename a b =>
  revert h
  show (renameE l a b).1≠0->(renameE l a b).2=l
  unfold renameE;split
  ·split
   ·split
    ·simp
    ·split <;> simp
   ·simp
  ·simp
 | remove p =>
  revert h
  show (removeE l p).1≠0->(removeE l p).2=l
  unfold removeE;split
  ·split <;> simp
  ·simp
structure Dk where
 live:Nodes
 lasts:Nodes
 room:Nat
 log:List Eff
 fused:Bool
 left:Int
def Dk.made (room:Nat):Dk:=⟨[],[],room,[],false,0⟩
def Dk.off (d:Dk):Bool:=d.fused&&decide (d.left=0)
def full:Nat:=1048576
def Dk.act (d:Dk) (x:Eff):Int×Dk :=
 if d.off then (20,d) else if x.paths.all mayB then (if x.right then
  (if (effE d.live d.room full x).1=0 then (0,{ d with live:=(effE d.live d.room full x).2,log:=d.log++[x],left:=d.left - 1 }) else ((effE d.live d.room full x).1,d))
 else (2,d)) else (10,d)
def pickE (room:Nat) (l:Nodes) (x:Eff) (k:Nat):Nodes:=if k=0 then l else if k=1 then (effE l room full x).2 else (effE l room (k - 2) x).2
def crashL (room:Nat):Nodes->List Eff->List UInt8->Nodes
 | l,x::r,k::ks=>crashL room (pickE room l x k.toNat) r ks
 | l,_,_=>l
structure DkOk (d:Dk):Prop where
 live:TreeOk d.live d.room
 lasts:TreeOk d.lasts d.room
 log:∀ x∈d.log,EffOk x
 r1:1024<=d.room
 r2:d.room<=1048576
 left:d.fused=true->0<=d.left
 same:d.log=[]->d.lasts=d.live
theorem TreeOk.nil (room:Nat):TreeOk [] room:=⟨List.Pairwise.nil,fun _ h=>(by cases h),fun _ h=>(by cases h),fun _ h=>(by cases h),Nat.zero_le _,fun _ h=>(by cases h)⟩
theorem DkOk.made {room:Nat} (h1:1024<=room) (h2:room<=1048576):DkOk (Dk.made room):=⟨TreeOk.nil _,TreeOk.nil _,fun _ h=>(by cases h),h1,h2,fun h=>(by cases h),fun _=>rfl⟩
theorem DkOk.act {d:Dk} (D:DkOk d) (x:Eff):DkOk (d.act x).2:=by
 unfold Dk.act;split
 ·exact D
 ·rename_i hoff;split
  ·rename_i hp;split
   ·rename_i hr;split
    ·have hx:EffOk x:=⟨fun p hp'=>List.all_eq_true.1 hp p hp',hr⟩;refine ⟨effE_ok D.live hx,D.lasts,fun y hy=>?_,D.r1,D.r2,fun hf=>?_,fun h=>by simp at h⟩
     ·rcases List.mem_append.1 hy with hy | hy
      ·exact D.log y hy
      ·simp at hy;subst hy;exact hx
     ·have:=D.left hf;unfold Dk.off at hoff;rw [show d.fused=true from hf] at hoff;simp at hoff
      show 0<=d.left - 1
      omega
    ·exact D
   ·exact D
  ·exact D
theorem crashL_step {room:Nat}:∀ (k:Nat) (log:List Eff) (picks:List UInt8) (l:Nodes) (x:Eff) (u:UInt8),log[k]?=some x->picks[k]?=some u->crashL room l (log.take (k+1)) (picks.take (k+1))=pickE room (crashL room l (log.take k) (picks.take k)) x u.toNat
 | 0,y::r,v::vs,l,x,u,h1,h2=>by
  cases h1;cases h2
  simp [crashL]
 | k+1,y::r,v::vs,l,x,u,h1,h2=>by
  have:=crashL_step (room:=room) k r vs (pickE room l y v.toNat) x u (by simpa using h1) (by simpa using h2);simp only [List.take_succ_cons,crashL];exact this
 | _,[],_,_,_,_,h1,_=>by simp at h1
 | _,_::_,[],_,_,_,_,h2=>by simp at h2
end
section
theorem step_append_k {P:Program} {ops:Array Oper} {o:Oper} {a:Act} {Q:Exit->Act->World->Prop} {K:Act->World->Prop} {E:Prop} {w:World} {t e:TypeId} {z:Value} {k bytes:Nat} (el:ElemK P t e z k bytes)
  (base:Nat) (v:Value) (n:Nat) (xs:List Value) (hown:w.ownsRow base e k v n xs) (g:Nat) (us:List Value) (hus:us.length=k) (s x:Operand)
  (hgd:o.guard=none) (ho:o.op=.call { callee:=.builtin .append,args:=#[s,x],argTypes:=#[t,t] })
  (hs:a.eval s=v) (hx:a.eval x=.slice (some ⟨g,0,none⟩) 1 1) (hnew:∀ (j:Nat) u,us[j]?=some u->w.cell? ⟨g,j,none⟩=some u) (h1:∀ u∈us,u.oneCell'=true) (hn:n<=68719476736) (hbase:base<=w.heap.size)
  (h:∀ v' w',w'.ownsRow base e k v' (n+1) (xs++us)->w.grownBy w' v.ownBlock->IsRow w' base (n+1) v'->v'.ownBlock=v.ownBlock\/v'.ownBlock=some w.heap.size->K (a.put o.dst v') w') :
  if Region.wanted o (yielded ops a.tmps)=true then Oper.wp P o a w K Q else E:=by
 have hw:Region.wanted o (yielded ops a.tmps)=true:=by simp [Region.wanted,hgd]
 rw [if_pos hw];obtain ⟨i,hi,hz,hsz,hby⟩:=info_parts el.info;have hf:=el.few
 have hnews:∀ j u,us[j]?=some u->w.cell? ((⟨g,0,none⟩:Addr).add j)=some u:=fun j u hj=>by
  rw [append_kw.add_off,Nat.zero_add];exact hnew j u hj
 have hm:n+1<=maxLen:=by unfold maxLen;omega
 have hb:(n+1)*bytes<=140737488355328:=by
  have:(n+1)*bytes<=(n+1)*1024:=Nat.mul_le_mul_left _ hf;omega
 obtain ⟨v',w',hr,h2,h3,_⟩:=run_append_own w base t o.type e i z k bytes el.ut hi hz hsz hby el.cells el.pos v n xs hown ⟨g,0,none⟩ 1 1 us (by omega) hnews h1 hm hb hbase;have hwh:=append_where el.ut hi hz hsz hown (by omega) hnews h1 (by omega) hm (by rw [hby];exact hb) hr;unfold Oper.wp execOp;simp only [ho,resolve,invoke,builtin,Sem.run_bind,Sem.run_pure,Result.andThen_ok,List.map_toArray,List.map_cons,List.map_nil,hs,hx,hr];refine h v' w' h2 h3 ?_ hwh;rcases h2.2 with ⟨_,h0⟩ | ⟨g',cap,cur,hv,hb',hh,hc,hm',_⟩
 ·omega
 ·refine ⟨g',cap,hv,hb',?_,hc,hm'⟩;rcases Nat.lt_or_ge g' w'.heap.size with hlt | hge
  ·exact hlt
  ·rw [Array.getElem?_eq_none hge] at hh;cases hh
theorem owns_ext {w w':World} {base k:Nat} {e:TypeId} {v:Value} {n:Nat} {xs:List Value} (h:w.ownsRow base e k v n xs) (x:Ext w w'):w'.ownsRow base e k v n xs:=by
 refine ⟨h.1,?_⟩;rcases h.2 with h1 | ⟨g,cap,cur,hv,hg,hh,hr⟩
 ·exact .inl h1
 ·exact .inr ⟨g,cap,cur,hv,hg,(x.block (Array.getElem?_eq_some_iff.1 hh).1).trans hh,hr⟩
theorem heap_new_drew {W:World} {o:Obj} {b:Nat} (h:b=W.heap.size):((W.alloc o).drew).heap[b]?=some o:=by subst h;exact heap_alloc_new W o
theorem append_where2 {P:Program} {w:World} {base:Nat} {t ty e:TypeId} {i:TypeInfo} {z:Value} {size:Nat} (ht:P.underlying t=some (.slice e)) (hi:P.info? e=some i) (hz:i.zero=some z) (hsize:i.size=size)
  {v:Value} {n:Nat} {xs:List Value} (hown:w.ownsRow base e size v n xs) {a:Addr} {m c:Nat} {news:List Value} (hl:news.length=m*size) (hnews:∀ j u,news[j]?=some u->w.cell? (a.add j)=some u) (h1:∀ u∈news,u.oneCell'=true)
  (hm:0<m) (h63:n+m<=maxLen) (hbytes:(n+m)*i.bytes<=140737488355328) {v':Value} {w':World} (hr:(Builtin.append_ #[t,t] ty #[v,.slice (some a) m c]).run P w=.ok v' w') :
  v'.ownBlock=v.ownBlock\/∀ k,k<w.heap.size->w'.heap[k]?=w.heap[k]?:=by
 subst hsize;have hsmall:n+m<=9223372036854775807:=by simp only [maxLen] at h63;omega
 have hal:∀ o k,k<w.heap.size->(w.drew.alloc o).heap[k]?=w.heap[k]?:=fun o k hk=>((Ext.refl w).drew.alloc o).block hk;rcases hown.2 with ⟨rfl,rfl⟩ | ⟨g,cap,cur,rfl,hbg,hg,hnc,hcm,hcs,htake⟩
 ·rw [run_append_nil w t ty e i z ht hi hz a m c news hl hnews hm (by omega) (by simp only [Nat.zero_add] at hbytes;omega)] at hr
  cases hr
  exact .inr (hal _)
 ·by_cases hroom:n+m<=cap
  ·rw [run_append_room w t ty e i ht hi g n cap cur hg a m c news hl hnews h1 hroom (by rw [hl,hcs,<-Nat.add_mul];exact Nat.mul_le_mul_right _ hroom)] at hr
   cases hr
   exact .inl rfl
  ·rw [run_append_grow w t ty e i z ht hi hz ⟨g,0,none⟩ n cap xs hown.1 (hown.cells (g:=g) rfl) a m c news hl hnews (by omega) (by omega) (growslice_fits (by omega) hbytes)] at hr
   cases hr
   exact .inr (hal _)
theorem step_append_keep {P:Program} {ops:Array Oper} {o:Oper} {a:Act} {Q:Exit->Act->World->Prop} {K:Act->World->Prop} {E:Prop} {w:World} {t e:TypeId} {z:Value} {bytes:Nat} (el:Elem P t e z bytes)
  (base:Nat) (v:Value) (n:Nat) (xs:List Value) (hown:w.ownsRow base e 1 v n xs) (g:Nat) (u:Value) (s x:Operand)
  (hgd:o.guard=none) (ho:o.op=.call { callee:=.builtin .append,args:=#[s,x],argTypes:=#[t,t] })
  (hs:a.eval s=v) (hx:a.eval x=.slice (some ⟨g,0,none⟩) 1 1) (hnew:w.cell? ⟨g,0,none⟩=some u) (h1:u.oneCell'=true) (hn:n<=68719476736) (hbase:base<=w.heap.size)
  (h:∀ v' w',w'.ownsRow base e 1 v' (n+1) (xs++[u])->w.grownBy w' v.ownBlock->IsRow w' base (n+1) v'->(∀ (b j:Nat) y,v.ownBlock=some b->xs[j]?=some y->w'.cell? ⟨b,j,none⟩=some y)->K (a.put o.dst v') w') :
  if Region.wanted o (yielded ops a.tmps)=true then Oper.wp P o a w K Q else E:=by
 have hw:Region.wanted o (yielded ops a.tmps)=true:=by simp [Region.wanted,hgd]
 rw [if_pos hw];obtain ⟨i,hi,hz,hsz,hby⟩:=info_parts el.info;have hf:=el.few;have hadd:∀ b k:Nat,(⟨b,0,none⟩:Addr).add k=⟨b,k,none⟩:=fun b k=>by rw [append_kw.add_off,Nat.zero_add]
 have hnews:∀ j y,[u][j]?=some y->w.cell? ((⟨g,0,none⟩:Addr).add j)=some y:=fun j y hj=>by
  rw [hadd]
  match j,hj with
  | 0,hj=>simp at hj;subst hj;exact hnew
 have h1':∀ y∈[u],y.oneCell'=true:=fun y hy=>by simp at hy;subst hy;exact h1
 have hm:n+1<=maxLen:=by unfold maxLen;omega
 have hb:(n+1)*bytes<=140737488355328:=by
  have:(n+1)*bytes<=(n+1)*1024:=Nat.mul_le_mul_left _ hf;omega
 obtain ⟨v',w',hr,h2,h3,_⟩:=run_append_own w base t o.type e i z 1 bytes el.ut hi hz hsz hby el.one (by decide) v n xs hown ⟨g,0,none⟩ 1 1 [u] rfl hnews h1' hm hb hbase;have hwh:=append_where2 el.ut hi hz hsz hown rfl hnews h1' (by omega) hm (by rw [hby];exact hb) hr;unfold Oper.wp execOp;simp only [ho,resolve,invoke,builtin,Sem.run_bind,Sem.run_pure,Result.andThen_ok,List.map_toArray,List.map_cons,List.map_nil,hs,hx,hr];refine h v' w' h2 h3 ?_ fun b j y hvb hj=>?_
 ·rcases h2.2 with ⟨_,h0⟩ | ⟨g',cap,cur,hv,hb',hh,hc,hm',_⟩
  ·omega
  ·refine ⟨g',cap,hv,hb',?_,hc,hm'⟩;rcases Nat.lt_or_ge g' w'.heap.size with hlt | hge
   ·exact hlt
   ·rw [Array.getElem?_eq_none hge] at hh;cases hh
 ·rcases hwh with hwh | hwh
  ·have:=h2.cells (hwh.trans hvb) j y (by rw [List.getElem?_append_left (List.getElem?_eq_some_iff.1 hj).1];exact hj)
   rwa [hadd] at this
  ·have h9:=hown.cells hvb j y hj;rw [hadd] at h9;have hlt:=lt_of_cell h9;unfold World.cell? at h9 ⊢;rw [hwh b hlt];exact h9
theorem step_append_m {P:Program} {ops:Array Oper} {o:Oper} {a:Act} {Q:Exit->Act->World->Prop} {K:Act->World->Prop} {E:Prop} {w:World} {t e:TypeId} {z:Value} {bytes:Nat} (el:Elem P t e z bytes)
  (base:Nat) (v:Value) (n:Nat) (xs:List Value) (hown:w.ownsRow base e 1 v n xs) (g:Nat) (us:List Value) (m:Nat) (hl:us.length=m) (s x:Operand)
  (hgd:o.guard=none) (ho:o.op=.call { callee:=.builtin .append,args:=#[s,x],argTypes:=#[t,t] })
  (hs:a.eval s=v) (hx:a.eval x=.slice (some ⟨g,0,none⟩) m m) (hnew:∀ (j:Nat) u,us[j]?=some u->w.cell? ⟨g,j,none⟩=some u) (h1:∀ u∈us,u.oneCell'=true) (hn:n+m<=68719476736) (hbase:base<=w.heap.size)
  (h:∀ v' w',w'.ownsRow base e 1 v' (n+m) (xs++us)->w.grownBy w' v.ownBlock->K (a.put o.dst v') w') :
  if Region.wanted o (yielded ops a.tmps)=true then Oper.wp P o a w K Q else E:=by
 have hw:Region.wanted o (yielded ops a.tmps)=true:=by simp [Region.wanted,hgd]
 rw [if_pos hw];obtain ⟨i,hi,hz,hsz,hby⟩:=info_parts el.info;have hf:=el.few
 have hnews:∀ j y,us[j]?=some y->w.cell? ((⟨g,0,none⟩:Addr).add j)=some y:=fun j y hj=>by
  rw [append_kw.add_off,Nat.zero_add];exact hnew j y hj
 have hm:n+m<=maxLen:=by unfold maxLen;omega
 have hb:(n+m)*bytes<=140737488355328:=by
  have:(n+m)*bytes<=(n+m)*1024:=Nat.mul_le_mul_left _ hf;omega
 obtain ⟨v',w',hr,h2,h3,_⟩:=run_append_own w base t o.type e i z 1 bytes el.ut hi hz hsz hby el.one (by decide) v n xs hown ⟨g,0,none⟩ m m us (by omega) hnews h1 hm hb hbase;unfold Oper.wp execOp;simp only [ho,resolve,invoke,builtin,Sem.run_bind,Sem.run_pure,Result.andThen_ok,List.map_toArray,List.map_cons,List.map_nil,hs,hx,hr];exact h v' w' h2 h3
end
section
def RN (v:Value):Option (DataW Value×List MemPlace):=some (.held v,[])
structure MapL (w:World) (b:Nat) (l:Nodes):Prop where
 nodup:(l.map (·.1)).Nodup
 small:∀ x∈l,x.1.size<=maxLen
 own:∃ D:DataW Value,w.ownsMap prog 9 RN b l.length D/\∀ s:ByteArray,Maps.has D (.string s.data.toList)=(findA l s).isSome/\∀ z,D.atKey (.string s.data.toList) z=(match findA l s with | some n=>.held (nv n) | none=>z)
theorem keyedN:Maps.Keyed prog 9:=Maps.string_keyed underlying9
theorem lawN:WideMaps.KeyLaw prog 9:=WideMaps.string_law underlying9
theorem MapL.lt {w:World} {b:Nat} {l:Nodes} (h:MapL w b l):b<w.heap.size:=h.own.choose_spec.1.lt
theorem MapL.kept {w w':World} {b:Nat} {l:Nodes} (h:MapL w b l) (k:w'.heap[b]?=w.heap[b]?):MapL w' b l:=by
 obtain ⟨h1,h2,D,⟨es,clock,h3,h4⟩,h5⟩:=h;exact ⟨h1,h2,D,⟨es,clock,k.trans h3,h4⟩,h5⟩
theorem MapL.ext {w w':World} {b:Nat} {l:Nodes} (h:MapL w b l) (x:Ext w w'):MapL w' b l:=h.kept (x.block h.lt)
theorem MapL.perm {w:World} {b:Nat} {l m:Nodes} (h:MapL w b l) (p:l.Perm m):MapL w b m:=by
 obtain ⟨h1,h2,D,h3,h4⟩:=h;refine ⟨(p.map _).nodup_iff.1 h1,fun x hx=>h2 x (p.mem_iff.2 hx),D,p.length_eq▸h3,fun s=>?_⟩;rw [<-perm_find h1 p s];exact h4 s
theorem MapL.made (w:World):MapL (w.alloc (.map #[] 0)) w.heap.size [] :=
 ⟨List.nodup_nil,fun _ h=>(by cases h),.map [],World.ownsMap_made _ _ _ _,fun _=>⟨rfl,fun _=>rfl⟩⟩
theorem tight {w:World} {b n:Nat} {D:DataW Value} (h:w.ownsMap prog 9 RN b n D):w.ownsMap prog 9 RN b (Maps.size D) D:=by
 obtain ⟨es,clock,h1,h2,_,rfl⟩:=h;exact ⟨es,clock,h1,h2,by simp [Maps.size,length_sorted],rfl⟩
theorem ba_data {a b:ByteArray} (h:a.data.toList=b.data.toList):a=b:=ba_ext (by rw [Lib.toList_data,Lib.toList_data];exact h)
theorem size_of {w:World} {b n:Nat} {D:DataW Value} {l:Nodes} (h:w.ownsMap prog 9 RN b n D) (hn:(l.map (·.1)).Nodup) (hh:∀ s:ByteArray,Maps.has D (.string s.data.toList)=(findA l s).isSome):Maps.size D=l.length:=by
 obtain ⟨es,rfl,hp,_⟩:=h.entries keyedN;obtain ⟨es',he,hk⟩:=h.keysOf
 cases he
 have hm:=perm_strKeys (ss:=l.map fun x=>x.1.data.toList) hp (fun p hp'=>by
  obtain ⟨key,hkey⟩:=hk p hp';obtain ⟨x,_,hx,_⟩:=Maps.keyOf_str underlying9 hkey
  exact ⟨x,hx⟩) (by
   rw [show (l.map fun x=>x.1.data.toList)=(l.map (·.1)).map fun x=>x.data.toList from by rw [List.map_map];rfl];exact List.pairwise_map.2 (hn.imp fun hne e=>hne (ba_data e))) (fun x=>by
   have:=hh ⟨x.toArray⟩;rw [show (⟨x.toArray⟩:ByteArray).data.toList=x from rfl] at this;rw [this,findA_isSome];constructor
   ·intro hx;obtain ⟨y,hy,e⟩:=List.mem_map.1 hx;refine List.mem_map.2 ⟨y,hy,?_⟩;rw [<-e]
   ·intro hx;obtain ⟨y,hy,e⟩:=List.mem_map.1 hx
    exact List.mem_map.2 ⟨y,hy,by rw [e]⟩)
 have:=hm.length_eq;simp [strKeys] at this;rw [this]
 first | done | rfl
theorem MapL.look_ok {w:World} {b:Nat} {l:Nodes} (h:MapL w b l) (s:ByteArray) (hs:s.size<=maxLen) :
  (Instr.lookup 142 (.map (some b)) (.string s) true).run prog w=.ok (.tuple #[nv ((findA l s).getD nd0),.bool (findA l s).isSome]) w:=by
 obtain ⟨_,_,D,h1,h2⟩:=h;obtain ⟨v,ps,hr,hv⟩:=h1.look_ok keyedN underlying142 (z:=nv nd0) (by kernel_rfl) (zd:=.held (nv nd0)) (zp:=[]) rfl (WideMaps.keyOf_string_mk underlying9 hs);obtain ⟨g1,g2⟩:=h2 s;rw [hr,g1];rw [g2] at hv
 have:v=nv ((findA l s).getD nd0):=by
  unfold RN at hv
  cases hf:findA l s with
  | none=>rw [hf] at hv;simp at hv;exact hv.1
  | some u=>rw [hf] at hv;simp at hv;exact hv.1
 rw [this]
theorem MapL.look {w:World} {b:Nat} {l:Nodes} (h:MapL w b l) (s:ByteArray) (hs:s.size<=maxLen) :
  (Instr.lookup 142 (.map (some b)) (.string s) false).run prog w=.ok (nv ((findA l s).getD nd0)) w:=by
 obtain ⟨_,_,D,h1,h2⟩:=h;obtain ⟨v,ps,hr,hv⟩:=h1.lookup keyedN underlying142 (z:=nv nd0) (by kernel_rfl) (zd:=.held (nv nd0)) (zp:=[]) rfl (WideMaps.keyOf_string_mk underlying9 hs);obtain ⟨g1,g2⟩:=h2 s;rw [hr];rw [g2] at hv
 have:v=nv ((findA l s).getD nd0):=by
  unfold RN at hv
  cases hf:findA l s with
  | none=>rw [hf] at hv;simp at hv;exact hv.1
  | some u=>rw [hf] at hv;simp at hv;exact hv.1
 rw [this]
theorem put_facts {w:World} {b n:Nat} {D:DataW Value} {l:Nodes} (s:ByteArray) (v:Nd) (h1:w.ownsMap prog 9 RN b n D)
  (h2:∀ x:ByteArray,Maps.has D (.string x.data.toList)=(findA l x).isSome/\∀ z,D.atKey (.string x.data.toList) z=(match findA l x with | some n=>.held (nv n) | none=>z)) :
  ∀ x:ByteArray,Maps.has (D.put (.string s.data.toList) (.held (nv v))) (.string x.data.toList)=(findA ((s,v)::dropA l s) x).isSome/\∀ z,(D.put (.string s.data.toList) (.held (nv v))).atKey (.string x.data.toList) z=(match findA ((s,v)::dropA l s) x with | some n=>.held (nv n) | none=>z):=by
 intro x;have hl:WideAt.IsKeyLit (Lit.string s.data.toList):=trivial;unfold findA;by_cases e:s=x
 ·subst e;rw [if_pos rfl];exact ⟨Maps.has_put_same h1.isMap hl _,fun z=>Maps.atKey_put_same h1.isMap hl _ _⟩
 ·rw [if_neg e,findA_drop,if_neg (Ne.symm e)];have hne:Lit.string x.data.toList≠Lit.string s.data.toList:=fun q=>e (ba_data (Lit.string.inj q)).symm;obtain ⟨g1,g2⟩:=h2 x;exact ⟨by rw [Maps.has_put_other hne,g1],fun z=>by rw [Maps.atKey_put_other hne,g2]⟩
theorem put_nodup {l:Nodes} (h:(l.map (·.1)).Nodup) (s:ByteArray) (v:Nd):(((s,v)::dropA l s).map (·.1)).Nodup:=by
 rw [List.map_cons,List.nodup_cons];refine ⟨fun hm=>?_,dropA_nodup h s⟩;obtain ⟨y,hy,e⟩:=List.mem_map.1 hm;unfold dropA at hy;have:=(List.mem_filter.1 hy).2;simp at this;exact this e
theorem room_lt {n:Nat} (h:n<1048576):n<maxLen:=Nat.lt_trans h (by unfold maxLen;decide)
set_option maxRecDepth 10000 in
theorem MapL.store {w:World} {b:Nat} {l:Nodes} (h:MapL w b l) (hn:l.length<1048576) (s:ByteArray) (hs:s.size<=maxLen) (v:Nd) :
  ∃ w',(Instr.mapUpdate 142 (.map (some b)) (.string s) (nv v)).run prog w=.ok () w'/\MapL w' b ((s,v)::dropA l s)/\w.mapTurned w' b:=by
 obtain ⟨h0,hsm,D,h1,h2⟩:=h;have hroom:=room_lt hn;obtain ⟨w',hr,ho,hg⟩:=h1.store keyedN underlying142 hroom (val:=nv v) (d:=.held (nv v)) (ps:=[]) (WideMaps.keyOf_string_mk underlying9 hs) rfl;have hf:=put_facts s v h1 h2;have hnd:=put_nodup h0 s v;refine ⟨w',hr,⟨hnd,fun x hx=>?_,_,size_of ho hnd (fun x=>(hf x).1)▸tight ho,hf⟩,hg⟩;rcases List.mem_cons.1 hx with rfl | hx
 ·exact hs
 ·exact hsm x (List.mem_filter.1 hx).1
theorem MapL.drop {w:World} {b:Nat} {l:Nodes} (h:MapL w b l) (s:ByteArray) (hs:s.size<=maxLen) (ty:TypeId) :
  ∃ w',(Builtin.delete_ #[142,9] ty #[.map (some b),.string s]).run prog w=.ok (.tuple #[]) w'/\MapL w' b (dropA l s)/\w.mapTurned w' b:=by
 obtain ⟨h0,hsm,D,h1,h2⟩:=h;obtain ⟨w',hr,ho,hg⟩:=h1.drop keyedN underlying142 (WideMaps.keyOf_string_mk underlying9 hs) ty
 have hf:∀ x:ByteArray,Maps.has (D.del (.string s.data.toList)) (.string x.data.toList)=(findA (dropA l s) x).isSome/\∀ z,(D.del (.string s.data.toList)).atKey (.string x.data.toList) z=(match findA (dropA l s) x with | some n=>.held (nv n) | none=>z):=fun x=>by
  rw [findA_drop];by_cases e:x=s
  ·subst e;rw [if_pos rfl];exact ⟨Maps.has_del_same,fun z=>Maps.atKey_del_same _⟩
  ·rw [if_neg e];have hne:Lit.string x.data.toList≠Lit.string s.data.toList:=fun q=>e (ba_data (Lit.string.inj q));obtain ⟨g1,g2⟩:=h2 x;exact ⟨by rw [Maps.has_del_other hne,g1],fun z=>by rw [Maps.atKey_del_other hne,g2]⟩
 have hnd:=dropA_nodup h0 s;exact ⟨w',hr,⟨hnd,fun x hx=>hsm x (List.mem_filter.1 hx).1,_,size_of ho hnd (fun x=>(hf x).1)▸tight ho,hf⟩,hg⟩
theorem MapL.entry {w:World} {b:Nat} {l:Nodes} (h:MapL w b l) (hn:l.length<1048576) (s:ByteArray) (hs:s.size<=maxLen) (v:Nd) :
  ∃ v0 st w1,(Instr.mapEntry 142 (.map (some b)) (.string s)).run prog w=.ok (.tuple #[v0,goInt st]) w1/\w.grownBy w1 (some b)/\w1.heap.size=w.heap.size /\
   ∀ w2,w2.heap[b]?=w1.heap[b]?->∃ w',(Instr.entryStore 142 (.map (some b)) (goInt st) (nv v)).run prog w2=.ok () w'/\MapL w' b ((s,v)::dropA l s)/\w2.grownBy w' (some b)/\w'.heap.size=w2.heap.size:=by
 obtain ⟨w9,hr9,hm9,_⟩:=h.store hn s hs v;obtain ⟨D,⟨es,clock,hb,F,_,_⟩,_⟩:=h.own;obtain ⟨v0,st,es1,clock1,h1,_,h3⟩:=WideElems.entry_then_store lawN underlying142 (z:=nv nd0) (fun u=>by kernel_rfl) hb F (WideMaps.keyOf_string_mk underlying9 hs);have hlt:=ltB hb;have hsb:∀ (u:World) o,b<u.heap.size->(ChangeMaps.setBlock u b o).heap[b]?=some o:=fun u o hu=>by unfold ChangeMaps.setBlock;simp [hu]
 have hso:∀ (u:World) o i,i≠b->(ChangeMaps.setBlock u b o).heap[i]?=u.heap[i]?:=fun u o i hi=>by unfold ChangeMaps.setBlock;simp [Ne.symm hi]
 have hss:∀ (u:World) o,(ChangeMaps.setBlock u b o).heap.size=u.heap.size:=fun u o=>by unfold ChangeMaps.setBlock;simp
 refine ⟨v0,st,_,h1,⟨rfl,rfl,rfl,by rw [hss];exact Nat.le_refl _,fun i _ hi=>hso _ _ _ fun e=>hi (by rw [e])⟩,hss _ _,fun w2 hw2=>?_⟩;rw [hsb _ _ hlt] at hw2;obtain ⟨es',clock',h4,h5⟩:=h3 w2 (nv v) hw2;refine ⟨_,h4,?_,⟨rfl,rfl,rfl,by rw [hss];exact Nat.le_refl _,fun i _ hi=>hso _ _ _ fun e=>hi (by rw [e])⟩,hss _ _⟩;rw [hr9] at h5;injection h5 with _ h5
 subst h5;exact hm9.kept (by rw [hsb _ _ (ltB hw2),hsb _ _ hlt])
end
section
theorem results_row1 {P:Program} {fn:Func} {p u:Tmp} {ty:TypeId} (h:fn.results=#[.cell p ty,.tmp u]) (tmps:Array Value) (w:World) (g:Nat) (t:TypeId) (cs:Array Value) (fr:Nat×Nat) (d:TypeDesc)
  (hp:tmps.getD p undef=.pointer (some ⟨g,0,none⟩)) (hg:w.heap[g]?=some (.cells cs t fr))
  (hu:P.underlying ty=some d) (hd:(match d with | .struct _ | .array _ _=>true | _=>false)=true) (hi:(P.info? ty).map (·.size)=some cs.size) :
  (results fn tmps).run P w=.ok (.tuple #[.agg cs,tmps.getD u undef]) w:=by
 rw [results_cell_tmp h,hp];simp [asAddr,Result.andThen,run_loadVar_row w g t ty cs fr d hg hu hd hi]
end
section
structure ActR where
 kind:Int
 p:ByteArray
 q:ByteArray
 text:ByteArray
 long:Int
 time:Int
 picks:List UInt8
def dataL (t:ByteArray) (n:Nat):List UInt8:=(List.range n).map fun i=>t.toList.getD (i % t.size) 0
def dataN (t:ByteArray) (long:Int):Nat:=if t.size=0 then 0 else min long.toNat 3000
def dataS (t:ByteArray) (long:Int):ByteArray:=⟨(dataL t (dataN t long)).toArray⟩
def ActR.data (a:ActR):ByteArray:=dataS a.text a.long
def reach:Nat:=140737488351232
def BytesIn (w:World) (v:Value) (ks:List UInt8):Prop :=
 ∃ a cap,v=.slice a ks.length cap/\ks.length<=cap/\cap<=maxLen/\ks.length<=reach/\∀ (k:Nat) u,ks[k]?=some u->∃ g o,a=some ⟨g,o,none⟩/\w.cell? ⟨g,o+k,none⟩=some (.int .u8 u.toNat)
structure ActOk (x:ActR):Prop where
 kind:IntKind.i64.min<=x.kind/\x.kind<=IntKind.i64.max
 long:IntKind.i64.min<=x.long/\x.long<=IntKind.i64.max
 p:x.p.size<=reach
 q:x.q.size<=reach
 text:x.text.size<=reach
theorem BytesIn.ext {w w':World} {v:Value} {ks:List UInt8} (h:BytesIn w v ks) (x:Ext w w'):BytesIn w' v ks:=by
 obtain ⟨a,cap,h1,h2,h3,h4,h5⟩:=h;refine ⟨a,cap,h1,h2,h3,h4,fun k u hk=>?_⟩;obtain ⟨g,o,e,hc⟩:=h5 k u hk;exact ⟨g,o,e,(x.cell (lt_of_cell hc)).trans hc⟩
end
section
section
variable {P:Program} {ops:Array Oper} {Q:Exit->Act->World->Prop} {md:Region.Mode} {S:World->Prop} {o:Oper} {a:Act}
theorem yieldsIf_load_row (hgd:o.guard=none) (ty:TypeId) (x:Operand) (ho:o.op=.load ty x) (g:Nat) (hx:a.eval x=.pointer (some ⟨g,0,none⟩)) (t:TypeId) (cs:Array Value) (fr:Nat×Nat) (d:TypeDesc)
  (hg:∀ w,S w->w.heap[g]?=some (.cells cs t fr)) (hu:P.underlying ty=some d) (hd:(match d with | .struct _ | .array _ _=>true | _=>false)=true) (hi:(P.info? ty).map (·.size)=some cs.size):YieldsIf P ops S o (.agg cs) a :=
 .inl ⟨by simp only [Region.wanted,hgd],fun w hw=>by
  unfold execOp
  simp only [ho,hx,Instr.loadAt,Instr.sureAddr,Sem.run_bind,Sem.run_pure,Result.andThen_ok,run_loadVar_row w g t ty cs fr d (hg w hw) hu hd hi]⟩
theorem yieldsIf_build (hgd:o.guard=none) (t:TypeId) (parts:Array (Nat×Operand)) (ho:o.op=.build t parts) (cells:Array Value) (hf:P.built t (parts.toList.map fun p=>(p.1,a.eval p.2))=some cells):YieldsIf P ops S o (.agg cells) a :=
 .inl ⟨by simp only [Region.wanted,hgd],fun w _=>by
  unfold execOp
  simp only [ho,Sem.run_bind,Sem.run_pure,Result.andThen_ok,run_build w t _ cells (by rw [Array.toList_map];exact hf)]⟩
theorem yieldsIf_move (hgd:o.guard=none) (x:Operand) (ho:o.op=.move x) {v:Value} (hx:a.eval x=v):YieldsIf P ops S o v a :=
 .inl ⟨by simp only [Region.wanted,hgd],fun w _=>by
  unfold execOp;simp only [ho,hx]
  rfl⟩
theorem yieldsIf_assign (hgd:o.guard=none) (x:Operand) (ho:o.op=.assign x) {v:Value} (hx:a.eval x=v):YieldsIf P ops S o v a :=
 .inl ⟨by simp only [Region.wanted,hgd],fun w _=>by
  unfold execOp;simp only [ho,hx]
  rfl⟩
theorem drop_get {l:List Oper} {i:Nat} {x:Oper} {rest:List Oper} (h:l.drop i=x::rest):l[i]?=some x:=by
 have:=congrArg (·[0]?) h
 simpa [List.getElem?_drop] using this
theorem ops_get {i:Nat} {rest:List Oper} (h:ops.toList.drop i=o::rest):ops[i]?=some o:=by
 rw [<-Array.getElem?_toList];exact drop_get h
theorem wpAnyH_takeL {i:Nat} {v:Value} {fuel:Nat} {listed:Array Bool} {w:World} {rest:List Oper} (hi:ops.toList.drop i=o::rest)
  (hs:Region.noSelect ops=true) (hf:Region.free md ops listed i=true) (hr:(Region.ready md ops listed).contains i=true)
  (hQ:∀ c a w,Q (.panic c) (a.put o.dst v) w->Q (.panic c) a w) (hy:YieldsIf P ops S o v a) (hS:S w)
  (h:wpAnyH P md ops Q S fuel (listed.setIfInBounds i true) (a.put o.dst v) w):wpAnyH P md ops Q S (fuel+1) listed a w:=wpAnyH_take (ops_get hi) hs hf hr hQ hy hS h
theorem wpAnyH_one {i:Nat} {v:Value} {fuel:Nat} {listed:Array Bool} {w w':World} {rest:List Oper} (hr:Region.ready md ops listed=[i]) (hi:ops.toList.drop i=o::rest) (hgd:o.guard=none) (hrun:(execOp a.eval o).run P w=.ok (.value v) w') (hS:S w')
  (h:wpAnyH P md ops Q S fuel (listed.setIfInBounds i true) (a.put o.dst v) w'):wpAnyH P md ops Q S (fuel+1) listed a w :=
 wpAnyH_all hr (by simp) fun j hj=>by
  obtain rfl:=List.mem_singleton.1 hj;unfold wpOp;simp only [ops_get hi];rw [if_pos (by simp only [Region.wanted,hgd])];left;unfold Oper.wp;rw [hrun];exact ⟨hS,h⟩
theorem run_boxOp (t:TypeId) (x:Operand) (ho:o.op=.box t x) (w:World) (cells:Array Value) (hx:(a.eval x).cells=cells):(execOp a.eval o).run P w=.ok (.value (.pointer (some ⟨w.heap.size,0,none⟩))) (w.alloc (.cells cells t)):=by
 subst hx;unfold execOp;simp only [ho,Sem.run_bind,Instr.box,newVar,newRow,run_newObj_alloc,Sem.run_pure,Result.andThen_ok]
theorem run_convertOp (t u:TypeId) (x:Operand) (ho:o.op=.convert t u x) (w w':World) (v:Value) (h:(convert t u (a.eval x)).run P w=.ok v w'):(execOp a.eval o).run P w=.ok (.value v) w':=by
 unfold execOp;simp only [ho,Sem.run_bind,Sem.run_pure,Result.andThen_ok,h]
theorem run_makeOp (t:TypeId) (x y:Operand) (ho:o.op=.makeSlice t x y) (w w':World) (v:Value) (h:(Instr.makeSlice t (a.eval x) (a.eval y)).run P w=.ok v w'):(execOp a.eval o).run P w=.ok (.value v) w':=by
 unfold execOp;simp only [ho,Sem.run_bind,Sem.run_pure,Result.andThen_ok,h]
def headH (P:Program) (md:Region.Mode) (ops:Array Oper) (Q:Exit->Act->World->Prop) (S:World->Prop) (n:Nat) (L:Array Bool->Act->World->Prop):Nat->Array Bool->Act->World->Prop
 | 0,listed,a,w=>L listed a w
 | f+1,listed,a,w=>Region.ready md ops listed≠[]/\∀ i∈Region.ready md ops listed,i<n/\wpOp P ops Q i (fun a' w'=>S w'/\headH P md ops Q S n L f (listed.setIfInBounds i true) a' w') a w
theorem wpAny_of_headH {n g:Nat} {L:Array Bool->Act->World->Prop} (hL:∀ listed a w,L listed a w->wpAny P md ops Q g listed a w) :
  ∀ (f:Nat) (listed:Array Bool) (a:Act) (w:World),headH P md ops Q S n L f listed a w->wpAny P md ops Q (f+g) listed a w
 | 0,listed,a,w,h=>by rw [Nat.zero_add];exact hL _ _ _ h
 | f+1,listed,a,w,h=>by
  rw [show f+1+g=(f+g)+1 from by omega];exact ⟨fun h0=>absurd h0 h.1,fun i hi=>wpOp_mono (fun a' w' h'=>wpAny_of_headH hL f _ a' w' h'.2) (h.2 i hi).2⟩
theorem headH_first {n i:Nat} {oi:Oper} {v:Value} {L:Array Bool->Act->World->Prop} (hi:ops[i]?=some oi) (hsel:∀ (j:Nat) (o:Oper) cs b,ops[j]?=some o->o.op≠.select cs b)
  (hQ:∀ c a w,Q (.panic c) (a.put oi.dst v) w->Q (.panic c) a w) (hs:Region.sinkB md ops n=true) (hc:Region.chainB md ops n=true) (hn:n<ops.size) (hin:i<n) (hdone:∀ listed a w,L listed a w->∀ j∈Region.ready md ops listed,n<=j)
  (f:Nat):∀ (listed:Array Bool) (a:Act) (w:World),HeadInv md ops n listed ->
   (∀ j oj,ops[j]?=some oj->j≠i->listed.getD j true=false->(∀ e∈oj.after,Region.binds md e=true->e.on≠i)->oi.apart ops oj=true) ->
   i∈Region.ready md ops listed->YieldsIf P ops S oi v a->S w->headH P md ops Q S n L f (listed.setIfInBounds i true) (a.put oi.dst v) w->headH P md ops Q S n L (f+1) listed a w:=by
 have head:∀ listed:Array Bool,HeadInv md ops n listed->i∈Region.ready md ops listed->∀ j∈Region.ready md ops listed,j<n:=fun listed inv hr j hj=>by
  rcases Nat.lt_or_ge j n with h | h
  ·exact h
  ·exact absurd hj (tail_waits hs hc hn inv _ i rfl hin (mem_ready.1 hr).1 j h)
 induction f with
 | zero =>
  intro listed a w inv _ hr hy hS H;refine ⟨fun h=>(by rw [h] at hr;cases hr),fun j hj=>⟨head listed inv hr j hj,?_⟩⟩;by_cases hji:j=i
  ·subst hji;exact hy.wpOp hi hS ⟨hS,H⟩
  ·have h1:=hdone _ _ _ H j (ready_mono hj hji);have h2:=head listed inv hr j hj;omega
 | succ f ih =>
  intro listed a w inv hfree hr hy hS H;have hun:=(mem_ready.1 hr).1;refine ⟨fun h=>(by rw [h] at hr;cases hr),fun j hj=>⟨head listed inv hr j hj,?_⟩⟩;by_cases hji:j=i
  ·subst hji;exact hy.wpOp hi hS ⟨hS,H⟩
  ·have h1:=(H.2 j (ready_mono hj hji)).2;obtain ⟨hjun,oj,hoj,hall⟩:=mem_ready.1 hj
   have hnot:∀ e∈oj.after,Region.binds md e=true->e.on≠i:=fun e he hb heq=>by
    have h1:=hall e he hb;rw [heq,getD_both hun] at h1
    cases h1
   have h2:=wpOp_putIf hoj (hfree j oj hoj hji hjun hnot) (fun cs b=>hsel i oi cs b hi) (fun cs b=>hsel j oj cs b hoj) hQ hy h1;refine wpOp_mono (fun a' w' h3=>⟨h3.2.1,ih (listed.setIfInBounds j true) a' w' (inv.set hj (head listed inv hr j hj)) (fun k ok hk hki hun hno=>hfree k ok hk hki ?_ hno) (ready_mono hr (Ne.symm hji)) h3.1 h3.2.1 ?_⟩) h2
   ·by_cases hjk:j=k
    ·subst hjk;exact hjun
    ·rw [getD_set_ne true hjk] at hun;exact hun
   ·rw [Array.setIfInBounds_comm _ _ hji];exact h3.2.2
structure HeadAt (P:Program) (ops:Array Oper) (Q:Exit->Act->World->Prop) (S:World->Prop) (n f:Nat) (listed:Array Bool) (a:Act) (w:World):Prop where
 go:HeadInv .any ops n listed->headH P .any ops Q S n (fun listed' a' w'=>Region.seqB .any ops (ops.size - n) n listed'=true/\wpList P ops Q (ops.toList.drop n) a' w') f listed a w
theorem HeadAt.take {n f i:Nat} {v:Value} {listed:Array Bool} {w:World} {rest:List Oper} (hi:ops.toList.drop i=o::rest) (hs:Region.noSelect ops=true) (hs1:Region.sinkB .any ops n=true) (hs2:Region.chainB .any ops n=true) (hn:decide (n<ops.size)=true) (hin:decide (i<n)=true)
  (hf:Region.free .any ops listed i=true) (hr:(Region.ready .any ops listed).contains i=true) (hQ:∀ c a w,Q (.panic c) (a.put o.dst v) w->Q (.panic c) a w) (hy:YieldsIf P ops S o v a) (hS:S w)
  (h:HeadAt P ops Q S n f (listed.setIfInBounds i true) (a.put o.dst v) w):HeadAt P ops Q S n (f+1) listed a w :=
 ⟨fun inv=>headH_first (ops_get hi) (Region.noSelect_spec hs) hQ hs1 hs2 (of_decide_eq_true hn) (of_decide_eq_true hin) (fun _ _ _ hL=>seqB_ready hL.1) f listed a w inv (Region.free_spec (ops_get hi) hf) (by simpa using hr) hy hS
  (h.go (inv.set (by simpa using hr) (of_decide_eq_true hin)))⟩
theorem HeadAt.one {n f i:Nat} {v:Value} {listed:Array Bool} {w w':World} {rest:List Oper} (hin:decide (i<n)=true) (hr:Region.ready .any ops listed=[i]) (hi:ops.toList.drop i=o::rest) (hw:Region.wanted o (yielded ops a.tmps)=true) (hrun:(execOp a.eval o).run P w=.ok (.value v) w') (hS:S w')
  (h:HeadAt P ops Q S n f (listed.setIfInBounds i true) (a.put o.dst v) w'):HeadAt P ops Q S n (f+1) listed a w :=
 ⟨fun inv=>⟨by rw [hr];simp,fun j hj=>by
  have hj':=hj;rw [hr] at hj;obtain rfl:=List.mem_singleton.1 hj;refine ⟨of_decide_eq_true hin,?_⟩;unfold wpOp;simp only [ops_get hi];rw [if_pos hw];left;unfold Oper.wp;rw [hrun]
  exact ⟨hS,h.go (inv.set hj' (of_decide_eq_true hin))⟩⟩⟩
theorem HeadAt.call {n f i:Nat} {F:FuncId} {args:Array Value} {listed:Array Bool} {w:World} {rest:List Oper} (hin:decide (i<n)=true) (hr:Region.ready .any ops listed=[i]) (hi:ops.toList.drop i=o::rest) (hw:Region.wanted o (yielded ops a.tmps)=true) (hrun:(execOp a.eval o).run P w=.ok (.enter F args) w)
  (h:Calls P F args w fun e w'=>∃ v,e=.returned v/\S w'/\HeadAt P ops Q S n f (listed.setIfInBounds i true) (a.put o.dst v) w'):HeadAt P ops Q S n (f+1) listed a w :=
 ⟨fun inv=>⟨by rw [hr];simp,fun j hj=>by
  have hj':=hj;rw [hr] at hj;obtain rfl:=List.mem_singleton.1 hj;refine ⟨of_decide_eq_true hin,?_⟩;unfold wpOp;simp only [ops_get hi];rw [if_pos hw];left;unfold Oper.wp;rw [hrun];refine h.mono ?_;rintro e w' ⟨v,rfl,hS,hh⟩
  exact ⟨hS,hh.go (inv.set hj' (of_decide_eq_true hin))⟩⟩⟩
theorem HeadAt.done {n:Nat} {listed:Array Bool} {w:World} (hB:Region.seqB .any ops (ops.size - n) n listed=true) (h:wpList P ops Q (ops.toList.drop n) a w):HeadAt P ops Q S n 0 listed a w:=⟨fun _=>⟨hB,h⟩⟩
theorem wp_region_head {id n:Nat} {w:World} {l:List Oper} (hm:P.follows .mixedOrders=true) (hn:decide (n<l.length)=true)
  (h:HeadAt P l.toArray Q S n n (Array.replicate l.toArray.size false) a w.drew):(Code.region id l.toArray true).wp P Q a w:=by
 have hn':n<l.length:=of_decide_eq_true hn
 have inv0:HeadInv .any l.toArray n (Array.replicate l.toArray.size false) :=
  ⟨by simp,fun j oj _ hl=>(by rw [getD_replicate_false] at hl;cases hl),fun t _ ht=>getD_in (by simpa using ht) (getD_replicate_false _ _)⟩
 refine wp_region_any hm ?_
 have:=wpAny_of_headH (Q:=Q) (g:=l.toArray.size - n) (fun listed a' w' hL=>by
  have hdl:(l.toArray.toList.drop n).length=l.toArray.size - n:=by simp
  have:=wpAny_of_seq (P:=P) (md:=.any) (Q':=Q) (l.toArray.toList.drop n) n listed a' w' (fun j=>by simp [List.getElem?_drop]) (by rw [hdl];exact hL.1) hL.2
  rwa [hdl] at this) _ _ _ _ (h.go inv0)
 rw [show n+(l.toArray.size - n)=l.toArray.size from by simp;omega] at this;exact this
theorem wpAnyH_call {i:Nat} {F:FuncId} {args:Array Value} {fuel:Nat} {listed:Array Bool} {w:World} {rest:List Oper} (hr:Region.ready md ops listed=[i]) (hi:ops.toList.drop i=o::rest) (hgd:o.guard=none) (hrun:(execOp a.eval o).run P w=.ok (.enter F args) w)
  (h:Calls P F args w fun e w'=>∃ v,e=.returned v/\S w'/\wpAnyH P md ops Q S fuel (listed.setIfInBounds i true) (a.put o.dst v) w'):wpAnyH P md ops Q S (fuel+1) listed a w :=
 wpAnyH_all hr (by simp) fun j hj=>by
  obtain rfl:=List.mem_singleton.1 hj;unfold wpOp;simp only [ops_get hi];rw [if_pos (by simp only [Region.wanted,hgd])];left;unfold Oper.wp;rw [hrun];refine h.mono ?_;rintro e w' ⟨v,rfl,hS,hh⟩;exact ⟨hS,hh⟩
end
end
section
end
section
def RV (v:Value):Option (DataW Value×List MemPlace):=some (.held v,[])
def MapAt (w:World) (b n:Nat) (f:ByteArray->Option Value):Prop:=∃ D:DataW Value,w.ownsMap prog 9 RV b n D/\∀ s:ByteArray,s.size<=maxLen ->
 (Maps.has D (.string s.data.toList)=(f s).isSome/\∀ z,D.atKey (.string s.data.toList) z=(match f s with | some v=>.held v | none=>z))
theorem MapAt.made (w:World):MapAt (w.alloc (.map #[] 0)) w.heap.size 0 fun _=>none :=
 ⟨.map [],World.ownsMap_made _ _ _ _,fun _ _=>⟨rfl,fun _=>rfl⟩⟩
theorem MapAt.kept {w w':World} {b n:Nat} {f:ByteArray->Option Value} (h:MapAt w b n f) (k:w'.heap[b]?=w.heap[b]?):MapAt w' b n f:=by
 obtain ⟨D,⟨es,clock,h1,h2⟩,h3⟩:=h;exact ⟨D,⟨es,clock,k.trans h1,h2⟩,h3⟩
theorem MapAt.lt {w:World} {b n:Nat} {f:ByteArray->Option Value} (h:MapAt w b n f):b<w.heap.size:=h.choose_spec.1.lt
theorem MapAt.ext {w w':World} {b n:Nat} {f:ByteArray->Option Value} (h:MapAt w b n f) (x:Ext w w'):MapAt w' b n f:=h.kept (x.block h.lt)
theorem MapAt.congr {w:World} {b n:Nat} {f g:ByteArray->Option Value} (h:MapAt w b n f) (k:∀ s,s.size<=maxLen->f s=g s):MapAt w b n g:=by
 obtain ⟨D,h1,h2⟩:=h;exact ⟨D,h1,fun s hs=>by rw [<-k s hs];exact h2 s hs⟩
theorem keyed9:Maps.Keyed prog 9:=Maps.string_keyed underlying9
theorem MapAt.look_ok {w:World} {b n:Nat} {f:ByteArray->Option Value} (h:MapAt w b n f) {t e:TypeId} (ht:prog.underlying t=some (.map 9 e)) {z:Value} (hz:(zeroValue e).run prog w=.ok z w) (s:ByteArray) (hs:s.size<=maxLen) :
  (Instr.lookup t (.map (some b)) (.string s) true).run prog w=.ok (.tuple #[(f s).getD z,.bool (f s).isSome]) w:=by
 obtain ⟨D,h1,h2⟩:=h;obtain ⟨v,ps,hr,hv⟩:=h1.look_ok keyed9 ht hz (zd:=.held z) (zp:=[]) rfl (WideMaps.keyOf_string_mk underlying9 hs);obtain ⟨g1,g2⟩:=h2 s hs;rw [hr,g1];rw [g2 (.held z)] at hv
 have:v=(f s).getD z:=by
  unfold RV at hv
  cases hf:f s with
  | none=>rw [hf] at hv;simp at hv;exact hv.1
  | some u=>rw [hf] at hv;simp at hv;exact hv.1
 rw [this]
theorem MapAt.look {w:World} {b n:Nat} {f:ByteArray->Option Value} (h:MapAt w b n f) {t e:TypeId} (ht:prog.underlying t=some (.map 9 e)) {z:Value} (hz:(zeroValue e).run prog w=.ok z w) (s:ByteArray) (hs:s.size<=maxLen) :
  (Instr.lookup t (.map (some b)) (.string s) false).run prog w=.ok ((f s).getD z) w:=by
 obtain ⟨D,h1,h2⟩:=h;obtain ⟨v,ps,hr,hv⟩:=h1.lookup keyed9 ht hz (zd:=.held z) (zp:=[]) rfl (WideMaps.keyOf_string_mk underlying9 hs);obtain ⟨g1,g2⟩:=h2 s hs;rw [hr];rw [g2 (.held z)] at hv
 have:v=(f s).getD z:=by
  unfold RV at hv
  cases hf:f s with
  | none=>rw [hf] at hv;simp at hv;exact hv.1
  | some u=>rw [hf] at hv;simp at hv;exact hv.1
 rw [this]
theorem MapAt.store {w:World} {b n:Nat} {f:ByteArray->Option Value} (h:MapAt w b n f) {t e:TypeId} (ht:prog.underlying t=some (.map 9 e)) (hn:n<maxLen) (s:ByteArray) (hs:s.size<=maxLen) (v:Value) :
  ∃ w',(Instr.mapUpdate t (.map (some b)) (.string s) v).run prog w=.ok () w'/\MapAt w' b (n+1) (fun x=>if x=s then some v else f x)/\w.grownBy w' (some b)/\w'.heap.size=w.heap.size:=by
 obtain ⟨D,h1,h2⟩:=h;obtain ⟨w',hr,ho,hg⟩:=h1.store keyed9 ht hn (val:=v) (d:=.held v) (ps:=[]) (WideMaps.keyOf_string_mk underlying9 hs) rfl;refine ⟨w',hr,⟨_,ho,fun x hx=>?_⟩,hg.grown,?_⟩
 ·have hl:WideAt.IsKeyLit (Lit.string s.data.toList):=keyed9.key (WideMaps.keyOf_string_mk underlying9 hs);by_cases e:x=s
  ·subst e;dsimp only;rw [if_pos rfl];exact ⟨Maps.has_put_same h1.isMap hl _,fun z=>Maps.atKey_put_same h1.isMap hl _ _⟩
  ·dsimp only;rw [if_neg e]
   have hne:Lit.string x.data.toList≠Lit.string s.data.toList:=fun q=>e (by
    have:x.data.toList=s.data.toList:=by injection q
    exact ba_ext (by rw [Lib.toList_data,Lib.toList_data];exact this))
   obtain ⟨g1,g2⟩:=h2 x hx;exact ⟨by rw [Maps.has_put_other hne,g1],fun z=>by rw [Maps.atKey_put_other hne,g2]⟩
 ·obtain ⟨es,c,es',c',_,hw⟩:=hg;rw [hw];exact Array.size_setIfInBounds
end
section
set_option maxHeartbeats 800000 in
theorem rank_any (s:ByteArray) (k:Nat) (w:World) (_hs:s.size<4611686018427387904) (_hk:k<4611686018427387904) :
  Calls prog 249 #[.string s,.int .i64 k] w fun e w'=>e=.returned (.int .i64 (rankL s.toList k))/\w'=w:=by
 by_cases h:k<s.size
 ·have G:=lh (getElem_toList s k h);have HR:=lh (show rankL s.toList k=(if s[k]=47 then (1:Int) else 2+(s[k].toNat:Int)) from by unfold rankL;rw [G.out]);by_cases c:s[k]=47
  ·have d1:((s[k].toNat:Int)==47)=true:=by simp [c]
   have HN:=lh (HR.out.trans (by rw [if_pos c]));clear c;go_enter func249,ntmps249;go_wp2;go_ret;exact ⟨ret_int HN.out.symm,rfl⟩
  ·have d1:=toNat_ne47 c;have HN:=lh (HR.out.trans (by rw [if_neg c]));clear c;have hb:s[k].toNat<256:=s[k].toNat_lt;go_enter func249,ntmps249;go_wp2;go_ret;exact ⟨ret_int (by rw [HN.out]),rfl⟩
 ·have HN:=lh (show rankL s.toList k=0 from by unfold rankL;rw [List.getElem?_eq_none (by rw [len_toList];omega)]);go_enter func249,ntmps249;go_wp2;go_ret;exact ⟨ret_int HN.out.symm,rfl⟩
theorem rank_cmp (l m:List UInt8) (k:Nat) :
  (rankL l k<rankL m k->cmpL (l.drop k) (m.drop k)=-1)/\(rankL m k<rankL l k->cmpL (l.drop k) (m.drop k)=1) /\
  (rankL l k=rankL m k->cmpL (l.drop k) (m.drop k)=cmpL (l.drop (k+1)) (m.drop (k+1))):=by
 by_cases h1:k<l.length
 ·obtain ⟨x,hx⟩:∃ x,l[k]?=some x:=⟨_,List.getElem?_eq_getElem h1⟩;by_cases h2:k<m.length
  ·obtain ⟨y,hy⟩:∃ y,m[k]?=some y:=⟨_,List.getElem?_eq_getElem h2⟩;simp only [rankL,hx,hy];by_cases e:x=y
   ·subst e;exact ⟨fun h=>by omega,fun h=>by omega,fun _=>cmpL_same hx hy⟩
   ·have hn:x.toNat≠y.toNat:=fun h=>e (UInt8.toNat_inj.1 h);rw [cmpL_diff hx hy e];by_cases c1:x=47
    ·have c2:¬ y=47:=fun h=>e (c1.trans h.symm);simp only [if_pos c1,if_neg c2];exact ⟨fun _=>by trivial,fun h=>by omega,fun h=>by omega⟩
    ·by_cases c2:y=47
     ·simp only [if_pos c2,if_neg c1];exact ⟨fun h=>by omega,fun _=>by trivial,fun h=>by omega⟩
     ·simp only [if_neg c1,if_neg c2];by_cases c3:x.toNat<y.toNat
      ·simp only [if_pos c3];exact ⟨fun _=>by trivial,fun h=>by omega,fun h=>by omega⟩
      ·simp only [if_neg c3];exact ⟨fun h=>by omega,fun _=>by trivial,fun h=>by omega⟩
  ·have hy:m[k]?=none:=List.getElem?_eq_none (by omega);simp only [rankL,hx,hy];rw [cmpL_right h1 (by omega)];refine ⟨fun h=>?_,fun _=>by trivial,fun h=>?_⟩ <;> (exfalso;split at h <;> omega)
 ·have hx:l[k]?=none:=List.getElem?_eq_none (by omega);by_cases h2:k<m.length
  ·obtain ⟨y,hy⟩:∃ y,m[k]?=some y:=⟨_,List.getElem?_eq_getElem h2⟩;simp only [rankL,hx,hy];rw [cmpL_left (by omega) h2];refine ⟨fun _=>by trivial,fun h=>?_,fun h=>?_⟩ <;> (exfalso;split at h <;> omega)
  ·have hy:m[k]?=none:=List.getElem?_eq_none (by omega);simp only [rankL,hx,hy];rw [cmpL_both (by omega) (by omega),cmpL_both (by omega) (by omega)];exact ⟨fun h=>by omega,fun h=>by omega,fun _=>by trivial⟩
set_option maxHeartbeats 1600000 in
theorem refCmp_any (s t:ByteArray) (w:World) (hs:s.size<2305843009213693952) (ht:t.size<2305843009213693952) :
  Calls prog 208 #[.string s,.string t] w fun e w'=>e=.returned (.int .i64 (cmpL s.toList t.toList))/\Ext w w':=by
 have HR:=fun k w hk=>lh (rank_any s k w (by omega) hk);have HT:=fun k w hk=>lh (rank_any t k w (by omega) hk);have HL1:=lh (len_toList s);have HL2:=lh (len_toList t);go_enter func208,ntmps208;go_wp2;go_loopw [5,6,7] (fun i _ _ wr=>∃ k:Nat,k<=s.size+t.size+1/\i=.int .i64 k/\Hid (cmpL s.toList t.toList=cmpL (s.toList.drop k) (t.toList.drop k))/\Ext w wr) (fun i _ _ _=>s.size+t.size+1 - (intOf i).toNat)
 case atStart=>exact ⟨0,Nat.zero_le _,rfl,rfl,Ext.refl _⟩
 case round =>
  obtain ⟨k,hk,rfl,H,xr⟩:=hrel;have HK:=HR k wr (by omega);have HK2:=HT k wr (by omega);have hc:=rank_cmp s.toList t.toList k;generalize rankL s.toList k=x at *;generalize rankL t.toList k=y at *;obtain ⟨g1,g2,g3⟩:=hc;by_cases h1:k<=s.size\/k<=t.size
  ·have hs1:k<=s.size\/(¬ k<=s.size/\k<=t.size):=by omega
   rcases Int.lt_trichotomy x y with hlt | heq | hgt
   ·have HN:=lh (H.out.trans (g1 hlt));clear g1 g2 g3 H h1;rcases hs1 with hs1 | ⟨hs1,hs2⟩
    all_goals
     go_wp2_with fail;refine HK.out.mono ?_;rintro e w1 ⟨rfl,rfl⟩;go_wp2_with fail;refine HK2.out.mono ?_;rintro e w1 ⟨rfl,rfl⟩;go_wp2_with fail;go_ret;exact ⟨ret_int HN.out.symm,xr⟩
   ·have HN:=lh (H.out.trans (g3 heq));subst heq;clear g1 g2 g3 H h1;rcases hs1 with hs1 | ⟨hs1,hs2⟩
    all_goals
     go_wp2_with fail;refine HK.out.mono ?_;rintro e w1 ⟨rfl,rfl⟩;go_wp2_with fail;refine HK2.out.mono ?_;rintro e w1 ⟨rfl,rfl⟩;go_wp2_with fail;go_roundw
     case rel=>exact ⟨k+1,by omega,by go_num,HN,xr⟩
     case measure=>simp [intOf];omega
   ·have HN:=lh (H.out.trans (g2 hgt));clear g1 g2 g3 H h1;rcases hs1 with hs1 | ⟨hs1,hs2⟩
    all_goals
     go_wp2_with fail;refine HK.out.mono ?_;rintro e w1 ⟨rfl,rfl⟩;go_wp2_with fail;refine HK2.out.mono ?_;rintro e w1 ⟨rfl,rfl⟩;go_wp2_with fail;go_ret;exact ⟨ret_int HN.out.symm,xr⟩
  ·have e1:¬ k<=s.size:=by omega
   have e2:¬ k<=t.size:=by omega
   have HN:=lh (H.out.trans (cmpL_both (by rw [HL1.out];omega) (by rw [HL2.out];omega)));clear g1 g2 g3 H h1 HK HK2;go_wp2_with fail;go_ret;exact ⟨ret_int HN.out.symm,xr⟩
end
end Go.Proofs.YtldppmjjgljinaaGreatDoor
