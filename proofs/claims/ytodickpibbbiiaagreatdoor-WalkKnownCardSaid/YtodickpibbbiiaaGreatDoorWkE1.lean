import Derived.Test.YtodickpibbbiiaaGreatDoorWkD2
import Derived.Test.YtodickpibbbiiaaGreatDoorWkA1
open Go.Proofs.Tryz
namespace Go.Proofs.YtodickpibbbiiaaGreatDoor
open Go.RowKit
section
theorem row5_shape {w:World} {base n k:Nat} {e:TypeId} {v:Value} {xs:List Value} (h:w.ownsRow base e k v n xs):∃ (a:Option Addr) (cap:Nat),v=.slice a n cap/\n<=cap/\cap<=9223372036854775807 /\
  ∀ (j:Nat) x,xs[j]?=some x->∃ g,a=some ⟨g,0,none⟩/\base<=g/\g<w.heap.size/\w.cell? ⟨g,j,none⟩=some x:=by
 rcases h.2 with ⟨rfl,rfl⟩ | ⟨g,cap,cur,rfl,hb,hh,hc,hm,hs,ht⟩
 ·have h1:xs.length=0:=by have:=h.1;omega
  obtain rfl:=List.length_eq_zero_iff.1 h1;exact ⟨none,0,rfl,Nat.le_refl _,by decide,fun k x hx=>by simp at hx⟩
 ·refine ⟨some ⟨g,0,none⟩,cap,rfl,hc,by unfold maxLen at hm;exact hm,fun j x hx=>⟨g,rfl,hb,ltB hh,?_⟩⟩;have:=h.cells (g:=g) rfl j x hx
  rwa [append_kw.add_off,Nat.zero_add] at this
theorem RTreeAt.shape {w:World} {t:Nat} {v:Value} {l:Nodes} {room:Nat} (h:RTreeAt w t v l room):∃ (a:Option Addr) (cap:Nat),v=.slice a l.length cap/\l.length<=cap/\cap<=9223372036854775807 /\
  ∀ (k:Nat) (x:ByteArray×Nd),l[k]?=some x->∃ g,a=some ⟨g,0,none⟩/\g<w.heap.size/\w.rangeAt g (k*5) (cells5 x):=by
 obtain ⟨a,cap,h1,h2,h3,h4⟩:=row5_shape h.row;refine ⟨a,cap,h1,h2,h3,fun k x hx=>?_⟩;obtain ⟨g,e,_,hg,_⟩:=h4 (k*5+0) _ ((rows5_get hx (j:=0) (by omega)).trans rfl);refine ⟨g,e,hg,fun j u hj=>?_⟩;have hj5:j<5:=(List.getElem?_eq_some_iff.1 hj).1;obtain ⟨g',e',_,_,hc⟩:=h4 (k*5+j) u ((rows5_get hx hj5).trans hj);rw [e] at e'
 cases e'
 exact hc
theorem range_ext {w w':World} {g o:Nat} {cs:List Value} (h:w.rangeAt g o cs) (x:Ext w w') (hg:g<w.heap.size):w'.rangeAt g o cs:=fun j u hj=>(x.cell hg).trans (h j u hj)
set_option maxHeartbeats 1000000 in
theorem rfind_any (t:Nat) (v:Value) (l:Nodes) (room:Nat) (p:ByteArray) (w:World) (T:RTreeAt w t v l room) (hl:l.length<=1048576) (i:Int) (hi:i=match findA l p with | some _=>(idxA l p:Int) | none=>-1) :
  Calls prog 160 #[.pointer (some ⟨t,0,none⟩),.string p] w fun e w'=>e=.returned (.int .i64 i)/\w'=w:=by
 obtain ⟨a,cap,rfl,h1,h2,h3⟩:=T.shape;have ct:w.cell? ⟨t,0,none⟩=some (.slice a l.length cap):=cellB T.blk;have HC:=lh h3;have HI:=lh hi;obtain ⟨n,hn⟩:∃ n,n=l.length:=⟨_,rfl⟩;have HL:=lh hn;rw [<-hn] at h1 ct hl;clear T h3 hi hn;go_enter func160,ntmps160;go_wp2;go_loop [5] (fun iv=>∃ k:Nat,k<=n/\iv=.int .i64 k/\Hid (∀ y∈l.take k,y.1≠p)) (fun iv=>n - (intOf iv).toNat)
 case atStart=>exact ⟨0,Nat.zero_le _,rfl,by show ∀ y∈l.take 0,_;simp⟩
 case round =>
  obtain ⟨k,hk,rfl,H⟩:=hrel;by_cases hlt:k<n
  ·obtain ⟨x,hx⟩:∃ x,l[k]?=some x:=⟨_,List.getElem?_eq_getElem (by have:=HL.out;omega)⟩;obtain ⟨g,rfl,_,hc⟩:=HC.out k x hx;have c0:w.cell? ⟨g,k*5,none⟩=some (.string x.1):=hc 0 _ rfl;have HTK:=lh (take_next hx);have HX:=lh hx;clear hc hx;obtain ⟨xp,xn⟩:=x;simp only at c0;by_cases he:xp=p
   ·have e1:(xp.toList==p.toList)=true:=by rw [he];simp
    have HR:=lh (show i=(k:Int) from by
     have h:=idx_first HX.out he H.out;have h2:=HI.out;rw [h.1,h.2] at h2
     exact h2)
    go_wp2;go_ret;exact ⟨ret_int HR.out.symm,rfl⟩
   ·have e1:(xp.toList==p.toList)=false:=by simpa using fun e=>he (ba_ext e)
    go_wp2;go_round
    case rel=>exact ⟨k+1,by omega,by go_num,by
     show ∀ y∈l.take (k+1),_
     rw [HTK.out];intro y hy;rcases List.mem_append.1 hy with hy | hy
     ·exact H.out y hy
     ·rw [List.mem_singleton.1 hy];exact he⟩
    case measure=>simp [intOf];omega
  ·obtain rfl:k=n:=by omega
   have nlt:decide ((k:Int)<(k:Int))=false:=by simp
   have HR:=lh (show i=-1 from by
    have h2:=HI.out;rw [idx_none (by have:=H.out;rwa [HL.out,List.take_length] at this)] at h2
    exact h2)
   go_wp2;go_ret;exact ⟨ret_int HR.out.symm,rfl⟩
set_option maxHeartbeats 1000000 in
theorem rkind_any (t:Nat) (v:Value) (l:Nodes) (room:Nat) (p:ByteArray) (w:World) (T:RTreeAt w t v l room) (hl:l.length<=1048576) :
  Calls prog 162 #[.pointer (some ⟨t,0,none⟩),.string p] w fun e w'=>e=.returned (.int .i64 (kindAt l p))/\w'=w:=by
 have HF:=fun i hi=>lh (rfind_any t v l room p w T hl i hi);obtain ⟨a,cap,rfl,h1,h2,h3⟩:=T.shape;have ct:w.cell? ⟨t,0,none⟩=some (.slice a l.length cap):=cellB T.blk;have HC:=lh h3;have HK:=lh (show kindAt l p=if p.toList.isEmpty then 2 else match findA l p with | some n=>n.kind | none=>0 from rfl);generalize kindAt l p=K at *;clear T h3
 cases hem:p.toList.isEmpty with
 | true =>
  rw [hem] at HK;have HK2:=lh (HK.out.trans (if_pos rfl));clear HF HK;go_enter func162,ntmps162;go_wp2_with fail;go_ret;exact ⟨ret_int HK2.out.symm,rfl⟩
 | false =>
  rw [hem] at HK;have HK2:=lh (HK.out.trans (if_neg (by decide)));clear HK
  cases hf:findA l p with
  | none =>
   rw [hf] at HK2 HF;have HF1:=HF (-1) rfl;clear HF hf;go_enter func162,ntmps162;go_wp2_with fail;refine HF1.out.mono ?_;rintro e w1 ⟨rfl,hw⟩;obtain rfl:=hw.symm;clear hw;go_wp2_with fail;go_ret;exact ⟨ret_int HK2.out.symm,rfl⟩
  | some o =>
   rw [hf] at HK2 HF;have HF1:=HF _ rfl;have hx:=idx_some hf;generalize idxA l p=j at *;obtain ⟨g,rfl,_,hc⟩:=HC.out j _ hx;have c1:w.cell? ⟨g,j*5+1,none⟩=some (.int .i64 o.kind):=hc 1 _ rfl;have hjl:j<l.length:=(List.getElem?_eq_some_iff.1 hx).1;generalize l.length=n at *;have HK3:=lh (show K=o.kind from HK2.out);clear HK2;generalize o.kind=ok at *;clear HF hf hx hc HC;go_enter func162,ntmps162;go_wp2_with fail;refine HF1.out.mono ?_;rintro e w1 ⟨rfl,hw⟩;obtain rfl:=hw.symm;clear hw;go_wp2_with fail;go_ret;exact ⟨ret_int HK3.out.symm,rfl⟩
theorem rparent_any (p:ByteArray) (w:World) (hp:p.size<4294967281) :
  Calls prog 163 #[.string p] w fun e w'=>e=.returned (.string (parentR p))/\Ext w w':=by
 have H:=lh (refParent_any p w hp);generalize parentR p=q at *;generalize mayB p=b at *;go_enter func163,ntmps163;go_wp2_with fail;refine H.out.mono ?_;rintro e w1 ⟨rfl,x1⟩;have HX:=lh x1;clear x1;go_wp2_with fail;go_ret;exact ⟨rfl,HX.out⟩
set_option maxHeartbeats 1000000 in
theorem rused_any (t:Nat) (v:Value) (l:Nodes) (room:Nat) (w:World) (T:RTreeAt w t v l room) (hl:l.length<=1048576) (hu:usedL l<=1073741824) :
  Calls prog 33 #[.pointer (some ⟨t,0,none⟩)] w fun e w'=>e=.returned (.int .i64 (usedL l:Nat))/\w'=w:=by
 obtain ⟨a,cap,rfl,h1,h2,h3⟩:=T.shape;have ct:w.cell? ⟨t,0,none⟩=some (.slice a l.length cap):=cellB T.blk;have HC:=lh h3;have HU:=lh (usedL_take_le l);obtain ⟨n,hn⟩:∃ n,n=l.length:=⟨_,rfl⟩;have HL:=lh hn;rw [<-hn] at h1 ct hl;clear T h3 hn;go_enter func33,ntmps33;go_wp2;go_loop [3,4] (fun uv iv=>∃ k:Nat,k<=n/\iv=.int .i64 k/\uv=.int .i64 (usedL (l.take k):Nat)) (fun _ iv=>n - (intOf iv).toNat)
 case atStart=>exact ⟨0,Nat.zero_le _,rfl,rfl⟩
 case round =>
  obtain ⟨k,hk,rfl,rfl⟩:=hrel;by_cases hlt:k<n
  ·obtain ⟨x,hx⟩:∃ x,l[k]?=some x:=⟨_,List.getElem?_eq_getElem (by have:=HL.out;omega)⟩;obtain ⟨g,rfl,_,hc⟩:=HC.out k x hx;have c0:w.cell? ⟨g,k*5+2,none⟩=some (.string x.2.data):=hc 2 _ rfl;have HTK:=lh (usedL_take hx);have hle:=HU.out (k+1);rw [HTK.out] at hle;clear hc hx;generalize x.2.data=dt at *;obtain ⟨U,hU⟩:∃ U,U=usedL (l.take k):=⟨_,rfl⟩;have HU2:=lh hU;rw [<-hU] at hle ⊢;clear hU;have q1:IntKind.i64.wrap ((U:Int)+64)=(U:Int)+64:=IntWalk.i64_in _ (by omega);have q2:IntKind.i64.wrap ((U:Int)+64+(dt.size:Int))=(U:Int)+64+(dt.size:Int):=IntWalk.i64_in _ (by omega);go_wp2;go_round
   case rel=>exact ⟨k+1,by omega,by go_num,by rw [HTK.out,<-HU2.out];congr 1;omega⟩
   case measure=>simp [intOf];omega
  ·obtain rfl:k=n:=by omega
   have nlt:decide ((k:Int)<(k:Int))=false:=by simp
   have HT:=lh (show usedL (l.take k)=usedL l from by rw [HL.out,List.take_length]);rw [HT.out];go_wp2;go_ret;exact ⟨rfl,rfl⟩
theorem rhome_any (t:Nat) (v:Value) (l:Nodes) (room:Nat) (p:ByteArray) (w:World) (T:RTreeAt w t v l room) (hl:l.length<=1048576) (hp:p.size<4294967281) :
  Calls prog 194 #[.pointer (some ⟨t,0,none⟩),.string p] w fun e w'=>e=.returned (.int .i64 (homeE l p))/\Ext w w':=by
 have HP:=lh (rparent_any p w hp);have HK:=fun w' (x:Ext w w')=>lh (rkind_any t v l room (parentR p) w' (T.ext x) hl);have HE:=lh (show homeE l p=if kindAt l (parentR p)=0 then 5 else if kindAt l (parentR p)=2 then 0 else 12 from rfl);generalize homeE l p=H at *;generalize kindAt l (parentR p)=k at *;generalize parentR p=q at *;clear T;by_cases k0:k=0
 ·subst k0;have HE2:=lh (HE.out.trans (if_pos rfl));go_enter func194,ntmps194;go_wp2_with fail;refine HP.out.mono ?_;rintro e w1 ⟨rfl,x1⟩;have HX:=lh x1;clear x1;go_wp2_with fail;refine (HK _ HX.out).out.mono ?_;rintro e w2 ⟨rfl,hw⟩;obtain rfl:=hw.symm;clear hw;go_wp2_with fail;go_ret;exact ⟨ret_int HE2.out.symm,HX.out⟩
 ·have HE1:=lh (HE.out.trans (if_neg k0));have n0:(k==0)=false:=by rw [beq_eq_false_iff_ne];exact k0
  by_cases k2:k=2
  ·subst k2;have HE2:=lh (HE1.out.trans (if_pos rfl));go_enter func194,ntmps194;go_wp2_with fail;refine HP.out.mono ?_;rintro e w1 ⟨rfl,x1⟩;have HX:=lh x1;clear x1;go_wp2_with fail;refine (HK _ HX.out).out.mono ?_;rintro e w2 ⟨rfl,hw⟩;obtain rfl:=hw.symm;clear hw;go_wp2_with fail;go_ret;exact ⟨ret_int HE2.out.symm,HX.out⟩
  ·have HE2:=lh (HE1.out.trans (if_neg k2));have n2:(k==2)=false:=by rw [beq_eq_false_iff_ne];exact k2
   have n2':(!(k==2))=true:=by rw [n2];rfl
   go_enter func194,ntmps194;go_wp2_with fail;refine HP.out.mono ?_;rintro e w1 ⟨rfl,x1⟩;have HX:=lh x1;clear x1;go_wp2_with fail;refine (HK _ HX.out).out.mono ?_;rintro e w2 ⟨rfl,hw⟩;obtain rfl:=hw.symm;clear hw;go_wp2_with fail;go_ret;exact ⟨ret_int HE2.out.symm,HX.out⟩
end
section
theorem elAt:ElemK prog 80 86 (.agg #[.string ByteArray.empty,.int .i64 0,.string ByteArray.empty,.string ByteArray.empty,.int .i64 0]) 5 64:=⟨by kernel_rfl,by kernel_rfl,rfl,by decide,by decide⟩
structure OutAt (w0 wr:World) (u:Value) (o:Nodes) (room:Nat):Prop where
 blk:wr.heap[w0.heap.size]?=some (.cells #[u,.int .i64 (room:Nat)] 180 (0,0))
 row:wr.ownsRow (w0.heap.size+1) 86 5 u o.length (rows5 o)
 ext:Ext w0 wr
theorem OutAt.made (w0:World) (room:Nat):OutAt w0 (w0.alloc (.cells #[.slice none 0 0,.int .i64 (room:Nat)] 180)) (.slice none 0 0) [] room :=
 ⟨heap_alloc_new _ _,World.ownsRow_nil _ _ _ _,(Ext.refl w0).alloc _⟩
theorem OutAt.tree {w0 wr:World} {u:Value} {o:Nodes} {room:Nat} (h:OutAt w0 wr u o room):RTreeAt wr w0.heap.size u o room:=⟨h.blk,owns_base h.row (Nat.zero_le _)⟩
theorem OutAt.fresh {w0 wr:World} {u:Value} {o:Nodes} {room:Nat} (h:OutAt w0 wr u o room):∀ b,u.ownBlock=some b->w0.heap.size<=b:=fun b hb=>by have:=own_ge h.row b hb;omega
theorem OutAt.to {w0 wr w':World} {u:Value} {o:Nodes} {room:Nat} (h:OutAt w0 wr u o room) (x:Ext wr w'):OutAt w0 w' u o room:=⟨(x.block (ltB h.blk)).trans h.blk,owns_ext h.row x,h.ext.trans x⟩
theorem OutAt.push {w0 wr W1 w3:World} {u v':Value} {o:Nodes} {room:Nat} {x:ByteArray×Nd} (h:OutAt w0 wr u o room) (x1:Ext wr W1) (hown:w3.ownsRow (w0.heap.size+1) 86 5 v' (o.length+1) (rows5 o++cells5 x)) (hg:W1.grownBy w3 u.ownBlock) :
  w3.heap[w0.heap.size]?=some (.cells #[u,.int .i64 (room:Nat)] 180 (0,0))/\Ext w0 w3/\OutAt w0 (w3.setCell ⟨w0.heap.size,0,none⟩ v') v' (o++[x]) room:=by
 have h1:=h.to x1;have hb:w3.heap[w0.heap.size]?=some (.cells #[u,.int .i64 (room:Nat)] 180 (0,0)):=(hg.block _ (ltB h1.blk) fun e=>by have:=own_ge h1.row _ e.symm;omega).trans h1.blk;refine ⟨hb,grown_ext h1.ext (Nat.le_succ _) h1.row hg,setCellB hb,?_,(grown_ext h1.ext (Nat.le_succ _) h1.row hg).setCell (Nat.le_refl _) _⟩;rw [List.length_append,List.length_singleton,rows5_snoc];exact owns_blocks hown fun b hb2=>setCellO (by have:=own_ge hown b hb2;omega)
def Fresh (w:World) (l:Nodes) (room:Nat) (e:Ending) (w':World):Prop:=∃ t v,e=.returned (.pointer (some ⟨t,0,none⟩))/\RTreeAt w' t v l room/\w.heap.size<=t/\(∀ b,v.ownBlock=some b->w.heap.size<=b)/\Ext w w'
end
section
theorem step_ins {p:ByteArray} {n:Nd} {s:Bool×Nodes} {x:ByteArray×Nd} (h1:s.1=false) (h2:cmpL p.toList x.1.toList<=0):withStep p n s x=(true,if x.1=p then s.2++[(p,n)] else s.2++[(p,n)]++[x]):=by
 unfold withStep;rw [h1,decide_eq_true h2];rfl
theorem step_not {p:ByteArray} {n:Nd} {s:Bool×Nodes} {x:ByteArray×Nd} (h:s.1=true\/¬ cmpL p.toList x.1.toList<=0):withStep p n s x=(s.1,if x.1=p then s.2 else s.2++[x]):=by
 unfold withStep;rcases h with h | h
 ·rw [h];rfl
 ·rw [decide_eq_false h,Bool.and_false];rfl
set_option maxRecDepth 100000 in
set_option maxHeartbeats 8000000 in
theorem rwith_any (t:Nat) (v:Value) (l:Nodes) (room:Nat) (p:ByteArray) (nk nm:Int) (nd nt:ByteArray) (w:World) (T:RTreeAt w t v l room) (hs:Sorted l) (hl:l.length<=1048576) (hp:p.size<=1048576) (hlp:∀ y∈l,y.1.size<=1048576) :
  Calls prog 195 #[.pointer (some ⟨t,0,none⟩),.string p,.agg #[.int .i64 nk,.string nd,.string nt,.int .i64 nm]] w (Fresh w (insS l p ⟨nk,nd,nt,nm⟩) room):=by
 have HWE:=lh (withF_end hs p ⟨nk,nd,nt,nm⟩);obtain ⟨a,cap,rfl,h1,h2,h3⟩:=T.shape;have HC:=lh h3;have ct0:w.cell? ⟨t,0,none⟩=some (.slice a l.length cap):=cellB T.blk;have cr0:w.cell? ⟨t,1,none⟩=some (.int .i64 (room:Nat)):=cellB T.blk;have htl0:=ltB T.blk;have HCmp:=fun (x:ByteArray) (hx:x.size<=1048576) w'=>lh (refCmp_any p x w' (by omega) (by omega));have HLP:=lh hlp
 have HLen:=lh (fun (k:Nat)=>show (withF (l.take k) p ⟨nk,nd,nt,nm⟩).2.length<=l.length+1 from by
  have:=withF_len p ⟨nk,nd,nt,nm⟩ (l.take k) (false,[]);have h2:(l.take k).length<=l.length:=by rw [List.length_take];omega
  simp only [List.length_nil,Bool.false_eq_true,if_false] at this;unfold withF
  omega)
 obtain ⟨n,hn⟩:∃ n,n=l.length:=⟨_,rfl⟩;have HL:=lh hn;rw [<-hn] at h1 ct0 hl;have hxw:Ext w (w.alloc (.cells #[.int .i64 nk,.string nd,.string nt,.int .i64 nm] 84 (0,0))):=(Ext.refl w).alloc _;have HXW:=lh hxw;have HBX:=lh (heap_alloc_new w (.cells #[.int .i64 nk,.string nd,.string nt,.int .i64 nm] 84 (0,0)));have ct:=(hxw.cell htl0).trans ct0;have cr:=(hxw.cell htl0).trans cr0;have hbl:=ltB HBX.out;have HO0:=lh (OutAt.made (w.alloc (.cells #[.int .i64 nk,.string nd,.string nt,.int .i64 nm] 84 (0,0))) room);have htl:t<(w.alloc (.cells #[.int .i64 nk,.string nd,.string nt,.int .i64 nm] 84 (0,0))).heap.size:=by rw [size_alloc];omega
 have HWA:=lh (show w.heap.size+1=(w.alloc (.cells #[.int .i64 nk,.string nd,.string nt,.int .i64 nm] 84 (0,0))).heap.size from (size_alloc _ _).symm);have HCX0:=lh (fun (g o:Nat) (cs:List Value) (h:w.rangeAt g o cs) (hg:g<w.heap.size)=>range_ext h hxw hg);clear T h3 hn hs hlp hxw ct0 cr0;go_enter func195,ntmps195;go_wp2_with fail;obtain ⟨wa,hwa⟩:∃ x,x=w.alloc (.cells #[.int .i64 nk,.string nd,.string nt,.int .i64 nm] 84 (0,0)):=⟨_,rfl⟩;rw [<-hwa] at HXW HBX ct cr hbl HO0 htl HWA HCX0 ⊢;rw [HWA.out];clear hwa;have HCT:=lh ct;obtain ⟨wb,hwb⟩:∃ x,x=wa.alloc (.cells #[.slice none 0 0,.int .i64 (room:Nat)] 180):=⟨_,rfl⟩;rw [<-hwb] at HO0 ⊢;clear hwb;go_loopw [8,9] (fun dv iv wr=>Hid (∃ (k:Nat) (u:Value),k<=n/\iv=.int .i64 k/\dv=.bool (withF (l.take k) p ⟨nk,nd,nt,nm⟩).1/\OutAt wa wr u (withF (l.take k) p ⟨nk,nd,nt,nm⟩).2 room)) (fun _ iv _=>n - (intOf iv).toNat)
 case atStart=>exact ⟨0,_,Nat.zero_le _,rfl,rfl,by simpa [withF] using HO0.out⟩
 case round =>
  obtain ⟨k,u,hk,rfl,rfl,ho⟩:=hrel.out;clear hrel HO0;have HO:=lh ho;have hsz:=ho.ext.size;have ct:=(ho.ext.cell htl).trans ct;have cb0:wr.cell? ⟨w.heap.size,0,none⟩=some (.int .i64 nk):=(ho.ext.cell hbl).trans (cellB HBX.out);have cb1:wr.cell? ⟨w.heap.size,1,none⟩=some (.string nd):=(ho.ext.cell hbl).trans (cellB HBX.out);have cb2:wr.cell? ⟨w.heap.size,2,none⟩=some (.string nt):=(ho.ext.cell hbl).trans (cellB HBX.out);have cb3:wr.cell? ⟨w.heap.size,3,none⟩=some (.int .i64 nm):=(ho.ext.cell hbl).trans (cellB HBX.out);have co:wr.cell? ⟨wa.heap.size,0,none⟩=some u:=cellB ho.blk;have fo:wr.frozen? ⟨wa.heap.size,0,none⟩=false:=frozenB ho.blk;have hol:=ltB ho.blk;obtain ⟨oa,ocap,rfl,_⟩:=row5_shape ho.row;have hlen:=HLen.out k;rw [<-HL.out] at hlen;obtain ⟨s,hs⟩:∃ s,s=withF (l.take k) p ⟨nk,nd,nt,nm⟩:=⟨_,rfl⟩;have HS:=lh hs;rw [<-hs] at HO co hlen ⊢;have hqn:s.2.length<=1048577:=by omega
  clear ho hlen;by_cases hlt:k<n
  ·obtain ⟨x,hx⟩:∃ x,l[k]?=some x:=⟨_,List.getElem?_eq_getElem (by have:=HL.out;omega)⟩;obtain ⟨g,rfl,hgl,hc⟩:=HC.out k x hx;have HCX:=lh (HCX0.out g (k*5) _ hc hgl);have hgl':g<wa.heap.size:=Nat.lt_of_lt_of_le hgl HXW.out.size;have hc':=range_ext HCX.out HO.out.ext hgl';have c0:wr.cell? ⟨g,k*5,none⟩=some (.string x.1):=hc' 0 _ rfl;have c1:wr.cell? ⟨g,k*5+1,none⟩=some (.int .i64 x.2.kind):=hc' 1 _ rfl;have c2:wr.cell? ⟨g,k*5+2,none⟩=some (.string x.2.data):=hc' 2 _ rfl;have c3:wr.cell? ⟨g,k*5+3,none⟩=some (.string x.2.target):=hc' 3 _ rfl;have c4:wr.cell? ⟨g,k*5+4,none⟩=some (.int .i64 x.2.time):=hc' 4 _ rfl;have HN:=lh (withF_next (p:=p) (n:=⟨nk,nd,nt,nm⟩) hx);rw [<-hs] at HN;have HCm:=fun w'=>HCmp x.1 (HLP.out x (List.mem_of_getElem? hx)) w';obtain ⟨xp,xk,xd,xt,xm⟩:=x;simp only at c0 c1 c2 c3 c4 HCm;obtain ⟨s1,q⟩:=s;simp only at co hqn HO ⊢;clear hc hc' hx hs HS HC HLen HCmp HLP;have HSN:=lh (fun (h:s1=true\/¬ cmpL p.toList xp.toList<=0)=>HN.out.trans (step_not (s:=(s1,q)) (x:=(xp,⟨xk,xd,xt,xm⟩)) h));have HSI:=lh (fun (h1:s1=false) (h2:cmpL p.toList xp.toList<=0)=>HN.out.trans (step_ins (s:=(s1,q)) (x:=(xp,⟨xk,xd,xt,xm⟩)) h1 h2));clear HN
   cases s1 with
   | true =>
    have HN2:=lh (show withF (l.take (k+1)) p ⟨nk,nd,nt,nm⟩=(true,if xp=p then q else q++[(xp,⟨xk,xd,xt,xm⟩)]) from HSN.out (.inl rfl));clear HSN HSI;by_cases he:xp=p
    ·have e1:(xp.toList==p.toList)=true:=by rw [he];simp
     have e2:(!(xp.toList==p.toList))=false:=by rw [e1];rfl
     have HN3:=lh (HN2.out.trans (by rw [if_pos he]));clear HN2;go_wp2_with fail;go_roundw
     case rel=>exact ⟨k+1,_,by omega,by go_num,by rw [HN3.out],by rw [HN3.out];exact HO.out⟩
     case measure=>simp [intOf] <;> omega
    ·have e1:(xp.toList==p.toList)=false:=by simpa using fun e=>he (ba_ext e)
     have e2:(!(xp.toList==p.toList))=true:=by rw [e1];rfl
     have HN3:=lh (HN2.out.trans (by rw [if_neg he]));clear HN2;go_wp2_with fail
     go_region_law
      (refine step_append_k elAt (wa.heap.size+1) (.slice oa q.length ocap) q.length (rows5 q) (owns_ext HO.out.row ?_) wr.heap.size [.string xp,.int .i64 xk,.string xd,.string xt,.int .i64 xm] rfl (.tmp 66) (.tmp 74) rfl rfl ?_ ?_ ?_ ?_ ?_ ?_ ?_
       ·repeat (first | exact Ext.refl _ | refine Ext.alloc ?_ _ | refine Ext.drew ?_)
       ·simp [Act.eval]
       ·simp [Act.eval]
       ·intro j u hj;exact (cellB (heap_new_drew rfl)).trans (by simpa using hj)
       ·intro u hu;simp only [List.mem_cons,List.not_mem_nil,or_false] at hu;rcases hu with rfl | rfl | rfl | rfl | rfl <;> rfl
       ·omega
       ·simp;omega
       intro v' w3 hown3 hgr3 hrow3 _;obtain ⟨g4,g4c,rfl,_⟩:=hrow3;have hp3:=OutAt.push (x:=(xp,⟨xk,xd,xt,xm⟩)) HO.out (W1:=_) (by repeat (first | exact Ext.refl _ | refine Ext.alloc ?_ _ | refine Ext.drew ?_)) hown3 hgr3;have x3:=hp3.2.1;have k1:w3.cell? ⟨wa.heap.size,0,none⟩=some ((.slice oa q.length ocap)):=cellB hp3.1;have f1:w3.frozen? ⟨wa.heap.size,0,none⟩=false:=frozenB hp3.1;have HP:=lh hp3.2.2
       clear hown3 hgr3 hp3 x3)
     all_goals
      go_wp2_with fail;go_roundw
      case rel=>exact ⟨k+1,_,by omega,by go_num,by rw [HN3.out],by rw [HN3.out];exact HP.out⟩
      case measure=>simp [intOf] <;> omega
   | false =>
    have HCn:=HCm wr;by_cases hc:cmpL p.toList xp.toList<=0
    ·have HN2:=lh (show withF (l.take (k+1)) p ⟨nk,nd,nt,nm⟩=(true,if xp=p then q++[(p,⟨nk,nd,nt,nm⟩)] else q++[(p,⟨nk,nd,nt,nm⟩)]++[(xp,⟨xk,xd,xt,xm⟩)]) from HSI.out rfl hc);clear HSN HSI HCm;generalize cmpL p.toList xp.toList=cc at *;have d1:decide (cc<=0)=true:=decide_eq_true hc;go_wp2_with fail;refine HCn.out.mono ?_;rintro e wr2 ⟨rfl,xr2⟩;have HO2:=lh (HO.out.to xr2);have co:=cellB (k:=0) HO2.out.blk;have fo:wr2.frozen? ⟨wa.heap.size,0,none⟩=false:=frozenB HO2.out.blk;have cb0:wr2.cell? ⟨w.heap.size,0,none⟩=some (.int .i64 nk):=(HO2.out.ext.cell hbl).trans (cellB HBX.out);have cb1:wr2.cell? ⟨w.heap.size,1,none⟩=some (.string nd):=(HO2.out.ext.cell hbl).trans (cellB HBX.out);have cb2:wr2.cell? ⟨w.heap.size,2,none⟩=some (.string nt):=(HO2.out.ext.cell hbl).trans (cellB HBX.out);have cb3:wr2.cell? ⟨w.heap.size,3,none⟩=some (.int .i64 nm):=(HO2.out.ext.cell hbl).trans (cellB HBX.out);have hol:=ltB HO2.out.blk;have hsz:=HO2.out.ext.size;clear xr2 HO HCn;go_wp2_with fail
     go_region_law
      (refine step_append_k elAt (wa.heap.size+1) (.slice oa q.length ocap) q.length (rows5 q) (owns_ext HO2.out.row ?_) wr2.heap.size [.string p,.int .i64 nk,.string nd,.string nt,.int .i64 nm] rfl (.tmp 44) (.tmp 48) rfl rfl ?_ ?_ ?_ ?_ ?_ ?_ ?_
       ·repeat (first | exact Ext.refl _ | refine Ext.alloc ?_ _ | refine Ext.drew ?_)
       ·simp [Act.eval]
       ·simp [Act.eval]
       ·intro j u hj;exact (cellB (heap_new_drew rfl)).trans (by simpa using hj)
       ·intro u hu;simp only [List.mem_cons,List.not_mem_nil,or_false] at hu;rcases hu with rfl | rfl | rfl | rfl | rfl <;> rfl
       ·omega
       ·simp;omega
       intro v' w3 hown3 hgr3 hrow3 _;obtain ⟨g3,g3c,rfl,_⟩:=hrow3;have hp3:=OutAt.push (x:=(p,⟨nk,nd,nt,nm⟩)) HO2.out (W1:=_) (by repeat (first | exact Ext.refl _ | refine Ext.alloc ?_ _ | refine Ext.drew ?_)) hown3 hgr3;have x3:=hp3.2.1;have k1:w3.cell? ⟨wa.heap.size,0,none⟩=some ((.slice oa q.length ocap)):=cellB hp3.1;have f1:w3.frozen? ⟨wa.heap.size,0,none⟩=false:=frozenB hp3.1;have HP:=lh hp3.2.2
       clear hown3 hgr3 hp3 x3)
     all_goals
      have hlen2:(q++[(p,(⟨nk,nd,nt,nm⟩:Nd))]).length=q.length+1:=by simp
      have HQ2:=HP;obtain ⟨q2,hq2⟩:∃ q2,q2=q++[(p,(⟨nk,nd,nt,nm⟩:Nd))]:=⟨_,rfl⟩;rw [<-hq2] at HQ2 HN2 hlen2;clear hq2 HP HO2;obtain ⟨W4,hW4⟩:∃ W4,W4=w3.setCell ⟨wa.heap.size,0,none⟩ (.slice (some ⟨g3,0,none⟩) (q.length+1) g3c):=⟨_,rfl⟩;rw [<-hW4] at HQ2 ⊢;clear hW4;have hqn2:q2.length<=1048578:=by omega
      rw [<-hlen2] at HQ2 ⊢;clear hlen2;have hxo:=HQ2.out.ext;have ct:=(hxo.cell htl).trans HCT.out;have hc2:=range_ext HCX.out hxo hgl';have c0:=hc2 0 _ rfl;have c1:=hc2 1 _ rfl;have c2:=hc2 2 _ rfl;have c3:=hc2 3 _ rfl;have c4:=hc2 4 _ rfl;have co:=cellB (k:=0) HQ2.out.blk;have fo:=frozenB (k:=0) HQ2.out.blk;have hol:=ltB HQ2.out.blk;have hsz:=hxo.size;simp only [Nat.add_zero,List.getElem?_toArray,List.getElem?_cons_zero] at c0 co;clear hxo hc2;by_cases he:xp=p
      ·have e1:(xp.toList==p.toList)=true:=by rw [he];simp
       have e2:(!(xp.toList==p.toList))=false:=by rw [e1];rfl
       have HN3:=lh (HN2.out.trans (by rw [if_pos he]));clear HN2;go_wp2_with fail;go_roundw
       case rel=>exact ⟨k+1,_,by omega,by go_num,by rw [HN3.out],by rw [HN3.out];exact HQ2.out⟩
       case measure=>simp [intOf] <;> omega
      ·have e1:(xp.toList==p.toList)=false:=by simpa using fun e=>he (ba_ext e)
       have e2:(!(xp.toList==p.toList))=true:=by rw [e1];rfl
       have HN3:=lh (HN2.out.trans (by rw [if_neg he]));clear HN2;go_wp2_with fail
       go_region_law
        (refine step_append_k elAt (wa.heap.size+1) (.slice (some ⟨g3,0,none⟩) q2.length g3c) q2.length (rows5 q2) (owns_ext HQ2.out.row ?_) W4.heap.size [.string xp,.int .i64 xk,.string xd,.string xt,.int .i64 xm] rfl (.tmp 66) (.tmp 74) rfl rfl ?_ ?_ ?_ ?_ ?_ ?_ ?_
         ·repeat (first | exact Ext.refl _ | refine Ext.alloc ?_ _ | refine Ext.drew ?_)
         ·simp [Act.eval]
         ·simp [Act.eval]
         ·intro j u hj;exact (cellB (heap_new_drew rfl)).trans (by simpa using hj)
         ·intro u hu;simp only [List.mem_cons,List.not_mem_nil,or_false] at hu;rcases hu with rfl | rfl | rfl | rfl | rfl <;> rfl
         ·omega
         ·simp;omega
         intro v' w4 hown3 hgr3 hrow3 _;obtain ⟨g4,g4c,rfl,_⟩:=hrow3;have hp3:=OutAt.push (x:=(xp,⟨xk,xd,xt,xm⟩)) HQ2.out (W1:=_) (by repeat (first | exact Ext.refl _ | refine Ext.alloc ?_ _ | refine Ext.drew ?_)) hown3 hgr3;have x3:=hp3.2.1;have k1:w4.cell? ⟨wa.heap.size,0,none⟩=some ((.slice (some ⟨g3,0,none⟩) q2.length g3c)):=cellB hp3.1;have f1:w4.frozen? ⟨wa.heap.size,0,none⟩=false:=frozenB hp3.1;have HP4:=lh hp3.2.2
         clear hown3 hgr3 hp3 x3)
       all_goals
        go_wp2_with fail;go_roundw
        case rel=>exact ⟨k+1,_,by omega,by go_num,by rw [HN3.out],by rw [HN3.out];exact HP4.out⟩
        case measure=>simp [intOf] <;> omega
    ·have HN2:=lh (show withF (l.take (k+1)) p ⟨nk,nd,nt,nm⟩=(false,if xp=p then q else q++[(xp,⟨xk,xd,xt,xm⟩)]) from HSN.out (.inr hc));clear HSN HSI HCm;generalize cmpL p.toList xp.toList=cc at *;have d1:decide (cc<=0)=false:=decide_eq_false hc;go_wp2_with fail;refine HCn.out.mono ?_;rintro e wr2 ⟨rfl,xr2⟩;have HO2:=lh (HO.out.to xr2);have hxo:=HO2.out.ext;have ct:=(hxo.cell htl).trans HCT.out;have hc2:=range_ext HCX.out hxo hgl';have c0:=hc2 0 _ rfl;have c1:=hc2 1 _ rfl;have c2:=hc2 2 _ rfl;have c3:=hc2 3 _ rfl;have c4:=hc2 4 _ rfl;have co:=cellB (k:=0) HO2.out.blk;have fo:wr2.frozen? ⟨wa.heap.size,0,none⟩=false:=frozenB HO2.out.blk;have hol:=ltB HO2.out.blk;have hsz:=hxo.size;simp only [Nat.add_zero,List.getElem?_toArray,List.getElem?_cons_zero] at c0 co;clear xr2 HO HCn hxo hc2;by_cases he:xp=p
     ·have e1:(xp.toList==p.toList)=true:=by rw [he];simp
      have e2:(!(xp.toList==p.toList))=false:=by rw [e1];rfl
      have HN3:=lh (HN2.out.trans (by rw [if_pos he]));clear HN2;go_wp2_with fail;go_roundw
      case rel=>exact ⟨k+1,_,by omega,by go_num,by rw [HN3.out],by rw [HN3.out];exact HO2.out⟩
      case measure=>simp [intOf] <;> omega
     ·have e1:(xp.toList==p.toList)=false:=by simpa using fun e=>he (ba_ext e)
      have e2:(!(xp.toList==p.toList))=true:=by rw [e1];rfl
      have HN3:=lh (HN2.out.trans (by rw [if_neg he]));clear HN2;go_wp2_with fail
      go_region_law
       (refine step_append_k elAt (wa.heap.size+1) (.slice oa q.length ocap) q.length (rows5 q) (owns_ext HO2.out.row ?_) wr2.heap.size [.string xp,.int .i64 xk,.string xd,.string xt,.int .i64 xm] rfl (.tmp 66) (.tmp 74) rfl rfl ?_ ?_ ?_ ?_ ?_ ?_ ?_
        ·repeat (first | exact Ext.refl _ | refine Ext.alloc ?_ _ | refine Ext.drew ?_)
        ·simp [Act.eval]
        ·simp [Act.eval]
        ·intro j u hj;exact (cellB (heap_new_drew rfl)).trans (by simpa using hj)
        ·intro u hu;simp only [List.mem_cons,List.not_mem_nil,or_false] at hu;rcases hu with rfl | rfl | rfl | rfl | rfl <;> rfl
        ·omega
        ·simp;omega
        intro v' w3 hown3 hgr3 hrow3 _;obtain ⟨g4,g4c,rfl,_⟩:=hrow3;have hp3:=OutAt.push (x:=(xp,⟨xk,xd,xt,xm⟩)) HO2.out (W1:=_) (by repeat (first | exact Ext.refl _ | refine Ext.alloc ?_ _ | refine Ext.drew ?_)) hown3 hgr3;have x3:=hp3.2.1;have k1:w3.cell? ⟨wa.heap.size,0,none⟩=some ((.slice oa q.length ocap)):=cellB hp3.1;have f1:w3.frozen? ⟨wa.heap.size,0,none⟩=false:=frozenB hp3.1;have HP:=lh hp3.2.2
        clear hown3 hgr3 hp3 x3)
      all_goals
       go_wp2_with fail;go_roundw
       case rel=>exact ⟨k+1,_,by omega,by go_num,by rw [HN3.out],by rw [HN3.out];exact HP.out⟩
       case measure=>simp [intOf] <;> omega
  ·obtain rfl:k=n:=by omega
   have nlt:decide ((k:Int)<(k:Int))=false:=by simp
   have HTK:=lh (show l.take k=l from by rw [HL.out,List.take_length]);have HWE2:=lh (show (if s.1 then s.2 else s.2++[(p,⟨nk,nd,nt,nm⟩)])=insS l p ⟨nk,nd,nt,nm⟩ from by have:=HWE.out;rw [<-HTK.out,<-HS.out] at this;rw [HTK.out] at this;exact this);obtain ⟨s1,q⟩:=s;simp only at co hqn HO HWE2 ⊢;clear hs HS HC HLen HCmp HLP HWE
   cases s1 with
   | true =>
    have HW3:=lh (HWE2.out.symm.trans (if_pos rfl));go_wp2_with fail;go_ret;have hq:=HO.out;exact ⟨wa.heap.size,_,rfl,HW3.out▸hq.tree,HXW.out.size,fun b hb=>Nat.le_trans HXW.out.size (hq.fresh b hb),HXW.out.trans hq.ext⟩
   | false =>
    have HW3:=lh (HWE2.out.symm.trans (if_neg (by decide)));go_wp2_with fail
    go_region_law
     (refine step_append_k elAt (wa.heap.size+1) (.slice oa q.length ocap) q.length (rows5 q) (owns_ext HO.out.row ?_) wr.heap.size [.string p,.int .i64 nk,.string nd,.string nt,.int .i64 nm] rfl (.tmp 84) (.tmp 88) rfl rfl ?_ ?_ ?_ ?_ ?_ ?_ ?_
      ·repeat (first | exact Ext.refl _ | refine Ext.alloc ?_ _ | refine Ext.drew ?_)
      ·simp [Act.eval]
      ·simp [Act.eval]
      ·intro j u hj;exact (cellB (heap_new_drew rfl)).trans (by simpa using hj)
      ·intro u hu;simp only [List.mem_cons,List.not_mem_nil,or_false] at hu;rcases hu with rfl | rfl | rfl | rfl | rfl <;> rfl
      ·omega
      ·simp;omega
      intro v' w3 hown3 hgr3 hrow3 _;obtain ⟨g3,g3c,rfl,_⟩:=hrow3;have hp3:=OutAt.push (x:=(p,⟨nk,nd,nt,nm⟩)) HO.out (W1:=_) (by repeat (first | exact Ext.refl _ | refine Ext.alloc ?_ _ | refine Ext.drew ?_)) hown3 hgr3;have x3:=hp3.2.1;have k1:w3.cell? ⟨wa.heap.size,0,none⟩=some ((.slice oa q.length ocap)):=cellB hp3.1;have f1:w3.frozen? ⟨wa.heap.size,0,none⟩=false:=frozenB hp3.1;have HP:=lh hp3.2.2
      clear hown3 hgr3 hp3 x3)
    all_goals
     go_wp2_with fail;go_ret;have hq:=HP.out;exact ⟨wa.heap.size,_,rfl,HW3.out▸hq.tree,HXW.out.size,fun b hb=>Nat.le_trans HXW.out.size (hq.fresh b hb),HXW.out.trans hq.ext⟩
end
section
def NextPost (w:World) (room:Nat) (R:Int×Nodes) (e:Ending) (w':World):Prop :=
 Ext w w'/\((R.1=0/\∃ t v,e=.returned (.tuple #[.pointer (some ⟨t,0,none⟩),.int .i64 0])/\RTreeAt w' t v R.2 room/\w.heap.size<=t/\∀ b,v.ownBlock=some b->w.heap.size<=b) \/
  (R.1≠0/\e=.returned (.tuple #[.pointer none,.int .i64 R.1])))
theorem NextPost.err {w w':World} {room:Nat} {R:Int×Nodes} {n:Int} (h:R.1=n) (hn:n≠0) (x:Ext w w'):NextPost w room R (.returned (.tuple #[.pointer none,.int .i64 n])) w':=⟨x,.inr ⟨by rw [h];exact hn,by rw [h]⟩⟩
structure Made (w wr:World) (t:Nat) (l:Nodes) (room:Nat):Prop where
 tree:∃ v,RTreeAt wr t v l room/\∀ b,v.ownBlock=some b->w.heap.size<=b
 at':w.heap.size<=t
 ext:Ext w wr
theorem foldl_ins_mem:∀ (N B:Nodes) (y:ByteArray×Nd),y∈N.foldl (fun o x=>insS o x.1 x.2) B->y∈N\/y∈B
 | [],_,_,h=>.inr h
 | x::N,B,y,h=>by
  rw [List.foldl_cons] at h;rcases foldl_ins_mem N _ y h with h | h
  ·exact .inl (List.mem_cons_of_mem _ h)
  ·rcases ins_mem h with rfl | h
   ·exact .inl List.mem_cons_self
   ·exact .inr h
end
section
theorem cutTo_ge {most:Nat} {d:ByteArray} (h:d.size<=most):cutTo most d=d:=by
 apply ba_ext;unfold cutTo;rw [toList_extract,List.drop_zero,List.take_of_length_le (by rw [len_toList];omega)]
def dataC (pk:Bool) (most:Nat) (data:ByteArray):ByteArray:=if pk then cutTo most data else data
theorem dataC_cut {most:Nat} {data:ByteArray} (h:most<data.size):data.extract 0 most=dataC true most data:=by
 unfold dataC cutTo;rw [if_pos rfl,Nat.min_eq_left (by omega)]
theorem dataC_all {pk:Bool} {most:Nat} {data:ByteArray} (h:pk=false\/data.size<=most):dataC pk most data=data:=by
 unfold dataC;rcases h with h | h
 ·rw [h];rfl
 ·split
  ·exact cutTo_ge h
  ·rfl
theorem dataC_le (pk:Bool) (most:Nat) (data:ByteArray):(dataC pk most data).size<=data.size:=by
 unfold dataC;split
 ·unfold cutTo;simp;omega
 ·exact Nat.le_refl _
theorem kind_at {l:Nodes} {room:Nat} (O:TreeOk l room) {p:ByteArray} (hp:mayB p=true):kindAt l p=(match findA l p with | some o=>o.kind | none=>0)/\∀ o,findA l p=some o->o.kind=1\/o.kind=2\/o.kind=3 :=
 ⟨by unfold kindAt;rw [mayB_nonempty hp];rfl,fun _ h=>O.kind _ (findA_mem h)⟩
set_option maxRecDepth 100000 in
set_option maxHeartbeats 8000000 in
theorem rnext_write (t:Nat) (v:Value) (l:Nodes) (room:Nat) (p q data:ByteArray) (tm:Int) (most:Nat) (pk:Bool) (w:World) (T:RTreeAt w t v l room) (O:TreeOk l room) (hr:room<=1048576) (hp:mayB p=true) (hd:data.size<=1048576) :
  Calls prog 120 #[.pointer (some ⟨t,0,none⟩),.agg #[.int .i64 1,.string p,.string q,.string data,.int .i64 tm,.int .i64 most,.bool pk]] w (NextPost w room (writeE l room p (dataC pk most data) tm)):=by
 have hlen:l.length<=16384:=by have:=len_used l;have:=O.used;omega
 have zp:=mayB_size hp;have HT:=lh T;have HOk:=lh O;have HP:=lh hp;obtain ⟨W1,hW1⟩:∃ W1,W1=w.alloc (.cells #[.int .i64 1,.string p,.string q,.string data,.int .i64 tm,.int .i64 most,.bool pk] 134 (0,0)):=⟨_,rfl⟩;have x1:Ext w W1:=hW1▸(Ext.refl w).alloc _;have HX1:=lh x1;have HBX:=lh (show W1.heap[w.heap.size]?=some (.cells #[.int .i64 1,.string p,.string q,.string data,.int .i64 tm,.int .i64 most,.bool pk] 134 (0,0)) from hW1▸block_alloc_new _ _);have HKi:=lh (rkind_any t v l room p W1 (T.ext x1) (by omega));have HKF:=lh (kind_at O hp);have hcl:=dataC_le pk most data;have HCut:=lh (fun (h:most<data.size)=>dataC_cut h);have HAll:=lh (fun (h:pk=false\/data.size<=most)=>dataC_all h);have HR:=lh (show writeE l room p (dataC pk most data) tm=if homeE l p=0 then (if fileE l p=0 then putE l room p ⟨1,dataC pk most data,emp,tm⟩ else (fileE l p,l)) else (homeE l p,l) from rfl);have HFi:=lh (show fileE l p=match findA l p with | some n=>if n.kind=2 then 12 else if n.kind=3 then 11 else 0 | none=>0 from rfl);have HHo:=fun w' (x:Ext w w')=>lh (rhome_any t v l room p w' (T.ext x) (by omega) (by omega));generalize writeE l room p (dataC pk most data) tm=R at *;generalize homeE l p=H at *;obtain ⟨kd,hkd⟩:∃ kd,kd=kindAt l p:=⟨_,rfl⟩;rw [<-hkd] at HKi HKF;clear hkd;subst hW1;clear T O hp x1;go_enter func120,ntmps120;go_wp2_with fail;refine HKi.out.mono ?_;rintro e w1 ⟨rfl,hw⟩;obtain rfl:=hw.symm;clear hw;obtain ⟨c,hc⟩:∃ c,c=dataC pk most data:=⟨_,rfl⟩;rw [<-hc] at hcl HR;have HCC:=lh hc;clear hc;rcases pk with _ | _
 case' false =>
  obtain rfl:c=data:=HCC.out.trans (HAll.out (.inl rfl));clear HCC HAll HCut;go_wp2_with fail
 case' true =>
  by_cases hlt:most<data.size
  case' pos =>
   have hcx:data.extract 0 most=c:=(HCut.out hlt).trans HCC.out.symm;have hd1:decide ((most:Int)<(data.size:Int))=true:=by rw [decide_eq_true_eq];omega
   have hd2:(most:Int)<=(data.size:Int):=by omega
   clear HCC HAll HCut;go_wp2_with fail;clear hcx hd1 hd2 hlt
  case' neg =>
   obtain rfl:c=data:=HCC.out.trans (HAll.out (.inr (by omega)));have hd1:decide ((most:Int)<(c.size:Int))=false:=by rw [decide_eq_false_iff_not];omega
   clear HCC HAll HCut;go_wp2_with fail;clear hd1 hlt
 all_goals
  refine (HHo _ HX1.out).out.mono ?_;rintro e w3 ⟨rfl,x3⟩;have HXc:=lh (HX1.out.trans x3);have hbx:=(x3.block (ltB HBX.out)).trans HBX.out;have cb0:=cellB (k:=0) hbx;have cb1:=cellB (k:=1) hbx;have cb4:=cellB (k:=4) hbx;have hbl:=ltB hbx;clear x3 hbx HHo HKi;by_cases hh:H=0
  ·subst hh;have HR2:=lh (HR.out.trans (if_pos rfl));clear HR
   have HF2:=lh (show fileE l p=if kd=2 then 12 else if kd=3 then 11 else 0 from by
    rw [HFi.out];obtain ⟨h1,_⟩:=HKF.out
    cases hf:findA l p with
    | none=>rw [hf] at h1;simp only at h1;rw [h1];rfl
    | some o=>rw [hf] at h1;simp only at h1;rw [h1])
   by_cases k2:kd=2
   ·subst k2;have HR3:=lh (show R=(12,l) from by rw [HR2.out,HF2.out];rfl);go_wp2_with fail;go_ret2;exact NextPost.err (by rw [HR3.out]) (by decide) HXc.out
   ·by_cases k3:kd=3
    ·subst k3;have HR3:=lh (show R=(11,l) from by rw [HR2.out,HF2.out];rfl);go_wp2_with fail;go_ret2;exact NextPost.err (by rw [HR3.out]) (by decide) HXc.out
    ·have q2:(kd==2)=false:=by rw [beq_eq_false_iff_ne];exact k2
     have q3:(kd==3)=false:=by rw [beq_eq_false_iff_ne];exact k3
     have HPu:=lh (show R=putE l room p ⟨1,c,⟨#[]⟩,tm⟩ from by rw [HR2.out,HF2.out,if_neg k2,if_neg k3,if_pos rfl];rfl);clear HR2 HF2 HFi HKF;have HWt:=fun w' (x:Ext w w')=>lh (rwith_any t v l room p (1) (tm) (c) (⟨#[]⟩) w' (HT.out.ext x) HOk.out.sorted (by omega) (by omega) (fun y hy=>by have:=mayB_size (HOk.out.may y hy);omega));go_wp2_with fail;refine (HWt _ (by repeat (first | exact Ext.refl _ | exact HXc.out | refine Ext.alloc ?_ _ | refine Ext.setCell ?_ HXc.out.size _))).out.mono ?_;rintro e w5 ⟨t5,v5,rfl,ht5,hg5,hv5,x5⟩;have HX5:=lh (show Ext w w5 from Ext.trans (by repeat (first | exact Ext.refl _ | exact HXc.out | refine Ext.alloc ?_ _ | refine Ext.setCell ?_ HXc.out.size _)) x5);have HT5:=lh ht5;have HTw:=lh (HT.out.ext HX5.out);have hg6:=Nat.le_trans (Ext.size (w:=w) (by repeat (first | exact Ext.refl _ | exact HXc.out | refine Ext.alloc ?_ _ | refine Ext.setCell ?_ HXc.out.size _))) hg5;have hv6:=fun z hz=>Nat.le_trans (Ext.size (w:=w) (by repeat (first | exact Ext.refl _ | exact HXc.out | refine Ext.alloc ?_ _ | refine Ext.setCell ?_ HXc.out.size _))) (hv5 z hz);have HUs:=fun w' (x:Ext w5 w')=>lh (rused_any t5 v5 _ room w' (HT5.out.ext x) (by have:=insS_len l p ⟨1,c,⟨#[]⟩,tm⟩;omega) (by have hiu:usedL (insS l p ⟨1,c,⟨#[]⟩,tm⟩)+oldU l p=usedL l+(64+(c:ByteArray).size):=ins_used HOk.out.sorted p _;have hous:=HOk.out.used;have hds:(c:ByteArray).size<=4194304:=(by first | omega | decide);omega));have hcr:=After.cell (w:=w5) (cellB (k:=1) HTw.out.blk);obtain ⟨UU,hUU⟩:∃ UU,UU=usedL (insS l p ⟨1,c,⟨#[]⟩,tm⟩):=⟨_,rfl⟩;have HUU:=lh hUU;rw [<-hUU] at HUs;clear hUU ht5 hg5 hv5 x5;go_wp2_with fail;refine wp_region_after (by kernel_rfl) (by kernel_rfl) ?_
     repeat (go_big_quiet_step (exact After.same (HUs _ (After.x _)).out))
     refine wpQuiet_nil ?_;rintro _ ⟨y,rfl⟩;have HPu2:=lh (HPu.out.trans (show putE l room p ⟨1,c,⟨#[]⟩,tm⟩=if UU<=room then (0,insS l p ⟨1,c,⟨#[]⟩,tm⟩) else (7,l) from by rw [HUU.out];rfl));clear hcr HUs HPu;by_cases hfit:UU<=room
     ·have HR3:=lh (HPu2.out.trans (if_pos hfit));have hb1:decide ((room:Int)<(UU:Int))=false:=by rw [decide_eq_false_iff_not];omega
      have hb2:decide (room<UU)=false:=by rw [decide_eq_false_iff_not];omega
      go_wp2_with fail;go_ret2;exact ⟨HX5.out.trans y.x,.inl ⟨by rw [HR3.out],t5,v5,rfl,by rw [HR3.out];exact HT5.out.ext y.x,hg6,hv6⟩⟩
     ·have HR3:=lh (HPu2.out.trans (if_neg hfit));have hb1:decide ((room:Int)<(UU:Int))=true:=by rw [decide_eq_true_eq];omega
      have hb2:decide (room<UU)=true:=by rw [decide_eq_true_eq];omega
      go_wp2_with fail;go_ret2;exact NextPost.err (by rw [HR3.out]) (by decide) (HX5.out.trans y.x)
  ·have HR3:=lh (HR.out.trans (if_neg hh));have hh1:(H==0)=false:=by rw [beq_eq_false_iff_ne];exact hh
   have hh2:(!(H==0))=true:=by rw [hh1];rfl
   go_wp2_with fail;go_ret2;exact NextPost.err (by rw [HR3.out]) hh HXc.out
end
section
set_option maxRecDepth 100000 in
set_option maxHeartbeats 8000000 in
theorem rnext_mkdir (t:Nat) (v:Value) (l:Nodes) (room:Nat) (p q data:ByteArray) (tm:Int) (most:Nat) (pk:Bool) (w:World) (T:RTreeAt w t v l room) (O:TreeOk l room) (hr:room<=1048576) (hp:mayB p=true) (hd:data.size<=1048576) :
  Calls prog 120 #[.pointer (some ⟨t,0,none⟩),.agg #[.int .i64 3,.string p,.string q,.string data,.int .i64 tm,.int .i64 most,.bool pk]] w (NextPost w room (layE l room p ⟨2,emp,emp,0⟩)):=by
 have hlen:l.length<=16384:=by have:=len_used l;have:=O.used;omega
 have zp:=mayB_size hp;have HT:=lh T;have HOk:=lh O;have HP:=lh hp;obtain ⟨W1,hW1⟩:∃ W1,W1=w.alloc (.cells #[.int .i64 3,.string p,.string q,.string data,.int .i64 tm,.int .i64 most,.bool pk] 134 (0,0)):=⟨_,rfl⟩;have x1:Ext w W1:=hW1▸(Ext.refl w).alloc _;have HX1:=lh x1;have HBX:=lh (show W1.heap[w.heap.size]?=some (.cells #[.int .i64 3,.string p,.string q,.string data,.int .i64 tm,.int .i64 most,.bool pk] 134 (0,0)) from hW1▸block_alloc_new _ _);have HKi:=lh (rkind_any t v l room p W1 (T.ext x1) (by omega));have HKF:=lh (kind_at O hp);have hcl:=dataC_le pk most data;have HCut:=lh (fun (h:most<data.size)=>dataC_cut h);have HAll:=lh (fun (h:pk=false\/data.size<=most)=>dataC_all h)
 have HR:=lh (show layE l room p ⟨2,emp,emp,0⟩=if homeE l p=0 then (if kindAt l p=0 then putE l room p ⟨2,⟨#[]⟩,⟨#[]⟩,0⟩ else (6,l)) else (homeE l p,l) from by
  obtain ⟨h1,h2⟩:=kind_at O hp;unfold layE;by_cases hh:homeE l p=0
  ·rw [if_pos hh,if_pos hh]
   cases hf:findA l p with
   | none=>rw [hf] at h1;simp only at h1;rw [h1];rfl
   | some o =>
    have:=h2 o hf;rw [hf] at h1;simp only at h1;rw [if_pos (by rfl),if_neg (by rw [h1];omega)]
  ·rw [if_neg hh,if_neg hh])
 have HHo:=fun w' (x:Ext w w')=>lh (rhome_any t v l room p w' (T.ext x) (by omega) (by omega));generalize layE l room p ⟨2,emp,emp,0⟩=R at *;generalize homeE l p=H at *;obtain ⟨kd,hkd⟩:∃ kd,kd=kindAt l p:=⟨_,rfl⟩;rw [<-hkd] at HKi HKF HR;clear hkd HKF;subst hW1;clear T O hp x1;go_enter func120,ntmps120;go_wp2_with fail;refine HKi.out.mono ?_;rintro e w1 ⟨rfl,hw⟩;obtain rfl:=hw.symm;clear hw;obtain ⟨c,hc⟩:∃ c,c=dataC pk most data:=⟨_,rfl⟩;rw [<-hc] at hcl;have HCC:=lh hc;clear hc;rcases pk with _ | _
 case' false =>
  obtain rfl:c=data:=HCC.out.trans (HAll.out (.inl rfl));clear HCC HAll HCut;go_wp2_with fail
 case' true =>
  by_cases hlt:most<data.size
  case' pos =>
   have hcx:data.extract 0 most=c:=(HCut.out hlt).trans HCC.out.symm;have hd1:decide ((most:Int)<(data.size:Int))=true:=by rw [decide_eq_true_eq];omega
   have hd2:(most:Int)<=(data.size:Int):=by omega
   clear HCC HAll HCut;go_wp2_with fail;clear hcx hd1 hd2 hlt
  case' neg =>
   obtain rfl:c=data:=HCC.out.trans (HAll.out (.inr (by omega)));have hd1:decide ((most:Int)<(c.size:Int))=false:=by rw [decide_eq_false_iff_not];omega
   clear HCC HAll HCut;go_wp2_with fail;clear hd1 hlt
 all_goals
  refine (HHo _ HX1.out).out.mono ?_;rintro e w3 ⟨rfl,x3⟩;have HXc:=lh (HX1.out.trans x3);have hbx:=(x3.block (ltB HBX.out)).trans HBX.out;have cb0:=cellB (k:=0) hbx;have cb1:=cellB (k:=1) hbx;have cb3:=cellB (k:=3) hbx;have cb4:=cellB (k:=4) hbx;have hbl:=ltB hbx;clear x3 hbx HHo HKi;by_cases hh:H=0
  ·subst hh;have HR2:=lh (HR.out.trans (if_pos rfl));clear HR;by_cases k0:kd=0
   ·subst k0;have HPu:=lh (HR2.out.trans (if_pos rfl));clear HR2;have HWt:=fun w' (x:Ext w w')=>lh (rwith_any t v l room p (2) (0) (⟨#[]⟩) (⟨#[]⟩) w' (HT.out.ext x) HOk.out.sorted (by omega) (by omega) (fun y hy=>by have:=mayB_size (HOk.out.may y hy);omega));go_wp2_with fail;refine (HWt _ (by repeat (first | exact Ext.refl _ | exact HXc.out | refine Ext.alloc ?_ _ | refine Ext.setCell ?_ HXc.out.size _))).out.mono ?_;rintro e w5 ⟨t5,v5,rfl,ht5,hg5,hv5,x5⟩;have HX5:=lh (show Ext w w5 from Ext.trans (by repeat (first | exact Ext.refl _ | exact HXc.out | refine Ext.alloc ?_ _ | refine Ext.setCell ?_ HXc.out.size _)) x5);have HT5:=lh ht5;have HTw:=lh (HT.out.ext HX5.out);have hg6:=Nat.le_trans (Ext.size (w:=w) (by repeat (first | exact Ext.refl _ | exact HXc.out | refine Ext.alloc ?_ _ | refine Ext.setCell ?_ HXc.out.size _))) hg5;have hv6:=fun z hz=>Nat.le_trans (Ext.size (w:=w) (by repeat (first | exact Ext.refl _ | exact HXc.out | refine Ext.alloc ?_ _ | refine Ext.setCell ?_ HXc.out.size _))) (hv5 z hz);have HUs:=fun w' (x:Ext w5 w')=>lh (rused_any t5 v5 _ room w' (HT5.out.ext x) (by have:=insS_len l p ⟨2,⟨#[]⟩,⟨#[]⟩,0⟩;omega) (by have hiu:usedL (insS l p ⟨2,⟨#[]⟩,⟨#[]⟩,0⟩)+oldU l p=usedL l+(64+(⟨#[]⟩:ByteArray).size):=ins_used HOk.out.sorted p _;have hous:=HOk.out.used;have hds:(⟨#[]⟩:ByteArray).size<=4194304:=(by first | omega | decide);omega));have hcr:=After.cell (w:=w5) (cellB (k:=1) HTw.out.blk);obtain ⟨UU,hUU⟩:∃ UU,UU=usedL (insS l p ⟨2,⟨#[]⟩,⟨#[]⟩,0⟩):=⟨_,rfl⟩;have HUU:=lh hUU;rw [<-hUU] at HUs;clear hUU ht5 hg5 hv5 x5;go_wp2_with fail;refine wp_region_after (by kernel_rfl) (by kernel_rfl) ?_
    repeat (go_big_quiet_step (exact After.same (HUs _ (After.x _)).out))
    refine wpQuiet_nil ?_;rintro _ ⟨y,rfl⟩;have HPu2:=lh (HPu.out.trans (show putE l room p ⟨2,⟨#[]⟩,⟨#[]⟩,0⟩=if UU<=room then (0,insS l p ⟨2,⟨#[]⟩,⟨#[]⟩,0⟩) else (7,l) from by rw [HUU.out];rfl));clear hcr HUs HPu;by_cases hfit:UU<=room
    ·have HR3:=lh (HPu2.out.trans (if_pos hfit));have hb1:decide ((room:Int)<(UU:Int))=false:=by rw [decide_eq_false_iff_not];omega
     have hb2:decide (room<UU)=false:=by rw [decide_eq_false_iff_not];omega
     go_wp2_with fail;go_ret2;exact ⟨HX5.out.trans y.x,.inl ⟨by rw [HR3.out],t5,v5,rfl,by rw [HR3.out];exact HT5.out.ext y.x,hg6,hv6⟩⟩
    ·have HR3:=lh (HPu2.out.trans (if_neg hfit));have hb1:decide ((room:Int)<(UU:Int))=true:=by rw [decide_eq_true_eq];omega
     have hb2:decide (room<UU)=true:=by rw [decide_eq_true_eq];omega
     go_wp2_with fail;go_ret2;exact NextPost.err (by rw [HR3.out]) (by decide) (HX5.out.trans y.x)
   ·have q0:(kd==0)=false:=by rw [beq_eq_false_iff_ne];exact k0
    have q1:(!(kd==0))=true:=by rw [q0];rfl
    have HR3:=lh (HR2.out.trans (if_neg k0));go_wp2_with fail;go_ret2;exact NextPost.err (by rw [HR3.out]) (by decide) HXc.out
  ·have HR3:=lh (HR.out.trans (if_neg hh));have hh1:(H==0)=false:=by rw [beq_eq_false_iff_ne];exact hh
   have hh2:(!(H==0))=true:=by rw [hh1];rfl
   go_wp2_with fail;go_ret2;exact NextPost.err (by rw [HR3.out]) hh HXc.out
end
section
set_option maxRecDepth 100000 in
set_option maxHeartbeats 8000000 in
theorem rnext_link (t:Nat) (v:Value) (l:Nodes) (room:Nat) (p q data:ByteArray) (tm:Int) (most:Nat) (pk:Bool) (w:World) (T:RTreeAt w t v l room) (O:TreeOk l room) (hr:room<=1048576) (hp:mayB p=true) :
  Calls prog 120 #[.pointer (some ⟨t,0,none⟩),.agg #[.int .i64 4,.string p,.string q,.string data,.int .i64 tm,.int .i64 most,.bool pk]] w (NextPost w room (layE l room p ⟨3,emp,data,tm⟩)):=by
 have hlen:l.length<=16384:=by have:=len_used l;have:=O.used;omega
 have zp:=mayB_size hp;have HT:=lh T;have HOk:=lh O;have HP:=lh hp;obtain ⟨W1,hW1⟩:∃ W1,W1=w.alloc (.cells #[.int .i64 4,.string p,.string q,.string data,.int .i64 tm,.int .i64 most,.bool pk] 134 (0,0)):=⟨_,rfl⟩;have x1:Ext w W1:=hW1▸(Ext.refl w).alloc _;have HX1:=lh x1;have HBX:=lh (show W1.heap[w.heap.size]?=some (.cells #[.int .i64 4,.string p,.string q,.string data,.int .i64 tm,.int .i64 most,.bool pk] 134 (0,0)) from hW1▸block_alloc_new _ _);have HKi:=lh (rkind_any t v l room p W1 (T.ext x1) (by omega));have HKF:=lh (kind_at O hp);have hcl:=dataC_le pk most data;have HCut:=lh (fun (h:most<data.size)=>dataC_cut h);have HAll:=lh (fun (h:pk=false\/data.size<=most)=>dataC_all h)
 have HR:=lh (show layE l room p ⟨3,emp,data,tm⟩=if homeE l p=0 then (if kindAt l p=0 then putE l room p ⟨3,⟨#[]⟩,data,tm⟩ else (6,l)) else (homeE l p,l) from by
  obtain ⟨h1,h2⟩:=kind_at O hp;unfold layE;by_cases hh:homeE l p=0
  ·rw [if_pos hh,if_pos hh]
   cases hf:findA l p with
   | none=>rw [hf] at h1;simp only at h1;rw [h1];rfl
   | some o =>
    have:=h2 o hf;rw [hf] at h1;simp only at h1;rw [if_pos (by rfl),if_neg (by rw [h1];omega)]
  ·rw [if_neg hh,if_neg hh])
 have HHo:=fun w' (x:Ext w w')=>lh (rhome_any t v l room p w' (T.ext x) (by omega) (by omega));generalize layE l room p ⟨3,emp,data,tm⟩=R at *;generalize homeE l p=H at *;obtain ⟨kd,hkd⟩:∃ kd,kd=kindAt l p:=⟨_,rfl⟩;rw [<-hkd] at HKi HKF HR;clear hkd HKF;subst hW1;clear T O hp x1;go_enter func120,ntmps120;go_wp2_with fail;refine HKi.out.mono ?_;rintro e w1 ⟨rfl,hw⟩;obtain rfl:=hw.symm;clear hw;obtain ⟨c,hc⟩:∃ c,c=dataC pk most data:=⟨_,rfl⟩;rw [<-hc] at hcl;have HCC:=lh hc;clear hc;rcases pk with _ | _
 case' false =>
  obtain rfl:data=c:=(HCC.out.trans (HAll.out (.inl rfl))).symm;clear HCC HAll HCut;go_wp2_with fail
 case' true =>
  by_cases hlt:most<data.size
  case' pos =>
   have hcx:data.extract 0 most=c:=(HCut.out hlt).trans HCC.out.symm;have hd1:decide ((most:Int)<(data.size:Int))=true:=by rw [decide_eq_true_eq];omega
   have hd2:(most:Int)<=(data.size:Int):=by omega
   clear HCC HAll HCut;go_wp2_with fail;clear hcx hd1 hd2 hlt
  case' neg =>
   obtain rfl:data=c:=(HCC.out.trans (HAll.out (.inr (by omega)))).symm;have hd1:decide ((most:Int)<(data.size:Int))=false:=by rw [decide_eq_false_iff_not];omega
   clear HCC HAll HCut;go_wp2_with fail;clear hd1 hlt
 all_goals
  refine (HHo _ HX1.out).out.mono ?_;rintro e w3 ⟨rfl,x3⟩;have HXc:=lh (HX1.out.trans x3);have hbx:=(x3.block (ltB HBX.out)).trans HBX.out;have cb0:=cellB (k:=0) hbx;have cb1:=cellB (k:=1) hbx;have cb3:=cellB (k:=3) hbx;have cb4:=cellB (k:=4) hbx;have hbl:=ltB hbx;clear x3 hbx HHo HKi;by_cases hh:H=0
  ·subst hh;have HR2:=lh (HR.out.trans (if_pos rfl));clear HR;by_cases k0:kd=0
   ·subst k0;have HPu:=lh (HR2.out.trans (if_pos rfl));clear HR2;have HWt:=fun w' (x:Ext w w')=>lh (rwith_any t v l room p (3) (tm) (⟨#[]⟩) (data) w' (HT.out.ext x) HOk.out.sorted (by omega) (by omega) (fun y hy=>by have:=mayB_size (HOk.out.may y hy);omega));go_wp2_with fail;refine (HWt _ (by repeat (first | exact Ext.refl _ | exact HXc.out | refine Ext.alloc ?_ _ | refine Ext.setCell ?_ HXc.out.size _))).out.mono ?_;rintro e w5 ⟨t5,v5,rfl,ht5,hg5,hv5,x5⟩;have HX5:=lh (show Ext w w5 from Ext.trans (by repeat (first | exact Ext.refl _ | exact HXc.out | refine Ext.alloc ?_ _ | refine Ext.setCell ?_ HXc.out.size _)) x5);have HT5:=lh ht5;have HTw:=lh (HT.out.ext HX5.out);have hg6:=Nat.le_trans (Ext.size (w:=w) (by repeat (first | exact Ext.refl _ | exact HXc.out | refine Ext.alloc ?_ _ | refine Ext.setCell ?_ HXc.out.size _))) hg5;have hv6:=fun z hz=>Nat.le_trans (Ext.size (w:=w) (by repeat (first | exact Ext.refl _ | exact HXc.out | refine Ext.alloc ?_ _ | refine Ext.setCell ?_ HXc.out.size _))) (hv5 z hz);have HUs:=fun w' (x:Ext w5 w')=>lh (rused_any t5 v5 _ room w' (HT5.out.ext x) (by have:=insS_len l p ⟨3,⟨#[]⟩,data,tm⟩;omega) (by have hiu:usedL (insS l p ⟨3,⟨#[]⟩,data,tm⟩)+oldU l p=usedL l+(64+(⟨#[]⟩:ByteArray).size):=ins_used HOk.out.sorted p _;have hous:=HOk.out.used;have hds:(⟨#[]⟩:ByteArray).size<=4194304:=(by first | omega | decide);omega));have hcr:=After.cell (w:=w5) (cellB (k:=1) HTw.out.blk);obtain ⟨UU,hUU⟩:∃ UU,UU=usedL (insS l p ⟨3,⟨#[]⟩,data,tm⟩):=⟨_,rfl⟩;have HUU:=lh hUU;rw [<-hUU] at HUs;clear hUU ht5 hg5 hv5 x5;go_wp2_with fail;refine wp_region_after (by kernel_rfl) (by kernel_rfl) ?_
    repeat (go_big_quiet_step (exact After.same (HUs _ (After.x _)).out))
    refine wpQuiet_nil ?_;rintro _ ⟨y,rfl⟩;have HPu2:=lh (HPu.out.trans (show putE l room p ⟨3,⟨#[]⟩,data,tm⟩=if UU<=room then (0,insS l p ⟨3,⟨#[]⟩,data,tm⟩) else (7,l) from by rw [HUU.out];rfl));clear hcr HUs HPu;by_cases hfit:UU<=room
    ·have HR3:=lh (HPu2.out.trans (if_pos hfit));have hb1:decide ((room:Int)<(UU:Int))=false:=by rw [decide_eq_false_iff_not];omega
     have hb2:decide (room<UU)=false:=by rw [decide_eq_false_iff_not];omega
     go_wp2_with fail;go_ret2;exact ⟨HX5.out.trans y.x,.inl ⟨by rw [HR3.out],t5,v5,rfl,by rw [HR3.out];exact HT5.out.ext y.x,hg6,hv6⟩⟩
    ·have HR3:=lh (HPu2.out.trans (if_neg hfit));have hb1:decide ((room:Int)<(UU:Int))=true:=by rw [decide_eq_true_eq];omega
     have hb2:decide (room<UU)=true:=by rw [decide_eq_true_eq];omega
     go_wp2_with fail;go_ret2;exact NextPost.err (by rw [HR3.out]) (by decide) (HX5.out.trans y.x)
   ·have q0:(kd==0)=false:=by rw [beq_eq_false_iff_ne];exact k0
    have q1:(!(kd==0))=true:=by rw [q0];rfl
    have HR3:=lh (HR2.out.trans (if_neg k0));go_wp2_with fail;go_ret2;exact NextPost.err (by rw [HR3.out]) (by decide) HXc.out
  ·have HR3:=lh (HR.out.trans (if_neg hh));have hh1:(H==0)=false:=by rw [beq_eq_false_iff_ne];exact hh
   have hh2:(!(H==0))=true:=by rw [hh1];rfl
   go_wp2_with fail;go_ret2;exact NextPost.err (by rw [HR3.out]) hh HXc.out
end
section
end
section
end
section
end
section
def FileOk (l:Nodes):Prop:=∀ x∈l,x.2.kind=1->x.2.target=emp
theorem FileOk.nil:FileOk []:=fun _ h=>by cases h
theorem FileOk.put {l:Nodes} (F:FileOk l) (room:Nat) (p:ByteArray) {n:Nd} (h:n.kind=1->n.target=emp):FileOk (putE l room p n).2:=by
 unfold putE;split
 ·intro x hx hk;rcases ins_mem hx with rfl | hx
  ·exact h hk
  ·exact F x hx hk
 ·exact F
theorem FileOk.drop {l:Nodes} (F:FileOk l) (p:ByteArray):FileOk (dropA l p):=fun x hx=>F x (List.mem_filter.1 hx).1
theorem FileOk.move {l:Nodes} (F:FileOk l) (a b:ByteArray):FileOk (moveL l a b):=by
 intro x hx hk;unfold moveL at hx;rcases foldl_ins_mem _ _ _ hx with hx | hx
 ·obtain ⟨y,hy,rfl⟩:=List.mem_map.1 hx;unfold movL at hy;exact F y (List.mem_filter.1 hy).1 hk
 ·unfold restL at hx;exact F.drop b x (List.mem_filter.1 hx).1 hk
theorem FileOk.eff {l:Nodes} (F:FileOk l) (room m:Nat) (x:Eff):FileOk (effE l room m x).2:=by
 cases x with
 | write p d t =>
  show FileOk (writeE l room p _ t).2
  unfold writeE;split
  ·split
   ·exact F.put room p fun _=>rfl
   ·exact F
  ·exact F
 | add p d =>
  show FileOk (addE l room p _).2
  unfold addE;split
  ·exact F
  ·rename_i n hn;split
   ·exact F.put room p fun h=>F _ (findA_mem hn) h
   ·exact F
 | mkdir p =>
  show FileOk (layE l room p _).2
  unfold layE;split
  ·split
   ·exact F
   ·exact F.put room p fun h=>by cases h
  ·exact F
 | link p g t =>
  show FileOk (layE l room p _).2
  unfold layE;split
  ·split
   ·exact F
   ·exact F.put room p fun h=>by cases h
  ·exact F
 | rename p q =>
  show FileOk (renameE l p q).2
  unfold renameE
  repeat (first | exact F | exact F.move p q | split)
 | remove p =>
  show FileOk (removeE l p).2
  unfold removeE
  repeat (first | exact F | exact F.drop p | split)
end
section
theorem rnext_k1 (t:Nat) (v:Value) (l:Nodes) (room:Nat) (p q d:ByteArray) (tm:Int) (most:Nat) (pk:Bool) (m:Nat) (w:World) (T:RTreeAt w t v l room) (O:TreeOk l room) (hr:room<=1048576) (hp:mayB p=true) (hd:d.size<=1048576) (hm:dataC pk most d=cutTo m d) :
  Calls prog 120 #[.pointer (some ⟨t,0,none⟩),.agg #[.int .i64 1,.string p,.string q,.string d,.int .i64 tm,.int .i64 most,.bool pk]] w (NextPost w room (effE l room m (RE.eff ⟨1,p,q,d,tm⟩))):=by
 show Calls _ _ _ _ (NextPost w room (writeE l room p (cutTo m d) tm))
 rw [<-hm];exact rnext_write t v l room p q d tm most pk w T O hr hp hd
theorem rnext_k3 (t:Nat) (v:Value) (l:Nodes) (room:Nat) (p q d:ByteArray) (tm:Int) (most:Nat) (pk:Bool) (m:Nat) (w:World) (T:RTreeAt w t v l room) (O:TreeOk l room) (hr:room<=1048576) (hp:mayB p=true) (hd:d.size<=1048576) :
  Calls prog 120 #[.pointer (some ⟨t,0,none⟩),.agg #[.int .i64 3,.string p,.string q,.string d,.int .i64 tm,.int .i64 most,.bool pk]] w (NextPost w room (effE l room m (RE.eff ⟨3,p,q,d,tm⟩))):=by
 exact rnext_mkdir t v l room p q d tm most pk w T O hr hp hd
theorem rnext_k4 (t:Nat) (v:Value) (l:Nodes) (room:Nat) (p q d:ByteArray) (tm:Int) (most:Nat) (pk:Bool) (m:Nat) (w:World) (T:RTreeAt w t v l room) (O:TreeOk l room) (hr:room<=1048576) (hp:mayB p=true) :
  Calls prog 120 #[.pointer (some ⟨t,0,none⟩),.agg #[.int .i64 4,.string p,.string q,.string d,.int .i64 tm,.int .i64 most,.bool pk]] w (NextPost w room (effE l room m (RE.eff ⟨4,p,q,d,tm⟩))):=by
 exact rnext_link t v l room p q d tm most pk w T O hr hp
end
end Go.Proofs.YtodickpibbbiiaaGreatDoor
