import Derived.Test.YtldppmjjgljinaaGreatDoorTpD3
import Derived.Test.YtldppmjjgljinaaGreatDoorTpA1
import Derived.Test.YtldppmjjgljinaaGreatDoorTpD1
import Derived.Test.YtldppmjjgljinaaGreatDoorTpA2
open Go.Proofs.Tryz
namespace Go.Proofs.YtldppmjjgljinaaGreatDoor
open Go.RowKit
section
theorem row5_shape {w:World} {base n k:Nat} {e:TypeId} {v:Value} {xs:List Value} (h:w.ownsRow base e k v n xs):∃ (a:Option Addr) (cap:Nat),v=.slice a n cap/\n<=cap/\cap<=9223372036854775807 /\
  ∀ (j:Nat) x,xs[j]?=some x->∃ g,a=some ⟨g,0,none⟩/\base<=g/\g<w.heap.size/\w.cell? ⟨g,j,none⟩=some x:=by
 rcases h.2 with ⟨rfl,rfl⟩ | ⟨g,cap,cur,rfl,hb,hh,hc,hm,hs,ht⟩
 ·have h1:xs.length=0:=by have:=h.1;omega
  obtain rfl:=List.length_eq_zero_iff.1 h1;exact ⟨none,0,rfl,Nat.le_refl _,by decide,fun k x hx=>by simp at hx⟩
 ·refine ⟨some ⟨g,0,none⟩,cap,rfl,hc,by unfold maxLen at hm;exact hm,fun j x hx=>⟨g,rfl,hb,ltB hh,?_⟩⟩;have:=h.cells (g:=g) rfl j x hx
  rwa [append_kw.add_off,Nat.zero_add] at this
theorem RTreeAt.shape {w:World} {t:Nat} {v:Value} {l:Nodes} {room:Nat} (h:RTreeAt w t v l room):∃ (a:Option Addr) (cap:Nat),v=.slice a l.length cap/\l.length<=cap/\cap<=9223372036854775807 /\
  ∀ (k:Nat) (x:ByteArray×Nd),l[k]?=some x->∃ g,a=some ⟨g,0,none⟩/\g<w.heap.size/\w.rangeAt g (k*5) (cells5 x):=by
 obtain ⟨a,cap,h1,h2,h3,h4⟩:=row5_shape h.row;refine ⟨a,cap,h1,h2,h3,fun k x hx=>?_⟩;obtain ⟨g,e,_,hg,_⟩:=h4 (k*5+0) _ ((rows5_get hx (j:=0) (by omega)).trans rfl);refine ⟨g,e,hg,fun j u hj=>?_⟩;have hj5:j<5:=(List.getElem?_eq_some_iff.1 hj).1;obtain ⟨g',e',_,_,hc⟩:=h4 (k*5+j) u ((rows5_get hx hj5).trans hj);rw [e] at e'
 cases e'
 exact hc
theorem range_ext {w w':World} {g o:Nat} {cs:List Value} (h:w.rangeAt g o cs) (x:Ext w w') (hg:g<w.heap.size):w'.rangeAt g o cs:=fun j u hj=>(x.cell hg).trans (h j u hj)
set_option maxHeartbeats 1000000 in
theorem rfind_any (t:Nat) (v:Value) (l:Nodes) (room:Nat) (p:ByteArray) (w:World) (T:RTreeAt w t v l room) (hl:l.length<=1048576) (i:Int) (hi:i=match findA l p with | some _=>(idxA l p:Int) | none=>-1) :
  Calls prog 165 #[.pointer (some ⟨t,0,none⟩),.string p] w fun e w'=>e=.returned (.int .i64 i)/\w'=w:=by
 obtain ⟨a,cap,rfl,h1,h2,h3⟩:=T.shape;have ct:w.cell? ⟨t,0,none⟩=some (.slice a l.length cap):=cellB T.blk;have HC:=lh h3;have HI:=lh hi;obtain ⟨n,hn⟩:∃ n,n=l.length:=⟨_,rfl⟩;have HL:=lh hn;rw [<-hn] at h1 ct hl;clear T h3 hi hn;go_enter func165,ntmps165;go_wp2;go_loop [5] (fun iv=>∃ k:Nat,k<=n/\iv=.int .i64 k/\Hid (∀ y∈l.take k,y.1≠p)) (fun iv=>n - (intOf iv).toNat)
 case atStart=>exact ⟨0,Nat.zero_le _,rfl,by show ∀ y∈l.take 0,_;simp⟩
 case round =>
  obtain ⟨k,hk,rfl,H⟩:=hrel;by_cases hlt:k<n
  ·obtain ⟨x,hx⟩:∃ x,l[k]?=some x:=⟨_,List.getElem?_eq_getElem (by have:=HL.out;omega)⟩;obtain ⟨g,rfl,_,hc⟩:=HC.out k x hx;have c0:w.cell? ⟨g,k*5,none⟩=some (.string x.1):=hc 0 _ rfl;have HTK:=lh (take_next hx);have HX:=lh hx;clear hc hx;obtain ⟨xp,xn⟩:=x;simp only at c0;by_cases he:xp=p
   ·have e1:(xp.toList==p.toList)=true:=by rw [he];simp
    have HR:=lh (show i=(k:Int) from by
     have h:=idx_first HX.out he H.out;have h2:=HI.out;rw [h.1,h.2] at h2
     exact h2)
    go_wp2;go_ret;exact ⟨ret_int HR.out.symm,rfl⟩
   ·have e1:(xp.toList==p.toList)=false:=by simpa using fun e=>he (ba_ext e)
    go_wp2;go_round
    case rel=>exact ⟨k+1,by omega,by go_num,by
     show ∀ y∈l.take (k+1),_
     rw [HTK.out];intro y hy;rcases List.mem_append.1 hy with hy | hy
     ·exact H.out y hy
     ·rw [List.mem_singleton.1 hy];exact he⟩
    case measure=>simp [intOf];omega
  ·obtain rfl:k=n:=by omega
   have nlt:decide ((k:Int)<(k:Int))=false:=by simp
   have HR:=lh (show i=-1 from by
    have h2:=HI.out;rw [idx_none (by have:=H.out;rwa [HL.out,List.take_length] at this)] at h2
    exact h2)
   go_wp2;go_ret;exact ⟨ret_int HR.out.symm,rfl⟩
set_option maxHeartbeats 1000000 in
theorem rkind_any (t:Nat) (v:Value) (l:Nodes) (room:Nat) (p:ByteArray) (w:World) (T:RTreeAt w t v l room) (hl:l.length<=1048576) :
  Calls prog 121 #[.pointer (some ⟨t,0,none⟩),.string p] w fun e w'=>e=.returned (.int .i64 (kindAt l p))/\w'=w:=by
 have HF:=fun i hi=>lh (rfind_any t v l room p w T hl i hi);obtain ⟨a,cap,rfl,h1,h2,h3⟩:=T.shape;have ct:w.cell? ⟨t,0,none⟩=some (.slice a l.length cap):=cellB T.blk;have HC:=lh h3;have HK:=lh (show kindAt l p=if p.toList.isEmpty then 2 else match findA l p with | some n=>n.kind | none=>0 from rfl);generalize kindAt l p=K at *;clear T h3
 cases hem:p.toList.isEmpty with
 | true =>
  rw [hem] at HK;have HK2:=lh (HK.out.trans (if_pos rfl));clear HF HK;go_enter func121,ntmps121;go_wp2_with fail;go_ret;exact ⟨ret_int HK2.out.symm,rfl⟩
 | false =>
  rw [hem] at HK;have HK2:=lh (HK.out.trans (if_neg (by decide)));clear HK
  cases hf:findA l p with
  | none =>
   rw [hf] at HK2 HF;have HF1:=HF (-1) rfl;clear HF hf;go_enter func121,ntmps121;go_wp2_with fail;refine HF1.out.mono ?_;rintro e w1 ⟨rfl,hw⟩;obtain rfl:=hw.symm;clear hw;go_wp2_with fail;go_ret;exact ⟨ret_int HK2.out.symm,rfl⟩
  | some o =>
   rw [hf] at HK2 HF;have HF1:=HF _ rfl;have hx:=idx_some hf;generalize idxA l p=j at *;obtain ⟨g,rfl,_,hc⟩:=HC.out j _ hx;have c1:w.cell? ⟨g,j*5+1,none⟩=some (.int .i64 o.kind):=hc 1 _ rfl;have hjl:j<l.length:=(List.getElem?_eq_some_iff.1 hx).1;generalize l.length=n at *;have HK3:=lh (show K=o.kind from HK2.out);clear HK2;generalize o.kind=ok at *;clear HF hf hx hc HC;go_enter func121,ntmps121;go_wp2_with fail;refine HF1.out.mono ?_;rintro e w1 ⟨rfl,hw⟩;obtain rfl:=hw.symm;clear hw;go_wp2_with fail;go_ret;exact ⟨ret_int HK3.out.symm,rfl⟩
theorem rparent_any (p:ByteArray) (w:World) (hp:p.size<4294967281) :
  Calls prog 170 #[.string p] w fun e w'=>e=.returned (.string (parentR p))/\Ext w w':=by
 have H:=lh (refParent_any p w hp);generalize parentR p=q at *;generalize mayB p=b at *;go_enter func170,ntmps170;go_wp2_with fail;refine H.out.mono ?_;rintro e w1 ⟨rfl,x1⟩;have HX:=lh x1;clear x1;go_wp2_with fail;go_ret;exact ⟨rfl,HX.out⟩
set_option maxHeartbeats 1000000 in
theorem rused_any (t:Nat) (v:Value) (l:Nodes) (room:Nat) (w:World) (T:RTreeAt w t v l room) (hl:l.length<=1048576) (hu:usedL l<=1073741824) :
  Calls prog 100 #[.pointer (some ⟨t,0,none⟩)] w fun e w'=>e=.returned (.int .i64 (usedL l:Nat))/\w'=w:=by
 obtain ⟨a,cap,rfl,h1,h2,h3⟩:=T.shape;have ct:w.cell? ⟨t,0,none⟩=some (.slice a l.length cap):=cellB T.blk;have HC:=lh h3;have HU:=lh (usedL_take_le l);obtain ⟨n,hn⟩:∃ n,n=l.length:=⟨_,rfl⟩;have HL:=lh hn;rw [<-hn] at h1 ct hl;clear T h3 hn;go_enter func100,ntmps100;go_wp2;go_loop [3,4] (fun uv iv=>∃ k:Nat,k<=n/\iv=.int .i64 k/\uv=.int .i64 (usedL (l.take k):Nat)) (fun _ iv=>n - (intOf iv).toNat)
 case atStart=>exact ⟨0,Nat.zero_le _,rfl,rfl⟩
 case round =>
  obtain ⟨k,hk,rfl,rfl⟩:=hrel;by_cases hlt:k<n
  ·obtain ⟨x,hx⟩:∃ x,l[k]?=some x:=⟨_,List.getElem?_eq_getElem (by have:=HL.out;omega)⟩;obtain ⟨g,rfl,_,hc⟩:=HC.out k x hx;have c0:w.cell? ⟨g,k*5+2,none⟩=some (.string x.2.data):=hc 2 _ rfl;have HTK:=lh (usedL_take hx);have hle:=HU.out (k+1);rw [HTK.out] at hle;clear hc hx;generalize x.2.data=dt at *;obtain ⟨U,hU⟩:∃ U,U=usedL (l.take k):=⟨_,rfl⟩;have HU2:=lh hU;rw [<-hU] at hle ⊢;clear hU;have q1:IntKind.i64.wrap ((U:Int)+64)=(U:Int)+64:=IntWalk.i64_in _ (by omega);have q2:IntKind.i64.wrap ((U:Int)+64+(dt.size:Int))=(U:Int)+64+(dt.size:Int):=IntWalk.i64_in _ (by omega);go_wp2;go_round
   case rel=>exact ⟨k+1,by omega,by go_num,by rw [HTK.out,<-HU2.out];congr 1;omega⟩
   case measure=>simp [intOf];omega
  ·obtain rfl:k=n:=by omega
   have nlt:decide ((k:Int)<(k:Int))=false:=by simp
   have HT:=lh (show usedL (l.take k)=usedL l from by rw [HL.out,List.take_length]);rw [HT.out];go_wp2;go_ret;exact ⟨rfl,rfl⟩
theorem rhome_any (t:Nat) (v:Value) (l:Nodes) (room:Nat) (p:ByteArray) (w:World) (T:RTreeAt w t v l room) (hl:l.length<=1048576) (hp:p.size<4294967281) :
  Calls prog 164 #[.pointer (some ⟨t,0,none⟩),.string p] w fun e w'=>e=.returned (.int .i64 (homeE l p))/\Ext w w':=by
 have HP:=lh (rparent_any p w hp);have HK:=fun w' (x:Ext w w')=>lh (rkind_any t v l room (parentR p) w' (T.ext x) hl);have HE:=lh (show homeE l p=if kindAt l (parentR p)=0 then 5 else if kindAt l (parentR p)=2 then 0 else 12 from rfl);generalize homeE l p=H at *;generalize kindAt l (parentR p)=k at *;generalize parentR p=q at *;clear T;by_cases k0:k=0
 ·subst k0;have HE2:=lh (HE.out.trans (if_pos rfl));go_enter func164,ntmps164;go_wp2_with fail;refine HP.out.mono ?_;rintro e w1 ⟨rfl,x1⟩;have HX:=lh x1;clear x1;go_wp2_with fail;refine (HK _ HX.out).out.mono ?_;rintro e w2 ⟨rfl,hw⟩;obtain rfl:=hw.symm;clear hw;go_wp2_with fail;go_ret;exact ⟨ret_int HE2.out.symm,HX.out⟩
 ·have HE1:=lh (HE.out.trans (if_neg k0));have n0:(k==0)=false:=by rw [beq_eq_false_iff_ne];exact k0
  by_cases k2:k=2
  ·subst k2;have HE2:=lh (HE1.out.trans (if_pos rfl));go_enter func164,ntmps164;go_wp2_with fail;refine HP.out.mono ?_;rintro e w1 ⟨rfl,x1⟩;have HX:=lh x1;clear x1;go_wp2_with fail;refine (HK _ HX.out).out.mono ?_;rintro e w2 ⟨rfl,hw⟩;obtain rfl:=hw.symm;clear hw;go_wp2_with fail;go_ret;exact ⟨ret_int HE2.out.symm,HX.out⟩
  ·have HE2:=lh (HE1.out.trans (if_neg k2));have n2:(k==2)=false:=by rw [beq_eq_false_iff_ne];exact k2
   have n2':(!(k==2))=true:=by rw [n2];rfl
   go_enter func164,ntmps164;go_wp2_with fail;refine HP.out.mono ?_;rintro e w1 ⟨rfl,x1⟩;have HX:=lh x1;clear x1;go_wp2_with fail;refine (HK _ HX.out).out.mono ?_;rintro e w2 ⟨rfl,hw⟩;obtain rfl:=hw.symm;clear hw;go_wp2_with fail;go_ret;exact ⟨ret_int HE2.out.symm,HX.out⟩
end
section
theorem elAt:ElemK prog 155 165 (.agg #[.string ByteArray.empty,.int .i64 0,.string ByteArray.empty,.string ByteArray.empty,.int .i64 0]) 5 64:=⟨by kernel_rfl,by kernel_rfl,rfl,by decide,by decide⟩
structure OutAt (w0 wr:World) (u:Value) (o:Nodes) (room:Nat):Prop where
 blk:wr.heap[w0.heap.size]?=some (.cells #[u,.int .i64 (room:Nat)] 157 (0,0))
 row:wr.ownsRow (w0.heap.size+1) 165 5 u o.length (rows5 o)
 ext:Ext w0 wr
theorem OutAt.made (w0:World) (room:Nat):OutAt w0 (w0.alloc (.cells #[.slice none 0 0,.int .i64 (room:Nat)] 157)) (.slice none 0 0) [] room :=
 ⟨heap_alloc_new _ _,World.ownsRow_nil _ _ _ _,(Ext.refl w0).alloc _⟩
theorem OutAt.tree {w0 wr:World} {u:Value} {o:Nodes} {room:Nat} (h:OutAt w0 wr u o room):RTreeAt wr w0.heap.size u o room:=⟨h.blk,owns_base h.row (Nat.zero_le _)⟩
theorem OutAt.fresh {w0 wr:World} {u:Value} {o:Nodes} {room:Nat} (h:OutAt w0 wr u o room):∀ b,u.ownBlock=some b->w0.heap.size<=b:=fun b hb=>by have:=own_ge h.row b hb;omega
theorem OutAt.to {w0 wr w':World} {u:Value} {o:Nodes} {room:Nat} (h:OutAt w0 wr u o room) (x:Ext wr w'):OutAt w0 w' u o room:=⟨(x.block (ltB h.blk)).trans h.blk,owns_ext h.row x,h.ext.trans x⟩
theorem OutAt.push {w0 wr W1 w3:World} {u v':Value} {o:Nodes} {room:Nat} {x:ByteArray×Nd} (h:OutAt w0 wr u o room) (x1:Ext wr W1) (hown:w3.ownsRow (w0.heap.size+1) 165 5 v' (o.length+1) (rows5 o++cells5 x)) (hg:W1.grownBy w3 u.ownBlock) :
  w3.heap[w0.heap.size]?=some (.cells #[u,.int .i64 (room:Nat)] 157 (0,0))/\Ext w0 w3/\OutAt w0 (w3.setCell ⟨w0.heap.size,0,none⟩ v') v' (o++[x]) room:=by
 have h1:=h.to x1;have hb:w3.heap[w0.heap.size]?=some (.cells #[u,.int .i64 (room:Nat)] 157 (0,0)):=(hg.block _ (ltB h1.blk) fun e=>by have:=own_ge h1.row _ e.symm;omega).trans h1.blk;refine ⟨hb,grown_ext h1.ext (Nat.le_succ _) h1.row hg,setCellB hb,?_,(grown_ext h1.ext (Nat.le_succ _) h1.row hg).setCell (Nat.le_refl _) _⟩;rw [List.length_append,List.length_singleton,rows5_snoc];exact owns_blocks hown fun b hb2=>setCellO (by have:=own_ge hown b hb2;omega)
theorem drop_next {l:Nodes} {p:ByteArray} {k:Nat} {x:ByteArray×Nd} (h:l[k]?=some x):dropA (l.take (k+1)) p=dropA (l.take k) p++(if x.1=p then [] else [x]):=by
 unfold dropA;rw [take_next h,List.filter_append];by_cases e:x.1=p <;> simp [e]
def Fresh (w:World) (l:Nodes) (room:Nat) (e:Ending) (w':World):Prop:=∃ t v,e=.returned (.pointer (some ⟨t,0,none⟩))/\RTreeAt w' t v l room/\w.heap.size<=t/\(∀ b,v.ownBlock=some b->w.heap.size<=b)/\Ext w w'
set_option maxRecDepth 100000 in
set_option maxHeartbeats 4000000 in
theorem rwithout_any (t:Nat) (v:Value) (l:Nodes) (room:Nat) (p:ByteArray) (w:World) (T:RTreeAt w t v l room) (hl:l.length<=1048576) :
  Calls prog 163 #[.pointer (some ⟨t,0,none⟩),.string p] w (Fresh w (dropA l p) room):=by
 obtain ⟨a,cap,rfl,h1,h2,h3⟩:=T.shape;have HT:=lh T;have HC:=lh h3;have ct:w.cell? ⟨t,0,none⟩=some (.slice a l.length cap):=cellB T.blk;have cr:w.cell? ⟨t,1,none⟩=some (.int .i64 (room:Nat)):=cellB T.blk;have htl:=ltB T.blk;obtain ⟨n,hn⟩:∃ n,n=l.length:=⟨_,rfl⟩;have HL:=lh hn;rw [<-hn] at h1 ct hl;clear T h3 hn;go_enter func163,ntmps163;go_wp2_with fail;have HO0:=lh (OutAt.made w room);obtain ⟨wa,hwa⟩:∃ x,x=w.alloc (.cells #[.slice none 0 0,.int .i64 (room:Nat)] 157):=⟨_,rfl⟩;rw [<-hwa] at HO0 ⊢;clear hwa;go_loopw [6] (fun iv wr=>Hid (∃ (k:Nat) (u:Value),k<=n/\iv=.int .i64 k/\OutAt w wr u (dropA (l.take k) p) room)) (fun iv _=>n - (intOf iv).toNat)
 case atStart=>exact ⟨0,_,Nat.zero_le _,rfl,by simpa [dropA] using HO0.out⟩
 case round =>
  obtain ⟨k,u,hk,rfl,ho⟩:=hrel.out;clear hrel HO0;have HO:=lh ho;have hs:=ho.ext.size;have HCT:=lh ct;have ct:=(ho.ext.cell htl).trans ct;by_cases hlt:k<n
  ·obtain ⟨x,hx⟩:∃ x,l[k]?=some x:=⟨_,List.getElem?_eq_getElem (by have:=HL.out;omega)⟩;obtain ⟨g,rfl,hgl,hc⟩:=HC.out k x hx;have hc':=range_ext hc ho.ext hgl;have HCX:=lh hc;have hgl':=hgl;have c0:wr.cell? ⟨g,k*5,none⟩=some (.string x.1):=hc' 0 _ rfl;have c1:wr.cell? ⟨g,k*5+1,none⟩=some (.int .i64 x.2.kind):=hc' 1 _ rfl;have c2:wr.cell? ⟨g,k*5+2,none⟩=some (.string x.2.data):=hc' 2 _ rfl;have c3:wr.cell? ⟨g,k*5+3,none⟩=some (.string x.2.target):=hc' 3 _ rfl;have c4:wr.cell? ⟨g,k*5+4,none⟩=some (.int .i64 x.2.time):=hc' 4 _ rfl;have HN:=lh (drop_next (p:=p) hx);have co:wr.cell? ⟨w.heap.size,0,none⟩=some u:=cellB ho.blk;have fo:wr.frozen? ⟨w.heap.size,0,none⟩=false:=frozenB ho.blk;have hol:=ltB ho.blk;obtain ⟨oa,ocap,rfl,_⟩:=row5_shape ho.row;have hon:=ho.row.1;obtain ⟨q,hq⟩:∃ q,q=dropA (l.take k) p:=⟨_,rfl⟩
   have hqn:q.length<=1048576:=by
    rw [hq];exact Nat.le_trans (List.length_filter_le _ _) (by rw [List.length_take];omega)
   have HQ:=lh hq;rw [<-hq] at HO HN co;obtain ⟨xp,xk,xd,xt,xm⟩:=x;simp only at c0 c1 c2 c3 c4;have HLD:=lh (fun (w':World) (hr:w'.rangeAt g (k*5) (cells5 (xp,⟨xk,xd,xt,xm⟩)))=>run_loadAt_mid (P:=prog) w' g (k*5) 165 _ _ hr underlying165 rfl (by kernel_rfl));clear hc hc' hx ho hq;by_cases he:xp=p
   ·have e1:(xp.toList==p.toList)=true:=by rw [he];simp
    have e2:(!(xp.toList==p.toList))=false:=by rw [e1];rfl
    have HN2:=lh (HN.out.trans (by rw [if_pos he,List.append_nil]));clear HN;go_wp2_with fail;go_roundw
    case rel=>exact ⟨k+1,_,by omega,by go_num,by rw [HN2.out];exact HO.out⟩
    case measure=>simp [intOf] <;> omega
   ·have e1:(xp.toList==p.toList)=false:=by simpa using fun e=>he (ba_ext e)
    have e2:(!(xp.toList==p.toList))=true:=by rw [e1];rfl
    have HN2:=lh (HN.out.trans (by rw [if_neg he]));clear HN;go_wp2_with fail
    go_region_law
     (refine step_append_k elAt (w.heap.size+1) (.slice oa q.length ocap) q.length (rows5 q) (owns_ext HO.out.row ?_) wr.heap.size [.string xp,.int .i64 xk,.string xd,.string xt,.int .i64 xm] rfl (.tmp 36) (.tmp 44) rfl rfl ?_ ?_ ?_ ?_ ?_ ?_ ?_
      ·repeat (first | exact Ext.refl _ | refine Ext.alloc ?_ _ | refine Ext.drew ?_)
      ·simp [Act.eval]
      ·simp [Act.eval]
      ·intro j u hj;exact (cellB (heap_new_drew rfl)).trans (by simpa using hj)
      ·intro u hu;simp only [List.mem_cons,List.not_mem_nil,or_false] at hu;rcases hu with rfl | rfl | rfl | rfl | rfl <;> rfl
      ·omega
      ·simp;omega
      intro v' w3 hown3 hgr3 hrow3 _;obtain ⟨g3,cap3,rfl,_⟩:=hrow3;have hp3:=OutAt.push (x:=(xp,⟨xk,xd,xt,xm⟩)) HO.out (W1:=_) (by repeat (first | exact Ext.refl _ | refine Ext.alloc ?_ _ | refine Ext.drew ?_)) hown3 hgr3;have k1:w3.cell? ⟨w.heap.size,0,none⟩=some (.slice oa q.length ocap):=cellB hp3.1;have f1:w3.frozen? ⟨w.heap.size,0,none⟩=false:=frozenB hp3.1;have x3:=hp3.2.1;have kt:w3.cell? ⟨t,0,none⟩=some (.slice (some ⟨g,0,none⟩) n cap):=(x3.cell htl).trans HCT.out;have kg0:w3.cell? ⟨g,k*5,none⟩=some (.string xp):=(x3.cell hgl').trans (HCX.out 0 _ rfl);have kg1:w3.cell? ⟨g,k*5+1,none⟩=some (.int .i64 xk):=(x3.cell hgl').trans (HCX.out 1 _ rfl);have kg2:w3.cell? ⟨g,k*5+2,none⟩=some (.string xd):=(x3.cell hgl').trans (HCX.out 2 _ rfl);have kg3:w3.cell? ⟨g,k*5+3,none⟩=some (.string xt):=(x3.cell hgl').trans (HCX.out 3 _ rfl);have kg4:w3.cell? ⟨g,k*5+4,none⟩=some (.int .i64 xm):=(x3.cell hgl').trans (HCX.out 4 _ rfl);have HP:=lh hp3.2.2
      clear hown3 hgr3 hp3 x3)
    all_goals
     go_wp2_with fail;go_roundw
     case rel=>exact ⟨k+1,_,by omega,by go_num,by rw [HN2.out];exact HP.out⟩
     case measure=>simp [intOf] <;> omega
  ·obtain rfl:k=n:=by omega
   have nlt:decide ((k:Int)<(k:Int))=false:=by simp
   have HTK:=lh (show l.take k=l from by rw [HL.out,List.take_length]);clear ho;go_wp2_with fail;go_ret;have hq:=HO.out;rw [HTK.out] at hq;exact ⟨w.heap.size,u,rfl,hq.tree,Nat.le_refl _,hq.fresh,hq.ext⟩
end
section
theorem step_ins {p:ByteArray} {n:Nd} {s:Bool×Nodes} {x:ByteArray×Nd} (h1:s.1=false) (h2:cmpL p.toList x.1.toList<=0):withStep p n s x=(true,if x.1=p then s.2++[(p,n)] else s.2++[(p,n)]++[x]):=by
 unfold withStep;rw [h1,decide_eq_true h2];rfl
theorem step_not {p:ByteArray} {n:Nd} {s:Bool×Nodes} {x:ByteArray×Nd} (h:s.1=true\/¬ cmpL p.toList x.1.toList<=0):withStep p n s x=(s.1,if x.1=p then s.2 else s.2++[x]):=by
 unfold withStep;rcases h with h | h
 ·rw [h];rfl
 ·rw [decide_eq_false h,Bool.and_false];rfl
set_option maxRecDepth 100000 in
set_option maxHeartbeats 8000000 in
theorem rwith_any (t:Nat) (v:Value) (l:Nodes) (room:Nat) (p:ByteArray) (nk nm:Int) (nd nt:ByteArray) (w:World) (T:RTreeAt w t v l room) (hs:Sorted l) (hl:l.length<=1048576) (hp:p.size<=1048576) (hlp:∀ y∈l,y.1.size<=1048576) :
  Calls prog 166 #[.pointer (some ⟨t,0,none⟩),.string p,.agg #[.int .i64 nk,.string nd,.string nt,.int .i64 nm]] w (Fresh w (insS l p ⟨nk,nd,nt,nm⟩) room):=by
 have HWE:=lh (withF_end hs p ⟨nk,nd,nt,nm⟩);obtain ⟨a,cap,rfl,h1,h2,h3⟩:=T.shape;have HC:=lh h3;have ct0:w.cell? ⟨t,0,none⟩=some (.slice a l.length cap):=cellB T.blk;have cr0:w.cell? ⟨t,1,none⟩=some (.int .i64 (room:Nat)):=cellB T.blk;have htl0:=ltB T.blk;have HCmp:=fun (x:ByteArray) (hx:x.size<=1048576) w'=>lh (refCmp_any p x w' (by omega) (by omega));have HLP:=lh hlp
 have HLen:=lh (fun (k:Nat)=>show (withF (l.take k) p ⟨nk,nd,nt,nm⟩).2.length<=l.length+1 from by
  have:=withF_len p ⟨nk,nd,nt,nm⟩ (l.take k) (false,[]);have h2:(l.take k).length<=l.length:=by rw [List.length_take];omega
  simp only [List.length_nil,Bool.false_eq_true,if_false] at this;unfold withF
  omega)
 obtain ⟨n,hn⟩:∃ n,n=l.length:=⟨_,rfl⟩;have HL:=lh hn;rw [<-hn] at h1 ct0 hl;have hxw:Ext w (w.alloc (.cells #[.int .i64 nk,.string nd,.string nt,.int .i64 nm] 57 (0,0))):=(Ext.refl w).alloc _;have HXW:=lh hxw;have HBX:=lh (heap_alloc_new w (.cells #[.int .i64 nk,.string nd,.string nt,.int .i64 nm] 57 (0,0)));have ct:=(hxw.cell htl0).trans ct0;have cr:=(hxw.cell htl0).trans cr0;have hbl:=ltB HBX.out;have HO0:=lh (OutAt.made (w.alloc (.cells #[.int .i64 nk,.string nd,.string nt,.int .i64 nm] 57 (0,0))) room);have htl:t<(w.alloc (.cells #[.int .i64 nk,.string nd,.string nt,.int .i64 nm] 57 (0,0))).heap.size:=by rw [size_alloc];omega
 have HWA:=lh (show w.heap.size+1=(w.alloc (.cells #[.int .i64 nk,.string nd,.string nt,.int .i64 nm] 57 (0,0))).heap.size from (size_alloc _ _).symm);have HCX0:=lh (fun (g o:Nat) (cs:List Value) (h:w.rangeAt g o cs) (hg:g<w.heap.size)=>range_ext h hxw hg);clear T h3 hn hs hlp hxw ct0 cr0;go_enter func166,ntmps166;go_wp2_with fail;obtain ⟨wa,hwa⟩:∃ x,x=w.alloc (.cells #[.int .i64 nk,.string nd,.string nt,.int .i64 nm] 57 (0,0)):=⟨_,rfl⟩;rw [<-hwa] at HXW HBX ct cr hbl HO0 htl HWA HCX0 ⊢;rw [HWA.out];clear hwa;have HCT:=lh ct;obtain ⟨wb,hwb⟩:∃ x,x=wa.alloc (.cells #[.slice none 0 0,.int .i64 (room:Nat)] 157):=⟨_,rfl⟩;rw [<-hwb] at HO0 ⊢;clear hwb;go_loopw [8,9] (fun dv iv wr=>Hid (∃ (k:Nat) (u:Value),k<=n/\iv=.int .i64 k/\dv=.bool (withF (l.take k) p ⟨nk,nd,nt,nm⟩).1/\OutAt wa wr u (withF (l.take k) p ⟨nk,nd,nt,nm⟩).2 room)) (fun _ iv _=>n - (intOf iv).toNat)
 case atStart=>exact ⟨0,_,Nat.zero_le _,rfl,rfl,by simpa [withF] using HO0.out⟩
 case round =>
  obtain ⟨k,u,hk,rfl,rfl,ho⟩:=hrel.out;clear hrel HO0;have HO:=lh ho;have hsz:=ho.ext.size;have ct:=(ho.ext.cell htl).trans ct;have cb0:wr.cell? ⟨w.heap.size,0,none⟩=some (.int .i64 nk):=(ho.ext.cell hbl).trans (cellB HBX.out);have cb1:wr.cell? ⟨w.heap.size,1,none⟩=some (.string nd):=(ho.ext.cell hbl).trans (cellB HBX.out);have cb2:wr.cell? ⟨w.heap.size,2,none⟩=some (.string nt):=(ho.ext.cell hbl).trans (cellB HBX.out);have cb3:wr.cell? ⟨w.heap.size,3,none⟩=some (.int .i64 nm):=(ho.ext.cell hbl).trans (cellB HBX.out);have co:wr.cell? ⟨wa.heap.size,0,none⟩=some u:=cellB ho.blk;have fo:wr.frozen? ⟨wa.heap.size,0,none⟩=false:=frozenB ho.blk;have hol:=ltB ho.blk;obtain ⟨oa,ocap,rfl,_⟩:=row5_shape ho.row;have hlen:=HLen.out k;rw [<-HL.out] at hlen;obtain ⟨s,hs⟩:∃ s,s=withF (l.take k) p ⟨nk,nd,nt,nm⟩:=⟨_,rfl⟩;have HS:=lh hs;rw [<-hs] at HO co hlen ⊢;have hqn:s.2.length<=1048577:=by omega
  clear ho hlen;by_cases hlt:k<n
  ·obtain ⟨x,hx⟩:∃ x,l[k]?=some x:=⟨_,List.getElem?_eq_getElem (by have:=HL.out;omega)⟩;obtain ⟨g,rfl,hgl,hc⟩:=HC.out k x hx;have HCX:=lh (HCX0.out g (k*5) _ hc hgl);have hgl':g<wa.heap.size:=Nat.lt_of_lt_of_le hgl HXW.out.size;have hc':=range_ext HCX.out HO.out.ext hgl';have c0:wr.cell? ⟨g,k*5,none⟩=some (.string x.1):=hc' 0 _ rfl;have c1:wr.cell? ⟨g,k*5+1,none⟩=some (.int .i64 x.2.kind):=hc' 1 _ rfl;have c2:wr.cell? ⟨g,k*5+2,none⟩=some (.string x.2.data):=hc' 2 _ rfl;have c3:wr.cell? ⟨g,k*5+3,none⟩=some (.string x.2.target):=hc' 3 _ rfl;have c4:wr.cell? ⟨g,k*5+4,none⟩=some (.int .i64 x.2.time):=hc' 4 _ rfl;have HN:=lh (withF_next (p:=p) (n:=⟨nk,nd,nt,nm⟩) hx);rw [<-hs] at HN;have HCm:=fun w'=>HCmp x.1 (HLP.out x (List.mem_of_getElem? hx)) w';obtain ⟨xp,xk,xd,xt,xm⟩:=x;simp only at c0 c1 c2 c3 c4 HCm;obtain ⟨s1,q⟩:=s;simp only at co hqn HO ⊢;clear hc hc' hx hs HS HC HLen HCmp HLP;have HSN:=lh (fun (h:s1=true\/¬ cmpL p.toList xp.toList<=0)=>HN.out.trans (step_not (s:=(s1,q)) (x:=(xp,⟨xk,xd,xt,xm⟩)) h));have HSI:=lh (fun (h1:s1=false) (h2:cmpL p.toList xp.toList<=0)=>HN.out.trans (step_ins (s:=(s1,q)) (x:=(xp,⟨xk,xd,xt,xm⟩)) h1 h2));clear HN
   cases s1 with
   | true =>
    have HN2:=lh (show withF (l.take (k+1)) p ⟨nk,nd,nt,nm⟩=(true,if xp=p then q else q++[(xp,⟨xk,xd,xt,xm⟩)]) from HSN.out (.inl rfl));clear HSN HSI;by_cases he:xp=p
    ·have e1:(xp.toList==p.toList)=true:=by rw [he];simp
     have e2:(!(xp.toList==p.toList))=false:=by rw [e1];rfl
     have HN3:=lh (HN2.out.trans (by rw [if_pos he]));clear HN2;go_wp2_with fail;go_roundw
     case rel=>exact ⟨k+1,_,by omega,by go_num,by rw [HN3.out],by rw [HN3.out];exact HO.out⟩
     case measure=>simp [intOf] <;> omega
    ·have e1:(xp.toList==p.toList)=false:=by simpa using fun e=>he (ba_ext e)
     have e2:(!(xp.toList==p.toList))=true:=by rw [e1];rfl
     have HN3:=lh (HN2.out.trans (by rw [if_neg he]));clear HN2;go_wp2_with fail
     go_region_law
      (refine step_append_k elAt (wa.heap.size+1) (.slice oa q.length ocap) q.length (rows5 q) (owns_ext HO.out.row ?_) wr.heap.size [.string xp,.int .i64 xk,.string xd,.string xt,.int .i64 xm] rfl (.tmp 66) (.tmp 74) rfl rfl ?_ ?_ ?_ ?_ ?_ ?_ ?_
       ·repeat (first | exact Ext.refl _ | refine Ext.alloc ?_ _ | refine Ext.drew ?_)
       ·simp [Act.eval]
       ·simp [Act.eval]
       ·intro j u hj;exact (cellB (heap_new_drew rfl)).trans (by simpa using hj)
       ·intro u hu;simp only [List.mem_cons,List.not_mem_nil,or_false] at hu;rcases hu with rfl | rfl | rfl | rfl | rfl <;> rfl
       ·omega
       ·simp;omega
       intro v' w3 hown3 hgr3 hrow3 _;obtain ⟨g4,g4c,rfl,_⟩:=hrow3;have hp3:=OutAt.push (x:=(xp,⟨xk,xd,xt,xm⟩)) HO.out (W1:=_) (by repeat (first | exact Ext.refl _ | refine Ext.alloc ?_ _ | refine Ext.drew ?_)) hown3 hgr3;have x3:=hp3.2.1;have k1:w3.cell? ⟨wa.heap.size,0,none⟩=some ((.slice oa q.length ocap)):=cellB hp3.1;have f1:w3.frozen? ⟨wa.heap.size,0,none⟩=false:=frozenB hp3.1;have HP:=lh hp3.2.2
       clear hown3 hgr3 hp3 x3)
     all_goals
      go_wp2_with fail;go_roundw
      case rel=>exact ⟨k+1,_,by omega,by go_num,by rw [HN3.out],by rw [HN3.out];exact HP.out⟩
      case measure=>simp [intOf] <;> omega
   | false =>
    have HCn:=HCm wr;by_cases hc:cmpL p.toList xp.toList<=0
    ·have HN2:=lh (show withF (l.take (k+1)) p ⟨nk,nd,nt,nm⟩=(true,if xp=p then q++[(p,⟨nk,nd,nt,nm⟩)] else q++[(p,⟨nk,nd,nt,nm⟩)]++[(xp,⟨xk,xd,xt,xm⟩)]) from HSI.out rfl hc);clear HSN HSI HCm;generalize cmpL p.toList xp.toList=cc at *;have d1:decide (cc<=0)=true:=decide_eq_true hc;go_wp2_with fail;refine HCn.out.mono ?_;rintro e wr2 ⟨rfl,xr2⟩;have HO2:=lh (HO.out.to xr2);have co:=cellB (k:=0) HO2.out.blk;have fo:wr2.frozen? ⟨wa.heap.size,0,none⟩=false:=frozenB HO2.out.blk;have cb0:wr2.cell? ⟨w.heap.size,0,none⟩=some (.int .i64 nk):=(HO2.out.ext.cell hbl).trans (cellB HBX.out);have cb1:wr2.cell? ⟨w.heap.size,1,none⟩=some (.string nd):=(HO2.out.ext.cell hbl).trans (cellB HBX.out);have cb2:wr2.cell? ⟨w.heap.size,2,none⟩=some (.string nt):=(HO2.out.ext.cell hbl).trans (cellB HBX.out);have cb3:wr2.cell? ⟨w.heap.size,3,none⟩=some (.int .i64 nm):=(HO2.out.ext.cell hbl).trans (cellB HBX.out);have hol:=ltB HO2.out.blk;have hsz:=HO2.out.ext.size;clear xr2 HO HCn;go_wp2_with fail
     go_region_law
      (refine step_append_k elAt (wa.heap.size+1) (.slice oa q.length ocap) q.length (rows5 q) (owns_ext HO2.out.row ?_) wr2.heap.size [.string p,.int .i64 nk,.string nd,.string nt,.int .i64 nm] rfl (.tmp 44) (.tmp 48) rfl rfl ?_ ?_ ?_ ?_ ?_ ?_ ?_
       ·repeat (first | exact Ext.refl _ | refine Ext.alloc ?_ _ | refine Ext.drew ?_)
       ·simp [Act.eval]
       ·simp [Act.eval]
       ·intro j u hj;exact (cellB (heap_new_drew rfl)).trans (by simpa using hj)
       ·intro u hu;simp only [List.mem_cons,List.not_mem_nil,or_false] at hu;rcases hu with rfl | rfl | rfl | rfl | rfl <;> rfl
       ·omega
       ·simp;omega
       intro v' w3 hown3 hgr3 hrow3 _;obtain ⟨g3,g3c,rfl,_⟩:=hrow3;have hp3:=OutAt.push (x:=(p,⟨nk,nd,nt,nm⟩)) HO2.out (W1:=_) (by repeat (first | exact Ext.refl _ | refine Ext.alloc ?_ _ | refine Ext.drew ?_)) hown3 hgr3;have x3:=hp3.2.1;have k1:w3.cell? ⟨wa.heap.size,0,none⟩=some ((.slice oa q.length ocap)):=cellB hp3.1;have f1:w3.frozen? ⟨wa.heap.size,0,none⟩=false:=frozenB hp3.1;have HP:=lh hp3.2.2
       clear hown3 hgr3 hp3 x3)
     all_goals
      have hlen2:(q++[(p,(⟨nk,nd,nt,nm⟩:Nd))]).length=q.length+1:=by simp
      have HQ2:=HP;obtain ⟨q2,hq2⟩:∃ q2,q2=q++[(p,(⟨nk,nd,nt,nm⟩:Nd))]:=⟨_,rfl⟩;rw [<-hq2] at HQ2 HN2 hlen2;clear hq2 HP HO2;obtain ⟨W4,hW4⟩:∃ W4,W4=w3.setCell ⟨wa.heap.size,0,none⟩ (.slice (some ⟨g3,0,none⟩) (q.length+1) g3c):=⟨_,rfl⟩;rw [<-hW4] at HQ2 ⊢;clear hW4;have hqn2:q2.length<=1048578:=by omega
      rw [<-hlen2] at HQ2 ⊢;clear hlen2;have hxo:=HQ2.out.ext;have ct:=(hxo.cell htl).trans HCT.out;have hc2:=range_ext HCX.out hxo hgl';have c0:=hc2 0 _ rfl;have c1:=hc2 1 _ rfl;have c2:=hc2 2 _ rfl;have c3:=hc2 3 _ rfl;have c4:=hc2 4 _ rfl;have co:=cellB (k:=0) HQ2.out.blk;have fo:=frozenB (k:=0) HQ2.out.blk;have hol:=ltB HQ2.out.blk;have hsz:=hxo.size;simp only [Nat.add_zero,List.getElem?_toArray,List.getElem?_cons_zero] at c0 co;clear hxo hc2;by_cases he:xp=p
      ·have e1:(xp.toList==p.toList)=true:=by rw [he];simp
       have e2:(!(xp.toList==p.toList))=false:=by rw [e1];rfl
       have HN3:=lh (HN2.out.trans (by rw [if_pos he]));clear HN2;go_wp2_with fail;go_roundw
       case rel=>exact ⟨k+1,_,by omega,by go_num,by rw [HN3.out],by rw [HN3.out];exact HQ2.out⟩
       case measure=>simp [intOf] <;> omega
      ·have e1:(xp.toList==p.toList)=false:=by simpa using fun e=>he (ba_ext e)
       have e2:(!(xp.toList==p.toList))=true:=by rw [e1];rfl
       have HN3:=lh (HN2.out.trans (by rw [if_neg he]));clear HN2;go_wp2_with fail
       go_region_law
        (refine step_append_k elAt (wa.heap.size+1) (.slice (some ⟨g3,0,none⟩) q2.length g3c) q2.length (rows5 q2) (owns_ext HQ2.out.row ?_) W4.heap.size [.string xp,.int .i64 xk,.string xd,.string xt,.int .i64 xm] rfl (.tmp 66) (.tmp 74) rfl rfl ?_ ?_ ?_ ?_ ?_ ?_ ?_
         ·repeat (first | exact Ext.refl _ | refine Ext.alloc ?_ _ | refine Ext.drew ?_)
         ·simp [Act.eval]
         ·simp [Act.eval]
         ·intro j u hj;exact (cellB (heap_new_drew rfl)).trans (by simpa using hj)
         ·intro u hu;simp only [List.mem_cons,List.not_mem_nil,or_false] at hu;rcases hu with rfl | rfl | rfl | rfl | rfl <;> rfl
         ·omega
         ·simp;omega
         intro v' w4 hown3 hgr3 hrow3 _;obtain ⟨g4,g4c,rfl,_⟩:=hrow3;have hp3:=OutAt.push (x:=(xp,⟨xk,xd,xt,xm⟩)) HQ2.out (W1:=_) (by repeat (first | exact Ext.refl _ | refine Ext.alloc ?_ _ | refine Ext.drew ?_)) hown3 hgr3;have x3:=hp3.2.1;have k1:w4.cell? ⟨wa.heap.size,0,none⟩=some ((.slice (some ⟨g3,0,none⟩) q2.length g3c)):=cellB hp3.1;have f1:w4.frozen? ⟨wa.heap.size,0,none⟩=false:=frozenB hp3.1;have HP4:=lh hp3.2.2
         clear hown3 hgr3 hp3 x3)
       all_goals
        go_wp2_with fail;go_roundw
        case rel=>exact ⟨k+1,_,by omega,by go_num,by rw [HN3.out],by rw [HN3.out];exact HP4.out⟩
        case measure=>simp [intOf] <;> omega
    ·have HN2:=lh (show withF (l.take (k+1)) p ⟨nk,nd,nt,nm⟩=(false,if xp=p then q else q++[(xp,⟨xk,xd,xt,xm⟩)]) from HSN.out (.inr hc));clear HSN HSI HCm;generalize cmpL p.toList xp.toList=cc at *;have d1:decide (cc<=0)=false:=decide_eq_false hc;go_wp2_with fail;refine HCn.out.mono ?_;rintro e wr2 ⟨rfl,xr2⟩;have HO2:=lh (HO.out.to xr2);have hxo:=HO2.out.ext;have ct:=(hxo.cell htl).trans HCT.out;have hc2:=range_ext HCX.out hxo hgl';have c0:=hc2 0 _ rfl;have c1:=hc2 1 _ rfl;have c2:=hc2 2 _ rfl;have c3:=hc2 3 _ rfl;have c4:=hc2 4 _ rfl;have co:=cellB (k:=0) HO2.out.blk;have fo:wr2.frozen? ⟨wa.heap.size,0,none⟩=false:=frozenB HO2.out.blk;have hol:=ltB HO2.out.blk;have hsz:=hxo.size;simp only [Nat.add_zero,List.getElem?_toArray,List.getElem?_cons_zero] at c0 co;clear xr2 HO HCn hxo hc2;by_cases he:xp=p
     ·have e1:(xp.toList==p.toList)=true:=by rw [he];simp
      have e2:(!(xp.toList==p.toList))=false:=by rw [e1];rfl
      have HN3:=lh (HN2.out.trans (by rw [if_pos he]));clear HN2;go_wp2_with fail;go_roundw
      case rel=>exact ⟨k+1,_,by omega,by go_num,by rw [HN3.out],by rw [HN3.out];exact HO2.out⟩
      case measure=>simp [intOf] <;> omega
     ·have e1:(xp.toList==p.toList)=false:=by simpa using fun e=>he (ba_ext e)
      have e2:(!(xp.toList==p.toList))=true:=by rw [e1];rfl
      have HN3:=lh (HN2.out.trans (by rw [if_neg he]));clear HN2;go_wp2_with fail
      go_region_law
       (refine step_append_k elAt (wa.heap.size+1) (.slice oa q.length ocap) q.length (rows5 q) (owns_ext HO2.out.row ?_) wr2.heap.size [.string xp,.int .i64 xk,.string xd,.string xt,.int .i64 xm] rfl (.tmp 66) (.tmp 74) rfl rfl ?_ ?_ ?_ ?_ ?_ ?_ ?_
        ·repeat (first | exact Ext.refl _ | refine Ext.alloc ?_ _ | refine Ext.drew ?_)
        ·simp [Act.eval]
        ·simp [Act.eval]
        ·intro j u hj;exact (cellB (heap_new_drew rfl)).trans (by simpa using hj)
        ·intro u hu;simp only [List.mem_cons,List.not_mem_nil,or_false] at hu;rcases hu with rfl | rfl | rfl | rfl | rfl <;> rfl
        ·omega
        ·simp;omega
        intro v' w3 hown3 hgr3 hrow3 _;obtain ⟨g4,g4c,rfl,_⟩:=hrow3;have hp3:=OutAt.push (x:=(xp,⟨xk,xd,xt,xm⟩)) HO2.out (W1:=_) (by repeat (first | exact Ext.refl _ | refine Ext.alloc ?_ _ | refine Ext.drew ?_)) hown3 hgr3;have x3:=hp3.2.1;have k1:w3.cell? ⟨wa.heap.size,0,none⟩=some ((.slice oa q.length ocap)):=cellB hp3.1;have f1:w3.frozen? ⟨wa.heap.size,0,none⟩=false:=frozenB hp3.1;have HP:=lh hp3.2.2
        clear hown3 hgr3 hp3 x3)
      all_goals
       go_wp2_with fail;go_roundw
       case rel=>exact ⟨k+1,_,by omega,by go_num,by rw [HN3.out],by rw [HN3.out];exact HP.out⟩
       case measure=>simp [intOf] <;> omega
  ·obtain rfl:k=n:=by omega
   have nlt:decide ((k:Int)<(k:Int))=false:=by simp
   have HTK:=lh (show l.take k=l from by rw [HL.out,List.take_length]);have HWE2:=lh (show (if s.1 then s.2 else s.2++[(p,⟨nk,nd,nt,nm⟩)])=insS l p ⟨nk,nd,nt,nm⟩ from by have:=HWE.out;rw [<-HTK.out,<-HS.out] at this;rw [HTK.out] at this;exact this);obtain ⟨s1,q⟩:=s;simp only at co hqn HO HWE2 ⊢;clear hs HS HC HLen HCmp HLP HWE
   cases s1 with
   | true =>
    have HW3:=lh (HWE2.out.symm.trans (if_pos rfl));go_wp2_with fail;go_ret;have hq:=HO.out;exact ⟨wa.heap.size,_,rfl,HW3.out▸hq.tree,HXW.out.size,fun b hb=>Nat.le_trans HXW.out.size (hq.fresh b hb),HXW.out.trans hq.ext⟩
   | false =>
    have HW3:=lh (HWE2.out.symm.trans (if_neg (by decide)));go_wp2_with fail
    go_region_law
     (refine step_append_k elAt (wa.heap.size+1) (.slice oa q.length ocap) q.length (rows5 q) (owns_ext HO.out.row ?_) wr.heap.size [.string p,.int .i64 nk,.string nd,.string nt,.int .i64 nm] rfl (.tmp 84) (.tmp 88) rfl rfl ?_ ?_ ?_ ?_ ?_ ?_ ?_
      ·repeat (first | exact Ext.refl _ | refine Ext.alloc ?_ _ | refine Ext.drew ?_)
      ·simp [Act.eval]
      ·simp [Act.eval]
      ·intro j u hj;exact (cellB (heap_new_drew rfl)).trans (by simpa using hj)
      ·intro u hu;simp only [List.mem_cons,List.not_mem_nil,or_false] at hu;rcases hu with rfl | rfl | rfl | rfl | rfl <;> rfl
      ·omega
      ·simp;omega
      intro v' w3 hown3 hgr3 hrow3 _;obtain ⟨g3,g3c,rfl,_⟩:=hrow3;have hp3:=OutAt.push (x:=(p,⟨nk,nd,nt,nm⟩)) HO.out (W1:=_) (by repeat (first | exact Ext.refl _ | refine Ext.alloc ?_ _ | refine Ext.drew ?_)) hown3 hgr3;have x3:=hp3.2.1;have k1:w3.cell? ⟨wa.heap.size,0,none⟩=some ((.slice oa q.length ocap)):=cellB hp3.1;have f1:w3.frozen? ⟨wa.heap.size,0,none⟩=false:=frozenB hp3.1;have HP:=lh hp3.2.2
      clear hown3 hgr3 hp3 x3)
    all_goals
     go_wp2_with fail;go_ret;have hq:=HP.out;exact ⟨wa.heap.size,_,rfl,HW3.out▸hq.tree,HXW.out.size,fun b hb=>Nat.le_trans HXW.out.size (hq.fresh b hb),HXW.out.trans hq.ext⟩
end
section
def NextPost (w:World) (room:Nat) (R:Int×Nodes) (e:Ending) (w':World):Prop :=
 Ext w w'/\((R.1=0/\∃ t v,e=.returned (.tuple #[.pointer (some ⟨t,0,none⟩),.int .i64 0])/\RTreeAt w' t v R.2 room/\w.heap.size<=t/\∀ b,v.ownBlock=some b->w.heap.size<=b) \/
  (R.1≠0/\e=.returned (.tuple #[.pointer none,.int .i64 R.1])))
theorem NextPost.err {w w':World} {room:Nat} {R:Int×Nodes} {n:Int} (h:R.1=n) (hn:n≠0) (x:Ext w w'):NextPost w room R (.returned (.tuple #[.pointer none,.int .i64 n])) w':=⟨x,.inr ⟨by rw [h];exact hn,by rw [h]⟩⟩
structure Made (w wr:World) (t:Nat) (l:Nodes) (room:Nat):Prop where
 tree:∃ v,RTreeAt wr t v l room/\∀ b,v.ownBlock=some b->w.heap.size<=b
 at':w.heap.size<=t
 ext:Ext w wr
theorem Made.of {w w1 w':World} {l:Nodes} {room:Nat} {e:Ending} (x:Ext w w1) (h:Fresh w1 l room e w'):∃ t,e=.returned (.pointer (some ⟨t,0,none⟩))/\Made w w' t l room:=by
 obtain ⟨t,v,he,h1,h2,h3,h4⟩:=h;exact ⟨t,he,⟨v,h1,fun b hb=>Nat.le_trans x.size (h3 b hb)⟩,Nat.le_trans x.size h2,x.trans h4⟩
theorem Made.to {w wr w':World} {t:Nat} {l:Nodes} {room:Nat} (h:Made w wr t l room) (x:Ext wr w'):Made w w' t l room:=by
 obtain ⟨⟨v,h1,h2⟩,h3,h4⟩:=h;exact ⟨⟨v,h1.ext x,h2⟩,h3,h4.trans x⟩
theorem Made.next {w wr:World} {t:Nat} {R:Int×Nodes} {room:Nat} (h:Made w wr t R.2 room) (hR:R.1=0):NextPost w room R (.returned (.tuple #[.pointer (some ⟨t,0,none⟩),.int .i64 0])) wr:=by
 obtain ⟨⟨v,h1,h2⟩,h3,h4⟩:=h;exact ⟨h4,.inl ⟨hR,t,v,rfl,h1,h3,h2⟩⟩
theorem moved_size {a k:ByteArray} (ha:mayB a=true) (h:movedB a k=true):a.size<=k.size:=by
 unfold movedB at h;rw [Bool.or_eq_true,decide_eq_true_eq] at h;rcases h with rfl | h
 ·exact Nat.le_refl _
 ·exact (within_size ha h).1
theorem foldl_ins_mem:∀ (N B:Nodes) (y:ByteArray×Nd),y∈N.foldl (fun o x=>insS o x.1 x.2) B->y∈N\/y∈B
 | [],_,_,h=>.inr h
 | x::N,B,y,h=>by
  rw [List.foldl_cons] at h;rcases foldl_ins_mem N _ y h with h | h
  ·exact .inl (List.mem_cons_of_mem _ h)
  ·rcases ins_mem h with rfl | h
   ·exact .inl List.mem_cons_self
   ·exact .inr h
theorem outN_small {l:Nodes} {a b:ByteArray} {k:Nat} (hl:∀ x∈l,x.1.size<=160) (hb:b.size<=160):∀ y∈outN l a b k,y.1.size<=1048576:=by
 intro y hy;rcases foldl_ins_mem _ _ y hy with h | h
 ·obtain ⟨x,hx,rfl⟩:=List.mem_map.1 h;have h1:=hl x (List.mem_of_mem_take (mem_mov.1 hx).1)
  show (newP a b x.1).size<=_
  unfold newP;simp;omega
 ·have:=hl y (mem_rest.1 h).1;omega
theorem range_tail {w:World} {g o:Nat} {c:Value} {cs:List Value} (h:w.rangeAt g o (c::cs)):w.rangeAt g (o+1) cs:=fun j u hj=>by
 have:=h (j+1) u (by simpa using hj)
 rwa [show o+(j+1)=o+1+j from by omega] at this
theorem range_after {W:World} {g o:Nat} {cs:List Value} (h:W.rangeAt g o cs) (hg:g<W.heap.size):∀ w',(∃ y:After W,w'=y.v)->w'.rangeAt g o cs:=by
 rintro _ ⟨y,rfl⟩;exact range_ext h y.x hg
set_option maxRecDepth 100000 in
set_option maxHeartbeats 8000000 in
theorem rmoved_any (t:Nat) (v:Value) (l:Nodes) (room:Nat) (a b:ByteArray) (w:World) (T:RTreeAt w t v l room) (O:TreeOk l room) (hr:room<=1048576) (ha:mayB a=true) (hb:mayB b=true) :
  Calls prog 162 #[.pointer (some ⟨t,0,none⟩),.string a,.string b] w (NextPost w room (renameE l a b)):=by
 have hlen:l.length<=16384:=by have:=len_used l;have:=O.used;omega
 have hlen1:l.length<=1048576:=by omega
 have za:=mayB_size ha;have zb:=mayB_size hb;have HT:=lh T;have HOk:=lh O
 have HRE:=lh (show renameE l a b=if (findA l a).isSome then
  (if homeE l b=0 then (if dirsB l a b then (12,l) else if l.all fun x=>!withinB x.1 a||mayB (newP a b x.1) then (0,moveL l a b) else (10,l)) else (homeE l b,l)) else (5,l) from rfl)
 have HF:=fun i hi=>lh (rfind_any t v l room a w T hlen1 i hi);have HHo:=lh (rhome_any t v l room b w T hlen1 (by omega));have HKb:=fun w' (x:Ext w w')=>lh (rkind_any t v l room b w' (T.ext x) hlen1);have HKa:=fun w' (x:Ext w w')=>lh (rkind_any t v l room a w' (T.ext x) hlen1);have HW0:=fun w' (x:Ext w w')=>lh (rwithout_any t v l room b w' (T.ext x) hlen1);have HA:=lh ha;have HB:=lh hb;generalize renameE l a b=R at *
 cases hf:findA l a with
 | none =>
  rw [hf] at HF HRE;have HR:=lh (show R=(5,l) from HRE.out.trans (if_neg (by decide)));have HF1:=HF (-1) rfl;clear HF HRE T O HHo HKb HKa HW0 hf ha hb;go_enter func162,ntmps162;go_wp2_with fail;refine HF1.out.mono ?_;rintro e w1 ⟨rfl,hw⟩;obtain rfl:=hw.symm;clear hw;go_wp2_with fail;go_ret2;exact NextPost.err (by rw [HR.out]) (by decide) (Ext.refl _)
 | some na =>
 rw [hf] at HF HRE;have HRE1:=lh (HRE.out.trans (if_pos rfl));have HF1:=HF (idxA l a:Nat) rfl;generalize idxA l a=ia at *;have HKA:=lh (show kindAt l a=na.kind from by unfold kindAt;rw [hf,mayB_nonempty ha];rfl);have HDi:=lh (show dirsB l a b=match findA l b with | some o=>decide (o.kind=2)||decide (na.kind=2) | none=>false from by unfold dirsB;rw [hf];rfl);have HKB:=lh (show kindAt l b=match findA l b with | some o=>o.kind | none=>0 from by unfold kindAt;rw [mayB_nonempty hb];rfl);have HKz:=lh (fun o (h:findA l b=some o)=>O.kind _ (findA_mem h));clear HF HRE;by_cases hh:homeE l b=0
 case neg =>
  have HR:=lh (HRE1.out.trans (if_neg hh));have hh1:(homeE l b==0)=false:=by rw [beq_eq_false_iff_ne];exact hh
  have hh2:(!(homeE l b==0))=true:=by rw [hh1];rfl
  generalize homeE l b=H at *;clear HRE1 T O HKb HKa HW0 hf ha hb HKA HDi HKB HKz;go_enter func162,ntmps162;go_wp2_with fail;refine HF1.out.mono ?_;rintro e w1 ⟨rfl,hw⟩;obtain rfl:=hw.symm;clear hw;go_wp2_with fail;refine HHo.out.mono ?_;rintro e w2 ⟨rfl,x2⟩;have HX2:=lh x2;clear x2;go_wp2_with fail;go_ret2;exact NextPost.err (by rw [HR.out]) hh HX2.out
 case pos =>
 have HRE2:=lh (HRE1.out.trans (if_pos hh));rw [hh] at HHo;clear HRE1 hh
 cases hd:dirsB l a b with
 | true =>
  rw [hd] at HRE2;have HR:=lh (HRE2.out.trans (if_pos rfl))
  obtain ⟨o,ho⟩:∃ o,findA l b=some o:=by
   cases h:findA l b with
   | some o=>exact ⟨o,rfl⟩
   | none=>have:=HDi.out;rw [h,hd] at this;cases this
  have HO3:=lh (show kindAt l b=o.kind from by rw [HKB.out,ho]);have hon:o.kind≠0:=by have:=HKz.out o ho;simp only at this;omega
  have hor:(decide (o.kind=2)||decide (na.kind=2))=true:=by have:=HDi.out;rw [ho,hd] at this;exact this.symm
  rw [HO3.out] at HKb;rw [HKA.out] at HKa;clear HRE2 T O HW0 hf ha hb HKA HDi HKB HKz hd ho HO3;generalize o.kind=ko at *;generalize na.kind=ka at *;by_cases k2:ko=2
  ·subst k2;go_enter func162,ntmps162;go_wp2_with fail;refine HF1.out.mono ?_;rintro e w1 ⟨rfl,hw⟩;obtain rfl:=hw.symm;clear hw;go_wp2_with fail;refine HHo.out.mono ?_;rintro e w2 ⟨rfl,x2⟩;have HX2:=lh x2;clear x2;go_wp2_with fail;refine (HKb _ HX2.out).out.mono ?_;rintro e w3 ⟨rfl,hw⟩;obtain rfl:=hw.symm;clear hw;go_wp2_with fail;go_ret2;exact NextPost.err (by rw [HR.out]) (by decide) HX2.out
  ·have ka2:ka=2:=by
    rw [Bool.or_eq_true,decide_eq_true_eq,decide_eq_true_eq] at hor;exact hor.resolve_left k2
   subst ka2;have q1:(ko==2)=false:=by rw [beq_eq_false_iff_ne];exact k2
   have q2:(ko==0)=false:=by rw [beq_eq_false_iff_ne];exact hon
   have q3:(!(ko==0))=true:=by rw [q2];rfl
   clear hor;go_enter func162,ntmps162;go_wp2_with fail;refine HF1.out.mono ?_;rintro e w1 ⟨rfl,hw⟩;obtain rfl:=hw.symm;clear hw;go_wp2_with fail;refine HHo.out.mono ?_;rintro e w2 ⟨rfl,x2⟩;have HX2:=lh x2;clear x2;go_wp2_with fail;refine (HKb _ HX2.out).out.mono ?_;rintro e w3 ⟨rfl,hw⟩;obtain rfl:=hw.symm;clear hw;go_wp2_with fail;refine (HKb _ HX2.out).out.mono ?_;rintro e w3 ⟨rfl,hw⟩;obtain rfl:=hw.symm;clear hw;go_wp2_with fail;refine (HKa _ HX2.out).out.mono ?_;rintro e w3 ⟨rfl,hw⟩;obtain rfl:=hw.symm;clear hw;go_wp2_with fail;go_ret2;exact NextPost.err (by rw [HR.out]) (by decide) HX2.out
 | false =>
  rw [hd] at HRE2;have HRE3:=lh (HRE2.out.trans (if_neg (by decide)));obtain ⟨kb,hkb⟩:∃ kb,kb=kindAt l b:=⟨_,rfl⟩
  have hk2:kb≠2:=fun h=>by
   have h1:=HKB.out;have h2:=HDi.out;rw [hd] at h2;rw [<-hkb,h] at h1
   cases hfb:findA l b with
   | none=>rw [hfb] at h1;simp at h1
   | some o =>
    rw [hfb] at h1 h2;simp only at h1 h2;rw [<-h1] at h2;simp at h2
  have hka:kb≠0->na.kind≠2:=fun h0 h=>by
   have h1:=HKB.out;have h2:=HDi.out;rw [hd] at h2;rw [<-hkb] at h1
   cases hfb:findA l b with
   | none=>rw [hfb] at h1;exact h0 h1
   | some o =>
    rw [hfb] at h2;simp only [h] at h2;simp at h2
  rw [<-hkb] at HKb;rw [HKA.out] at HKa;have q1:(kb==2)=false:=by rw [beq_eq_false_iff_ne];exact hk2
  obtain ⟨n,hn⟩:∃ n,n=l.length:=⟨_,rfl⟩;have HL:=lh hn;have HMay:=lh O.may;clear HRE2 T O hf ha hb HKA HDi HKB HKz hd hkb hn;generalize na.kind=ka at *;go_enter func162,ntmps162;go_wp2_with fail;refine HF1.out.mono ?_;rintro e w1 ⟨rfl,hw⟩;obtain rfl:=hw.symm;clear hw;go_wp2_with fail;refine HHo.out.mono ?_;rintro e w2 ⟨rfl,x2⟩;have HX2:=lh x2;clear x2;go_wp2_with fail;refine (HKb _ HX2.out).out.mono ?_;rintro e w3 ⟨rfl,hw⟩;obtain rfl:=hw.symm;clear hw;by_cases hk0:kb=0
  case' pos =>
   have q2:(kb==0)=true:=by rw [hk0];rfl
   have q3:(!(kb==0))=false:=by rw [q2];rfl
   go_wp2_with fail;refine (HKb _ HX2.out).out.mono ?_;rintro e w3 ⟨rfl,hw⟩;obtain rfl:=hw.symm;clear hw
  case' neg =>
   have q2:(kb==0)=false:=by rw [beq_eq_false_iff_ne];exact hk0
   have q3:(!(kb==0))=true:=by rw [q2];rfl
   have q4:(ka==2)=false:=by rw [beq_eq_false_iff_ne];exact hka hk0
   go_wp2_with fail;refine (HKb _ HX2.out).out.mono ?_;rintro e w3 ⟨rfl,hw⟩;obtain rfl:=hw.symm;clear hw;go_wp2_with fail;refine (HKa _ HX2.out).out.mono ?_;rintro e w3 ⟨rfl,hw⟩;obtain rfl:=hw.symm;clear hw
  all_goals
   have HW1:=HW0 _ HX2.out;go_wp2_with fail;refine HW1.out.mono ?_;clear hk2 hka q1 q2 q3 hk0 HKb HKa HF1 HHo HW0;rintro e w4 hfr;obtain ⟨t0,rfl,hm⟩:=Made.of HX2.out hfr;have HM0:=lh (show Made w w4 t0 (outM l a b 0) room from by rw [outM_start];exact hm);clear hfr hm HW1 HX2;go_wp2_with fail;go_loopw [9,10] (fun ov iv wr=>Hid (∃ (k ot:Nat),k<=n/\iv=.int .i64 k/\ov=.pointer (some ⟨ot,0,none⟩)/\Made w wr ot (outM l a b k) room/\mayK l a b k)) (fun _ iv _=>n - (intOf iv).toNat)
   case atStart=>exact ⟨0,t0,Nat.zero_le _,rfl,rfl,HM0.out,by intro y hy;simp at hy⟩
   case round =>
    obtain ⟨k,ot,hk,rfl,rfl,hm,hmk⟩:=hrel.out;clear hrel HM0;have HM:=lh hm;have HMK:=lh hmk;have HTr:=lh (HT.out.ext hm.ext);have ct:wr.cell? ⟨t,0,none⟩=some v:=cellB HTr.out.blk;obtain ⟨av,cap,rfl,hv1,hv2,hv3⟩:=HTr.out.shape;have HV:=lh hv3;rw [<-HL.out] at ct hv1;clear hm hmk hv3;by_cases hlt:k<n
    ·obtain ⟨x,hx⟩:∃ x,l[k]?=some x:=⟨_,List.getElem?_eq_getElem (by have:=HL.out;omega)⟩;obtain ⟨g,rfl,hgl,hc⟩:=HV.out k x hx;have c0:wr.cell? ⟨g,k*5,none⟩=some (.string x.1):=hc 0 _ rfl;have hxm:=HMay.out x (List.mem_of_getElem? hx);have hxz:=mayB_size hxm;have HX:=lh hx;have HTK:=lh (take_next hx);have HWi:=fun w'=>lh (refWithin_any x.1 a w' (by omega) (by omega));have HMv:=lh (show movedB a x.1=(decide (x.1=a)||withinB x.1 a) from rfl);obtain ⟨xp,xn⟩:=x;simp only at c0 hxz HWi HMv;clear hc hx hxm HV
     cases hmv:movedB a xp with
     | false =>
      have hmv':=HMv.out;rw [hmv] at hmv';obtain ⟨h1,h2⟩:=Bool.or_eq_false_iff.1 hmv'.symm;have hne:xp≠a:=of_decide_eq_false h1;rw [h2] at HWi;have e1:(xp.toList==a.toList)=false:=by simpa using fun e=>hne (ba_ext e)
      have e2:(!(xp.toList==a.toList))=true:=by rw [e1];rfl
      have HN:=lh (outM_skip (b:=b) HX.out hmv)
      have HMK2:=lh (show mayK l a b (k+1) from fun y hy hmy=>by
       rw [HTK.out] at hy;rcases List.mem_append.1 hy with hy | hy
       ·exact HMK.out y hy hmy
       ·rw [List.mem_singleton.1 hy] at hmy;rw [hmv] at hmy;cases hmy)
      clear hmv hmv' h1 h2 hne;go_wp2_with fail;refine (HWi _).out.mono ?_;rintro e w5 ⟨rfl,x5⟩;have HM5:=lh (HM.out.to x5);clear x5;go_wp2_with fail;go_roundw
      case rel=>exact ⟨k+1,ot,by omega,by go_num,rfl,by rw [HN.out];exact HM5.out,HMK2.out⟩
      case measure=>simp [intOf] <;> omega
     | true =>
      have has:=moved_size HA.out hmv;have HN:=lh (outM_take (b:=b) HX.out hmv);obtain ⟨N,hN⟩:∃ N,N=newP a b xp:=⟨_,rfl⟩;have hNz:N.size<=4294967200:=by rw [hN];unfold newP;simp;omega
      have HNe:=lh hN;have hNs:b++xp.extract a.size xp.size=N:=hN.symm;have HMy:=fun w'=>lh (refMay_any N w' (by omega))
      have HMK2:=lh (show mayB N=true->mayK l a b (k+1) from fun hmn y hy hmy=>by
       rw [HTK.out] at hy;rcases List.mem_append.1 hy with hy | hy
       ·exact HMK.out y hy hmy
       ·rw [List.mem_singleton.1 hy,<-HNe.out];exact hmn)
      have HR10:=lh (show mayB N=false->R=(10,l) from fun hmn=>by
       rw [HRE3.out,may_not HB.out (List.mem_of_getElem? HX.out) hmv (by rw [<-HNe.out];exact hmn)];rfl)
      have HMvT:=lh (show xp=a\/withinB xp a=true from by
       have:=HMv.out;rw [hmv] at this;rcases Bool.or_eq_true_iff.1 this.symm with h | h
       ·exact .inl (of_decide_eq_true h)
       ·exact .inr h)
      clear hmv hN HMv HMay HX HTK;by_cases he:xp=a
      case' pos =>
       have e1:(xp.toList==a.toList)=true:=by rw [he];simp
       have e2:(!(xp.toList==a.toList))=false:=by rw [e1];rfl
       have HM5:=HM;clear he HWi;go_wp2_with fail
      case' neg =>
       have e1:(xp.toList==a.toList)=false:=by simpa using fun e=>he (ba_ext e)
       have e2:(!(xp.toList==a.toList))=true:=by rw [e1];rfl
       rw [HMvT.out.resolve_left he] at HWi;clear he;go_wp2_with fail;refine (HWi _).out.mono ?_;rintro e w5 ⟨rfl,x5⟩;have HM5:=lh (HM.out.to x5);clear x5;go_wp2_with fail
      all_goals
       have HMy2:=fun w'=>(HMy w').out
       cases hmn:mayB N with
       | false =>
        rw [hmn] at HMy2;have HR:=lh (HR10.out hmn);have HMyf:=lh HMy2;clear HMy2 hmn HN hNs;refine (HMyf.out _).mono ?_;rintro e w6 ⟨rfl,x6⟩;have HX6:=lh (HM5.out.ext.trans x6);clear x6;go_wp2_with fail;go_ret2;exact NextPost.err (by rw [HR.out]) (by decide) HX6.out
       | true =>
        rw [hmn] at HMy2;have HMK3:=lh (HMK2.out hmn);have HMyf:=lh HMy2;clear HMy2 hmn hNs;refine (HMyf.out _).mono ?_;rintro e w6 ⟨rfl,x6⟩;have HM6:=lh (HM5.out.to x6);obtain ⟨v6,hv6,_⟩:=HM6.out.tree;have HWt:=lh (rwithout_any ot v6 (outM l a b k) room xp w6 hv6 (by have:=outM_len l a b k;omega));clear x6 hv6;go_wp2_with fail;refine HWt.out.mono ?_;rintro e w7 hfr;obtain ⟨t7,rfl,hm7⟩:=Made.of HM6.out.ext hfr;have HM7:=lh hm7;clear hfr hm7 HWt;go_wp2_with fail;go_roundw
        case rel=>exact ⟨k+1,t7,by omega,by go_num,rfl,by rw [HN.out];exact HM7.out,HMK3.out⟩
        case measure=>simp [intOf] <;> omega
    ·obtain rfl:k=n:=by omega
     have nlt:decide ((k:Int)<(k:Int))=false:=by simp
     have HMN:=lh (show Made w wr ot (outN l a b 0) room from by rw [outN_start,<-outM_end,<-HL.out];exact HM.out)
     have HR:=lh (show R=(0,moveL l a b) from by
      have:=HMK.out;rw [HL.out] at this
      rw [HRE3.out,if_pos (may_all this)])
     clear HM HMK HRE3;go_wp2_with fail;go_loopw [9,13] (fun ov iv wr=>Hid (∃ (j ot:Nat),j<=k/\iv=.int .i64 j/\ov=.pointer (some ⟨ot,0,none⟩)/\Made w wr ot (outN l a b j) room)) (fun _ iv _=>k - (intOf iv).toNat)
     case atStart=>exact ⟨0,ot,Nat.zero_le _,rfl,rfl,HMN.out⟩
     case round =>
      obtain ⟨j,ot2,hj,rfl,rfl,hm⟩:=hrel.out;clear hrel HMN;have HM:=lh hm;have HTr:=lh (HT.out.ext hm.ext);have ct:wr.cell? ⟨t,0,none⟩=some _:=cellB HTr.out.blk;obtain ⟨av2,cap2,ev,hv1',hv2',hv3'⟩:=HTr.out.shape
      cases ev
      have HV2:=lh hv3';rw [<-HL.out] at ct;clear hm hv3';by_cases hlt2:j<k
      ·obtain ⟨x,hx⟩:∃ x,l[j]?=some x:=⟨_,List.getElem?_eq_getElem (by have:=HL.out;omega)⟩;obtain ⟨g,rfl,hgl,hc⟩:=HV2.out j x hx;have HRg:=lh hc;have c0:wr.cell? ⟨g,j*5,none⟩=some (.string x.1):=hc 0 _ rfl;have hxm:=HMay.out x (List.mem_of_getElem? hx);have hxz:=mayB_size hxm;have HX:=lh hx;have HWi:=fun w'=>lh (refWithin_any x.1 a w' (by omega) (by omega));have HMv:=lh (show movedB a x.1=(decide (x.1=a)||withinB x.1 a) from rfl);obtain ⟨xp,xk,xd,xt,xm⟩:=x;simp only at c0 hxz HWi HMv;clear hc hx hxm HV2
       cases hmv:movedB a xp with
       | false =>
        have hmv':=HMv.out;rw [hmv] at hmv';obtain ⟨h1,h2⟩:=Bool.or_eq_false_iff.1 hmv'.symm;have hne:xp≠a:=of_decide_eq_false h1;rw [h2] at HWi;have e1:(xp.toList==a.toList)=false:=by simpa using fun e=>hne (ba_ext e)
        have HN:=lh (outN_skip (b:=b) HX.out hmv);clear hmv hmv' h1 h2 hne;go_wp2_with fail;refine (HWi _).out.mono ?_;rintro e w5 ⟨rfl,x5⟩;have HM5:=lh (HM.out.to x5);clear x5;go_wp2_with fail;go_roundw
        case rel=>exact ⟨j+1,ot2,by omega,by go_num,rfl,by rw [HN.out];exact HM5.out⟩
        case measure=>simp [intOf] <;> omega
       | true =>
        have has:=moved_size HA.out hmv;have HN:=lh (outN_take (b:=b) HX.out hmv);obtain ⟨N,hN⟩:∃ N,N=newP a b xp:=⟨_,rfl⟩;have hNz:N.size<=1048576:=by rw [hN];unfold newP;simp;omega
        rw [<-hN] at HN;have hNs:b++xp.extract a.size xp.size=N:=hN.symm
        have HMvT:=lh (show xp=a\/withinB xp a=true from by
         have:=HMv.out;rw [hmv] at this;rcases Bool.or_eq_true_iff.1 this.symm with h | h
         ·exact .inl (of_decide_eq_true h)
         ·exact .inr h)
        have htl:=ltB HTr.out.blk;clear hmv hN HMv HX;by_cases he:xp=a
        case' pos =>
         have e1:(xp.toList==a.toList)=true:=by rw [he];simp
         have HM5:=HM;have hx5:=Ext.refl wr;clear he HWi;go_wp2_with fail
        case' neg =>
         have e1:(xp.toList==a.toList)=false:=by simpa using fun e=>he (ba_ext e)
         rw [HMvT.out.resolve_left he] at HWi;clear he;go_wp2_with fail;refine (HWi _).out.mono ?_;rintro e w5 ⟨rfl,hx5⟩;have HM5:=lh (HM.out.to hx5);go_wp2_with fail
        all_goals
         have ct5:=After.cell ((hx5.cell htl).trans ct);have hrg5:=range_tail (range_ext HRg.out hx5 hgl);have HRq:=lh (range_after hrg5 (Nat.lt_of_lt_of_le hgl hx5.size));clear hrg5 ct;refine wp_region_after_tail 15 (by kernel_rfl) (by kernel_rfl) ?_;simp only [List.take_succ_cons,List.take_zero,List.drop_succ_cons,List.drop_zero]
         repeat (first | (refine wpQuiet_load_at rfl 57 (.tmp 120) rfl g (j*5+1) rfl #[.int .i64 xk,.string xd,.string xt,.int .i64 xm] _ HRq.out underlying57 rfl (by kernel_rfl) ?_;go_frame) | go_big_quiet_step (fail))
         refine wpQuiet_nil ?_;rintro _ ⟨y,rfl⟩;have HM6:=lh (HM5.out.to y.x);obtain ⟨v6,hv6,_⟩:=HM6.out.tree;have HWt:=lh (rwith_any ot2 v6 (outN l a b j) room N xk xm xd xt y.v hv6 (outN_sorted HOk.out.sorted a b j) (by have:=outN_len l a b j;omega) hNz (outN_small (fun z hz=>mayB_size (HMay.out z hz)) zb));clear hv6 ct5 HRq hx5;go_wp2_with fail;refine HWt.out.mono ?_;rintro e w7 hfr;obtain ⟨t7,rfl,hm7⟩:=Made.of HM6.out.ext hfr;have HM7:=lh hm7;clear hfr hm7 HWt;go_wp2_with fail;go_roundw
         case rel=>exact ⟨j+1,t7,by omega,by go_num,rfl,by rw [HN.out];exact HM7.out⟩
         case measure=>simp [intOf] <;> omega
      ·obtain rfl:j=k:=by omega
       have njt:decide ((j:Int)<(j:Int))=false:=by simp
       have HME:=lh (show Made w wr ot2 R.2 room from by
        have h:=HM.out;rw [show outN l a b j=moveL l a b from by rw [HL.out];exact outN_end l a b] at h
        rw [HR.out];exact h)
       clear HM;go_wp2_with fail;go_ret2;exact HME.out.next (by rw [HR.out])
end
end Go.Proofs.YtldppmjjgljinaaGreatDoor
