import Derived.Test.YtldppmjjgljinaaGreatDoorTpB2
import Derived.Test.YtldppmjjgljinaaGreatDoorTpG2
import Derived.Test.YtldppmjjgljinaaGreatDoorTpG1
import Derived.Test.YtldppmjjgljinaaGreatDoorTpB1
import Derived.Test.YtldppmjjgljinaaGreatDoorTpA2
import Derived.Test.YtldppmjjgljinaaGreatDoorTpA1
import Derived.Deep.RegionHeldLaw
open Go.Proofs.Tryz
namespace Go.Proofs.YtldppmjjgljinaaGreatDoor
section
open Go.RowKit
set_option maxRecDepth 100000 in
set_option maxHeartbeats 2000000 in
theorem rsize05_any (n:Int) (w:World) (hlo:-9223372036854775808<=n) (hhi:n<=9223372036854775807) :
  Calls prog 177 #[.int .i64 n] w fun e w'=>e=.returned (.int .i64 (sizeZ n))/\Ext w w':=by
 have HS:=lh (show sizeZ n=if n<0\/4096<n then (0:Int) else ((sizeN n.toNat:Nat):Int) from rfl);generalize sizeZ n=S at *;by_cases h1:n<0
 ·have d1:decide (n<0)=true:=decide_eq_true h1;have HR:=lh (HS.out.trans (if_pos (.inl h1)));go_enter func177,ntmps177;go_wp2_with fail;go_ret;exact ⟨ret_int HR.out.symm,Ext.refl w⟩
 ·have d1:decide (n<0)=false:=decide_eq_false h1;by_cases h2:4096<n
  ·have d2:decide (4096<n)=true:=decide_eq_true h2;have HR:=lh (HS.out.trans (if_pos (.inr h2)));go_enter func177,ntmps177;go_wp2_with fail;go_ret;exact ⟨ret_int HR.out.symm,Ext.refl w⟩
  ·have d2:decide (4096<n)=false:=decide_eq_false h2;have HR:=lh (HS.out.trans (if_neg (by omega)));obtain ⟨m,rfl⟩:∃ m:Nat,n=(m:Int):=⟨n.toNat,by omega⟩;have hm:m<=4096:=by omega
   have hsp:=lh (sizeN_spec m);have HR2:=lh (show S=(sizeN m:Nat) from by rw [HR.out];simp);generalize sizeN m=z at *;clear HR HS h1 h2 hlo hhi;have HB:=lh (block_alloc_new w (.cells #[.int .i64 16,.int .i64 32,.int .i64 64,.int .i64 128,.int .i64 256] 3 (0,0)));have X1:=lh ((Ext.refl w).alloc (.cells #[.int .i64 16,.int .i64 32,.int .i64 64,.int .i64 128,.int .i64 256] 3 (0,0)));go_enter func177,ntmps177;go_wp2_with fail;generalize w.alloc (.cells #[.int .i64 16,.int .i64 32,.int .i64 64,.int .i64 128,.int .i64 256] 3 (0,0))=w1 at *;go_loopw [4] (fun iv wr=>Hid (∃ i:Nat,i<=3/\iv=.int .i64 i/\wr=w1/\(1<=i->512<m)/\(2<=i->1024<m)/\(3<=i->2048<m))) (fun iv _=>5 - (intOf iv).toNat)
   case atStart=>exact ⟨0,by omega,rfl,rfl,by omega,by omega,by omega⟩
   case round =>
    obtain ⟨i,hi,rfl,rfl,k1,k2,k3⟩:=hrel.out;clear hrel;have b0:wr.cell? ⟨w.heap.size,0,none⟩=some (.int .i64 16):=cellB HB.out;have b1:wr.cell? ⟨w.heap.size,1,none⟩=some (.int .i64 32):=cellB HB.out;have b2:wr.cell? ⟨w.heap.size,2,none⟩=some (.int .i64 64):=cellB HB.out;have b3:wr.cell? ⟨w.heap.size,3,none⟩=some (.int .i64 128):=cellB HB.out;obtain rfl | rfl | rfl | rfl:i=0\/i=1\/i=2\/i=3:=by omega
    ·by_cases hle:m<=512
     ·have g1:decide ((m:Int)<=512)=true:=by rw [decide_eq_true_eq];omega
      have HE:=lh (show S=16 from by have:=hsp.out;rw [HR2.out];omega);go_wp2_with fail;go_ret;exact ⟨ret_int HE.out.symm,X1.out⟩
     ·have g1:decide ((m:Int)<=512)=false:=by rw [decide_eq_false_iff_not];omega
      go_wp2_with fail;go_roundw
      case rel=>exact ⟨1,by omega,by go_num,trivial,by omega,by omega,by omega⟩
      case measure=>simp [intOf]
    ·by_cases hle:m<=1024
     ·have g1:decide ((m:Int)<=1024)=true:=by rw [decide_eq_true_eq];omega
      have HE:=lh (show S=32 from by have:=hsp.out;rw [HR2.out];omega);go_wp2_with fail;go_ret;exact ⟨ret_int HE.out.symm,X1.out⟩
     ·have g1:decide ((m:Int)<=1024)=false:=by rw [decide_eq_false_iff_not];omega
      go_wp2_with fail;go_roundw
      case rel=>exact ⟨2,by omega,by go_num,trivial,by omega,by omega,by omega⟩
      case measure=>simp [intOf]
    ·by_cases hle:m<=2048
     ·have g1:decide ((m:Int)<=2048)=true:=by rw [decide_eq_true_eq];omega
      have HE:=lh (show S=64 from by have:=hsp.out;rw [HR2.out];omega);go_wp2_with fail;go_ret;exact ⟨ret_int HE.out.symm,X1.out⟩
     ·have g1:decide ((m:Int)<=2048)=false:=by rw [decide_eq_false_iff_not];omega
      go_wp2_with fail;go_roundw
      case rel=>exact ⟨3,by omega,by go_num,trivial,by omega,by omega,by omega⟩
      case measure=>simp [intOf]
    ·have g1:decide ((m:Int)<=4096)=true:=by rw [decide_eq_true_eq];omega
     have HE:=lh (show S=128 from by have:=hsp.out;rw [HR2.out];omega);go_wp2_with fail;go_ret;exact ⟨ret_int HE.out.symm,X1.out⟩
theorem elBlk:ElemK prog 116 22 (.slice none 0 0) 1 24:=⟨by kernel_rfl,by kernel_rfl,rfl,by decide,by decide⟩
def BlkB (b0:Nat) (w:World) (o:Option Nat) (x:Value) (l:List UInt8):Prop :=
 ∃ g cap,x=.slice (some ⟨g,0,none⟩) l.length cap/\l.length<=cap/\cap<=maxLen/\g<w.heap.size/\o≠some g/\b0<=g/\∀ (j:Nat) y,l[j]?=some y->w.cell? ⟨g,j,none⟩=some (bv y)
theorem BlkB.ext {b0:Nat} {w w':World} {o:Option Nat} {x:Value} {l:List UInt8} (h:BlkB b0 w o x l) (k:Ext w w'):BlkB b0 w' o x l:=by
 obtain ⟨g,cap,h1,h2,h3,h4,h5,h7,h6⟩:=h;exact ⟨g,cap,h1,h2,h3,Nat.lt_of_lt_of_le h4 k.size,h5,h7,fun j y hy=>(k.cell h4).trans (h6 j y hy)⟩
theorem BlkB.grown {b0:Nat} {w w':World} {o o':Option Nat} {x:Value} {l:List UInt8} (h:BlkB b0 w o x l) (k:w.grownBy w' o) (ho:o'=o\/o'=some w.heap.size):BlkB b0 w' o' x l:=by
 obtain ⟨g,cap,h1,h2,h3,h4,h5,h7,h6⟩:=h;refine ⟨g,cap,h1,h2,h3,Nat.lt_of_lt_of_le h4 k.size,?_,h7,fun j y hy=>?_⟩
 ·rcases ho with rfl | rfl
  ·exact h5
  ·exact fun e=>by have:=Option.some.inj e;omega
 ·exact (World.cell?_of_block (k.block g h4 fun e=>h5 e.symm)).trans (h6 j y hy)
theorem BlkB.off {b0:Nat} {w:World} {o:Option Nat} {x:Value} {l:List UInt8} (h:BlkB b0 w o x l):BytesOff w.heap.size w x l:=by
 obtain ⟨g,cap,h1,h2,h3,h4,h5,h7,h6⟩:=h;exact ⟨_,cap,h1,h2,h3,fun _=>⟨g,0,rfl,by omega,h4,fun j y hy=>by rw [Nat.zero_add];exact h6 j y hy⟩⟩
theorem BlkB.some {b0:Nat} {w:World} {o:Option Nat} {x:Value} {l:List UInt8} (h:BlkB b0 w o x l):∀ cap,x=.slice none 0 cap->cap=0:=by
 obtain ⟨g,cap,h1,_⟩:=h;intro c e;rw [h1] at e
 cases e
def BksAt (w0:World) (l:List UInt8) (k:Nat) (v:Value) (wr:World):Prop :=
 ∃ vs:List Value,vs.length=k/\wr.ownsRow w0.heap.size 22 1 v k vs/\Ext w0 wr/\∀ (i:Nat) x,vs[i]?=some x->BlkB w0.heap.size wr v.ownBlock x (partL l i)
set_option maxRecDepth 100000 in
set_option maxHeartbeats 2000000 in
theorem rblocks05_any (l:List UInt8) (v:Value) (w:World) (hv:BytesOff w.heap.size w v l) (hl:l.length<=4096) :
  Calls prog 211 #[v] w fun e w'=>∃ u,e=.returned u/\Hid (BksAt w l (countN l.length) u w'):=by
 have HC:=lh (rsize05_any (l.length:Int) w (by omega) (by omega));rw [show sizeZ (l.length:Int)=(sizeN l.length:Nat) from by unfold sizeZ;rw [if_neg (by omega)];simp] at HC;have HPL:=lh (fun i=>part_len l i);have HP:=lh (fun i=>show partL l i=(l.drop (i*sizeN l.length)).take (sizeN l.length) from rfl);have HSP:=lh (sizeN_spec l.length);have HCS:=lh (fun i=>count_spec l.length i);have hc32:=count_le hl;obtain ⟨a,cap,rfl,h1,h2,h3⟩:=hv;unfold maxLen at h2;have HV:=lh h3;obtain ⟨n,hn⟩:∃ n,n=l.length:=⟨_,rfl⟩;have HN:=lh hn;rw [<-hn] at HC h1 hl HPL HP HSP HCS HV hc32 ⊢;clear hn h3;generalize countN n=c at *;generalize sizeN n=z at *;have hz:0<z:=by have:=HSP.out;omega
 have hz2:z<=128:=by have:=HSP.out;omega
 have d0:decide (0<(z:Int))=true:=decide_eq_true (by omega);go_enter func211,ntmps211;go_wp2_with fail;refine HC.out.mono ?_;rintro e w1 ⟨rfl,x1⟩;have X1:=lh x1;clear x1 HC;go_wp2_with fail;go_loopw [4,5] (fun lv iv wr=>Hid (∃ k:Nat,k<=c/\iv=.int .i64 (k*z:Nat)/\BksAt w l k lv wr)) (fun _ iv _=>n+z - (intOf iv).toNat)
 case atStart=>exact ⟨0,Nat.zero_le _,by simp,[],rfl,World.ownsRow_nil _ _ _ _,X1.out,fun i x h=>by simp at h⟩
 case round =>
  obtain ⟨k,hk,rfl,vs,hvs,ho,hx,hbs⟩:=hrel.out;clear hrel;have HX:=lh hx;have HO:=lh ho;have HBS:=lh hbs;have HVS:=lh hvs;obtain ⟨oa,ocap,rfl⟩:=rowk_shape ho;have hks:=HCS.out k;have hmul:(k+1)*z=k*z+z:=by rw [Nat.add_mul,Nat.one_mul]
  have HMU:=lh hmul;have HPk:=lh (HPL.out k);have HPd:=lh (HP.out k);clear ho hx hbs hvs hmul;by_cases hlt:k<c
  ·have hlo:=hks.1 hlt;obtain ⟨lo,hlo'⟩:∃ lo,lo=k*z:=⟨_,rfl⟩;rw [<-hlo'] at hlo HMU HPk HPd ⊢;have HLO:=lh hlo';clear hlo' hks;obtain ⟨m,hm⟩:∃ m,m=min z (n - lo):=⟨_,rfl⟩;have hm1:lo+m<=n/\m<=z/\(m=z\/lo+m=n)/\0<m:=by omega
   obtain ⟨g,o,rfl,hg,hgl,hcell⟩:=HV.out (by omega);have HPm:=lh (show (partL l k).length=m from by rw [HPk.out,hm])
   have HCE:=lh (show ∀ (j:Nat) u,((partL l k).map bv)[j]?=some u->wr.cell? ⟨g,o+lo+j,none⟩=some u from fun j u hj=>by
    rw [List.getElem?_map,Option.map_eq_some_iff] at hj;obtain ⟨x,hx,rfl⟩:=hj;have hjm:j<m:=by have:=(List.getElem?_eq_some_iff.1 hx).1;have:=HPm.out;omega
    rw [HPd.out,List.getElem?_take,if_pos (by omega),List.getElem?_drop] at hx;rw [Nat.add_assoc]
    exact (HX.out.cell hgl).trans (hcell _ _ hx))
   have q1:decide ((lo:Int)<(n:Int))=true:=decide_eq_true (by omega);have q2:IntKind.i64.wrap ((lo:Int)+(z:Int))=((lo+z:Nat):Int):=(IntWalk.i64_in _ (by omega)).trans (by omega);have q4:min ((lo+z:Nat):Int) (n:Int)=((lo+m:Nat):Int):=by omega
   have q5:(lo:Int)<=((lo+m:Nat):Int):=by omega
   have q6:((lo+m:Nat):Int)<=(cap:Int):=by omega
   have q7:lo+m - lo=m:=by omega
   have q8:¬ cap=lo:=by omega
   have q9:0<=(lo:Int):=by omega
   have hmz:m<=128:=by omega
   obtain ⟨_,_,hm3,hm0⟩:=hm1;have HM3:=lh hm3;have HLN:=lh hlo;generalize hLM:lo+m=lm at *;generalize hZE:lo+z=ze at *;have HZE:=lh hZE;have hcl:cap - lo<=9223372036854775807:=by omega
   have hmc:m<=cap - lo:=by omega
   clear hm hm3 hcell hlo hg hgl hLM hZE HV;go_wp2_with (at_builtin;refine append_lots elU8 wr.heap.size _ _ _ (World.ownsRow_nil wr wr.heap.size 5 1) (some ⟨g,o+lo,none⟩) m (cap - lo) ((partL l k).map bv) (.tmp 21) (.tmp 30) rfl rfl rfl rfl (by rw [List.length_map];exact HPm.out) (fun e=>by cases e) (fun _=>⟨g,o+lo,rfl,HCE.out⟩) (by intro u hu;obtain ⟨x,_,rfl⟩:=List.mem_map.1 hu;rfl) (by omega) (Nat.le_refl _) ?_);intro v1 w2 hown1 hg1;have X2:=lh (ext_own (Ext.refl wr) (Nat.le_refl _) (World.ownsRow_nil wr wr.heap.size 5 1) hg1);have HO1:=lh (show w2.ownsRow wr.heap.size 5 1 v1 m ((partL l k).map bv) from by simpa using hown1);clear hown1 hg1;obtain ⟨g1,cap1,rfl,e1,e2,e3,e4,e5⟩:=owns_cell HO1.out hm0;have HE1:=lh (And.intro e1 (And.intro e2 (And.intro e3 (And.intro e4 e5))));clear e1 e2 e3 e4 e5;have hs2:=X2.out.size;have hsx:=HX.out.size;have HO2:=lh (owns_ext HO.out (X2.out.alloc (.cells #[.slice (some ⟨g1,0,none⟩) m cap1] 22 (0,0))));go_wp2_with (at_builtin;refine append_kw elBlk w.heap.size _ _ _ HO2.out w2.heap.size [.slice (some ⟨g1,0,none⟩) m cap1] rfl (.tmp 32) (.tmp 34) rfl rfl rfl rfl (fun j u hj=>(cellB (block_alloc_new w2 _)).trans (by simpa using hj)) (by simp [Value.oneCell']) (by omega) (by simp only [size_alloc];omega) ?_);intro v2 w3 ho3 hg3 hir3 hv3;have hv3:v2.ownBlock=(Value.slice oa k ocap).ownBlock\/v2.ownBlock=some (w2.alloc (.cells #[.slice (some ⟨g1,0,none⟩) m cap1] 22 (0,0))).heap.size:=by rw [size_alloc];exact hv3
   have HF:=lh (show BksAt w l (k+1) v2 w3 from by
    refine ⟨vs++[.slice (some ⟨g1,0,none⟩) m cap1],by simp [HVS.out],ho3,grown_extB ((HX.out.trans X2.out).alloc _) (Nat.le_refl _) HO2.out hg3,fun i x hi=>?_⟩;rcases Nat.lt_or_ge i vs.length with hil | hil
    ·rw [List.getElem?_append_left hil] at hi;exact (((HBS.out i x hi).ext X2.out).ext ((Ext.refl w2).alloc _)).grown hg3 hv3
    ·have:i=vs.length:=by have:=(List.getElem?_eq_some_iff.1 hi).1;simp at this;omega
     subst this;rw [List.getElem?_append_right (Nat.le_refl _),Nat.sub_self] at hi;have hi:Value.slice (some ⟨g1,0,none⟩) m cap1=x:=Option.some.inj hi;subst hi;obtain ⟨e1,e2,e3,e4,e5⟩:=HE1.out
     have hb:BlkB w.heap.size w2 (Value.slice oa k ocap).ownBlock (.slice (some ⟨g1,0,none⟩) m cap1) (partL l k):=by
      refine ⟨g1,cap1,by rw [HPm.out],by rw [HPm.out];omega,e2,e3,fun e=>?_,by omega,fun j y hy=>e5 j _ (by rw [List.getElem?_map,hy];rfl)⟩;have:=(HO.out.lt _ e).2;omega
     rw [HVS.out]
     exact (hb.ext ((Ext.refl w2).alloc _)).grown hg3 hv3)
   clear ho3 hg3 hir3 hv3;go_wp2_with fail;go_roundw
   case rel=>exact ⟨k+1,by omega,by rw [HMU.out],HF.out⟩
   case measure =>
    have:=HZE.out;have:=HLN.out;simp [intOf] <;> omega
  ·obtain rfl:k=c:=by omega
   have hge:n<=k*z:=by have:=hks.2;omega
   have q1:decide (((k*z:Nat):Int)<(n:Int))=false:=decide_eq_false (by omega);obtain ⟨lo,hlo'⟩:∃ lo,lo=k*z:=⟨_,rfl⟩;rw [<-hlo'] at q1 hge ⊢;have q1b:decide (lo<n)=false:=decide_eq_false (by omega);clear hlo' hks hge HMU HPk HPd HV HP HPL;go_wp2_with fail;go_ret;exact ⟨_,rfl,vs,HVS.out,HO.out,HX.out,HBS.out⟩
set_option maxRecDepth 100000 in
set_option maxHeartbeats 2000000 in
theorem rlist05_any (l:List UInt8) (v:Value) (w:World) (hv:BytesOff w.heap.size w v l) (hl:l.length<=4096) :
  Calls prog 172 #[v] w fun e w'=>∃ u,e=.returned (.tuple #[u,.int .i64 0])/\Hid (w'.ownsRow w.heap.size 45 32 u (countN l.length) (hrow (hashesL l))/\Ext w w'):=by
 have HBl:=lh (rblocks05_any l v w hv hl);have HPL:=lh (fun i=>part_len l i);have hsz:=sizeN_spec l.length;have hc32:=count_le hl;obtain ⟨a,cap,rfl,h1,h2,h3⟩:=hv;unfold maxLen at h2;have HH:=lh (show hashesL l=(List.range (countN l.length)).map fun i=>shaL (partL l i) from rfl);generalize hashesL l=hs at *;obtain ⟨n,hn⟩:∃ n,n=l.length:=⟨_,rfl⟩;rw [<-hn] at HBl h1 hl hc32 HH HPL hsz ⊢;generalize countN n=c at *;have HSZ:=lh (show ∀ i,(partL l i).length<=4096 from fun i=>by rw [HPL.out i];omega);clear h3 hn hsz HPL;have d0:decide (4096<(n:Int))=false:=decide_eq_false (by omega);have d1:decide (4096<n)=false:=decide_eq_false (by omega);go_enter func172,ntmps172;go_wp2_with fail;refine HBl.out.mono ?_;rintro e w1 ⟨u,rfl,hb⟩;obtain ⟨vs,hvs,hob,hxb,hbk⟩:=hb.out;clear hb HBl;obtain ⟨ba,bcap,rfl,b1,b2,b3,b4⟩:=row_cells hob;have HBK:=lh hbk;have HB4:=lh b4;have HVS:=lh hvs;have HXB:=lh hxb;have hs1:=hxb.size;clear hob hbk b4 b3 hvs hxb;go_wp2_with fail;go_loopw [5,6] (fun lv iv wr=>Hid (∃ k:Nat,k<=c/\iv=.int .i64 k/\wr.ownsRow w1.heap.size 45 32 lv k (hrow ((List.range k).map fun i=>shaL (partL l i)))/\Ext w1 wr)) (fun _ iv _=>c - (intOf iv).toNat)
 case atStart=>exact ⟨0,Nat.zero_le _,rfl,World.ownsRow_nil _ _ _ _,Ext.refl _⟩
 case round =>
  obtain ⟨k,hk,rfl,ho,hx⟩:=hrel.out;clear hrel;have HX:=lh hx;have HO:=lh ho;obtain ⟨oa,ocap,rfl⟩:=rowk_shape ho;by_cases hlt:k<c
  ·obtain ⟨x,hxk⟩:∃ x,vs[k]?=some x:=⟨_,List.getElem?_eq_getElem (by have:=HVS.out;omega)⟩;obtain ⟨bg,hba,_,hbl,hbc⟩:=HB4.out k x hxk;have hbx:=((HBK.out k x hxk).ext hx);have hbx2:=hbx;obtain ⟨xg,xcap,rfl,_⟩:=hbx;have HS:=lh (rsum_any (partL l k) _ wr hbx2.off hbx2.some (by have:=HSZ.out k;omega));subst hba;have bc:wr.cell? ⟨bg,k,none⟩=some (.slice (some ⟨xg,0,none⟩) (partL l k).length xcap):=(hx.cell hbl).trans hbc;clear ho hx hbx2 hxk hbl hbc;have hsl:=shaL_len (partL l k);have HR:=lh (show hrow ((List.range (k+1)).map fun i=>shaL (partL l i))=hrow ((List.range k).map fun i=>shaL (partL l i))++(shaL (partL l k)).map bv from by simp [hrow,List.range_succ]);obtain ⟨H,hH⟩:∃ H,H=shaL (partL l k):=⟨_,rfl⟩;rw [<-hH] at HS hsl HR;unfold hashV at HS;clear hH;generalize (partL l k).length=pn at *;obtain ⟨AH,hAH⟩:∃ A,A=hArr H 32:=⟨_,rfl⟩;have HAH:=lh hAH;rw [<-hAH] at HS;clear hAH;go_wp2_with fail;refine HS.out.mono ?_;rintro e w3 ⟨rfl,x3⟩;have HX3:=lh (HX.out.trans x3);have HO3:=lh (owns_ext HO.out x3);clear x3 HS HO HX bc;have hAz:AH.size=32:=by rw [HAH.out];exact hArr_size _ _ hsl (by omega)
   have HBu:=lh (fold_hash hAz);have HAl:=lh (show AH.toList=H.map bv from by rw [HAH.out,hArr_list hsl]);have HI1:=lh (show (prog.info? 45).map (·.size)=some AH.size from by rw [hAz];kernel_rfl);have HI2:=lh (show 32=AH.size from hAz.symm)
   have HI3:=lh (show AH.all (·.oneCell')=true from by
    rw [HAH.out,hArr_list hsl]
    simp [bv,Value.oneCell'])
   go_wp2_with (first
    | (refine wpList_storeT rfl _ _ _ rfl w3.heap.size AH rfl rfl 45 _ (block_alloc_new w3 _) HI1.out HI2.out HI3.out ?_;intro w4 hb4 ht4;have HB4':=lh hb4;have X4:=lh (ht4.fresh ((Ext.refl w3).alloc _) (Nat.le_refl _));clear hb4 ht4;go_frame)
    | (refine wpList_load_row rfl 45 (.tmp 7) rfl w3.heap.size rfl _ AH (0,0) _ HB4'.out underlying45 rfl HI1.out ?_;go_frame)
    | (at_builtin;refine append_k elHash w1.heap.size _ _ _ ((owns_ext HO3.out X4.out).alloc _) w4.heap.size (H.map bv) (by simp [hsl]) (.tmp 24) (.tmp 26) rfl rfl rfl rfl ?c1 ?c2 (by omega) ?c3 ?_))
   case c1 =>
    intro j y hj;have hf:=HBu.out;rw [show Array.replicate 32 (Value.int .u8 0)=#[Value.int .u8 0,Value.int .u8 0,Value.int .u8 0,Value.int .u8 0,Value.int .u8 0,Value.int .u8 0,Value.int .u8 0,Value.int .u8 0,Value.int .u8 0,Value.int .u8 0,Value.int .u8 0,Value.int .u8 0,Value.int .u8 0,Value.int .u8 0,Value.int .u8 0,Value.int .u8 0,Value.int .u8 0,Value.int .u8 0,Value.int .u8 0,Value.int .u8 0,Value.int .u8 0,Value.int .u8 0,Value.int .u8 0,Value.int .u8 0,Value.int .u8 0,Value.int .u8 0,Value.int .u8 0,Value.int .u8 0,Value.int .u8 0,Value.int .u8 0,Value.int .u8 0,Value.int .u8 0] from rfl] at hf;rw [cell_alloc_new rfl,<-hj,<-HAl.out];rw [hAz] at hf;simp [hf]
   case c2 =>
    intro y hy;obtain ⟨z,_,rfl⟩:=List.mem_map.1 hy;rfl
   case c3 =>
    have:=HX3.out.size;have:=X4.out.size;simp;omega
   intro v' w5 hown5 hg5 hrow5;have HF:=lh (show w5.ownsRow w1.heap.size 45 32 v' (k+1) (hrow ((List.range (k+1)).map fun i=>shaL (partL l i)))/\Ext w1 w5 from ⟨by rw [HR.out];exact hown5,grown_extB ((HX3.out.trans X4.out).alloc _) (Nat.le_refl _) ((owns_ext HO3.out X4.out).alloc _) hg5⟩);clear hown5 hg5 hrow5;go_wp2_with fail;go_roundw
   case rel=>exact ⟨k+1,by omega,by go_num,HF.out⟩
   case measure=>simp [intOf] <;> omega
  ·obtain rfl:k=c:=by omega
   have nlt:decide ((k:Int)<(k:Int))=false:=by simp
   clear ho hx;go_wp2_with fail;go_ret2;refine ⟨_,rfl,?_⟩;rw [HH.out];exact ⟨owns_down HO.out HXB.out.size,HXB.out.trans HX.out⟩
end
section
open Go.RowKit Go.Shelf
attribute [local go_sem] Oper.semAt_some
def lessF (o x:RF):Bool:=Go.Op.bytesLess o.nm.toList x.nm.toList
def insX (o:RF):List RF->List RF
 | []=>[o]
 | x::r=>if lessF o x then o::x::r else x::insX o r
theorem insX_done {o x:RF}:∀ {l:List RF},l.any (lessF o)=true->insX o (l++[x])=insX o l++[x]
 | [],h=>by simp at h
 | y::r,h=>by
  rw [List.cons_append,insX,insX];by_cases hy:lessF o y=true
  ·rw [if_pos hy,if_pos hy];rfl
  ·rw [if_neg hy,if_neg hy,insX_done (by simpa [List.any_cons,hy] using h)];rfl
theorem insX_none {o:RF}:∀ {l:List RF},l.any (lessF o)=false->insX o l=l++[o]
 | [],_=>rfl
 | y::r,h=>by
  rw [List.any_cons,Bool.or_eq_false_iff] at h;rw [insX,if_neg (by rw [h.1];simp),insX_none h.2];rfl
theorem insX_here {o x:RF}:∀ {l:List RF},l.any (lessF o)=false->lessF o x=true->insX o (l++[x])=l++[o]++[x]
 | [],_,hx=>by simp [insX,hx]
 | y::r,h,hx=>by
  rw [List.any_cons,Bool.or_eq_false_iff] at h;rw [List.cons_append,insX,if_neg (by rw [h.1];simp),insX_here h.2 hx];rfl
theorem insX_mem {o y:RF}:∀ {l:List RF},y∈insX o l->y=o\/y∈l
 | [],h=>by simp [insX] at h;exact .inl h
 | x::r,h=>by
  rw [insX] at h;split at h
  ·simpa [or_assoc] using h
  ·rcases List.mem_cons.1 h with h | h
   ·exact .inr (h▸List.mem_cons_self)
   ·exact (insX_mem h).imp id (List.mem_cons_of_mem _)
theorem insX_len (o:RF) {k:Nat}:∀ (l:List RF),l.length<=k->(insX o l).length<=k+1:=fun l h=>by
 induction l generalizing k with
 | nil=>simp [insX]
 | cons x r ih =>
  rw [insX];split
  ·simp at h ⊢;omega
  ·simp only [List.length_cons] at h ⊢;have:=ih (k:=k - 1) (by omega);omega
theorem run_add_bytes0 {w:World} {b:Nat} {v:Value} {l:List UInt8} (hv:BytesOff b w v l) (hl:l.length<=1048576) (ty:TypeId) :
  ∃ v' w',(Builtin.append_ #[22,22] ty #[.slice none 0 0,v]).run prog w=.ok v' w'/\w'.ownsRow w.heap.size 5 1 v' l.length (l.map bv)/\Ext w w':=by
 obtain ⟨i,hi,hz,hsz,hby⟩:=info_parts elU8.info;obtain ⟨a,cap,rfl,h1,h2,h3⟩:=hv
 cases a with
 | none =>
  have h0:l=[]:=by
   cases l with
   | nil=>rfl
   | cons x r=>obtain ⟨g,o,e,_⟩:=h3 (by simp);cases e
  subst h0;refine ⟨.slice none 0 0,w,?_,World.ownsRow_nil _ _ _ _,Ext.refl _⟩;simp [Builtin.append_,run_underlying elU8.ut,sizeOf,typeInfo,hi,Builtin.lenOf,Builtin.firstCells]
 | some ad =>
  have hnews:∀ (j:Nat) u,(l.map bv)[j]?=some u->w.cell? (ad.add j)=some u:=fun j u hj=>by
   have hp:0<l.length:=by have:=(List.getElem?_eq_some_iff.1 hj).1;simp at this;omega
   obtain ⟨g',o,e,_,_,h5⟩:=h3 hp
   cases e
   rw [List.getElem?_map] at hj;obtain ⟨x,hx,rfl⟩:=Option.map_eq_some_iff.1 hj;have:=h5 j x hx;rw [Addr.add_mid];exact this
  obtain ⟨v',w',hr,ho',hg,_⟩:=run_append_own w w.heap.size 22 ty 5 i _ 1 _ elU8.ut hi hz hsz hby elU8.one (by decide) (.slice none 0 0) 0 [] (World.ownsRow_nil _ _ _ _) ad l.length cap (l.map bv) (by simp) hnews (fun u hu=>by
   obtain ⟨x,_,rfl⟩:=List.mem_map.1 hu;rfl) (by unfold maxLen;omega) (by
   have:=elU8.few;have h6:(0+l.length)*_<=(0+l.length)*1024:=Nat.mul_le_mul_left (0+l.length) this
   omega) (Nat.le_refl _)
  refine ⟨v',w',hr,by simpa using ho',⟨hg.os,hg.tape,hg.output,hg.size,fun b hb=>hg.block b hb (by simp [Value.ownBlock])⟩⟩
def RAddTo (w:World) (g:Nat) (X:List RF) (I:List Nat) (nm:ByteArray) (l:List UInt8) (w':World):Prop :=
 ∃ v' o I',o.nm=nm/\o.d=l/\RFinIn w' g v' (insX o (restF nm X)) I'/\DkStep w [g] I w' [g] I'
set_option maxRecDepth 100000 in
set_option maxHeartbeats 4000000 in
theorem radd {w:World} {g:Nat} {v:Value} {X:List RF} {I:List Nat} (h:RFinIn w g v X I) (nm:ByteArray) (hn:X.length<=1000) (l:List UInt8) (dv:Value) (hv:BytesOff w.heap.size w dv l) (hg:∀ a n c,dv=.slice (some a) n c->0<n->a.block≠g) (hl:l.length<=4096) :
  Calls prog 110 #[.pointer (some ⟨g,0,none⟩),.string nm,dv] w fun e w'=>e=.returned (.int .i64 0)/\RAddTo w g X I nm l w':=by
 have HR:=lh h;have HLs:=lh (rlist05_any l dv w hv hl)
 have HV:=lh (show ∀ w',Chg [g] w w'->BytesOff w'.heap.size w' dv l from fun w' X=>by
  obtain ⟨a,cap,rfl,h1,h2,h3⟩:=hv;refine ⟨a,cap,rfl,h1,h2,fun hp=>?_⟩;obtain ⟨g',o,rfl,e2,e3,e4⟩:=h3 hp;have hb:=X.block g' e3 (by simpa using hg _ _ _ rfl hp)
  exact ⟨g',o,rfl,by have:=X.size;omega,Nat.lt_of_lt_of_le e3 X.size,fun j x hj=>by rw [<-e4 j x hj];unfold World.cell?;rw [hb]⟩)
 have HFg:=lh (fun w' (x:Ext w w')=>rforget (h.ext x) nm hn);have hgw:=ltB h.blk;have HLL:=lh hl;have HNn:=lh hn;have HIf:=lh (show (prog.info? 232).map (·.size)=some 3 from by kernel_rfl);clear h hv hg hl hn;unfold RAddTo;go_enter func110,ntmps110;go_wp2_with fail;refine HLs.out.mono ?_;rintro e w1 ⟨u,rfl,hu⟩;have X1:=lh hu.out.2;have HU:=lh hu.out.1;obtain ⟨ua,uc,rfl⟩:=rowk_shape hu.out.1;clear hu;go_wp2_with fail;refine (HFg.out _ X1.out).mono ?_;rintro e w2 ⟨fb,v2,I2,rfl,h2⟩;have H2:=lh h2.out.1;have HS2:=lh h2.out.2;have HC2:=lh ((X1.out.chg [g]).trans HS2.out.chg (fun x hx=>.inl hx))
 have HU2:=lh (owns_blocks HU.out fun b hb=>HS2.out.chg.block b (own_lt HU.out b hb) (fun hm=>by
  have:=own_ge HU.out b hb;simp only [List.mem_singleton] at hm
  omega))
 have HV2:=lh (HV.out _ HC2.out);clear h2 HFg HLs;generalize hc:countN l.length=c at *;have HCc:=lh hc.symm;clear hc;have XA:=lh ((Ext.refl w2).alloc (.cells #[.string nm,.slice none 0 0,.slice ua c uc] 232 (0,0)));have HBA:=lh (block_alloc_new w2 (.cells #[.string nm,.slice none 0 0,.slice ua c uc] 232 (0,0)));go_upto_region 7 with (fail)
 generalize w2.alloc (.cells #[.string nm,.slice none 0 0,.slice ua c uc] 232 (0,0))=wa at *;obtain ⟨v7,w7,hr7,ho7,x7⟩:=run_add_bytes0 (bytesOff_any HV2.out XA.out XA.out.size) (by have:=HLL.out;omega) 22;obtain ⟨a7,c7,rfl⟩:=rowk_shape ho7;obtain ⟨b10,hb10⟩:∃ b,b=w2.heap.size:=⟨_,rfl⟩;have HB10:=lh hb10;rw [<-hb10] at HBA ⊢;have hblk7:=(x7.block (ltB HBA.out)).trans HBA.out;have c1:wa.cell? ⟨b10,1,none⟩=some (.slice none 0 0):=cellB HBA.out;have k1:w7.cell? ⟨b10,1,none⟩=some (.slice none 0 0):=cellB hblk7;have f1:=frozenB (k:=1) hblk7;have HX8:=lh ((XA.out.trans x7).setCell (p:=⟨b10,1,none⟩) (by rw [hb10];exact Nat.le_refl _) (.slice a7 l.length c7));have HB8:=lh (show (w7.setCell ⟨b10,1,none⟩ (.slice a7 l.length c7)).heap[b10]?=some (.cells #[.string nm,.slice a7 l.length c7,.slice ua c uc] 232 (0,0)) from setCellB hblk7);have hw2s:w2.heap.size<=w7.heap.size:=(XA.out.trans x7).size;have HD8:=lh (show (w7.setCell ⟨b10,1,none⟩ (.slice a7 l.length c7)).ownsRow wa.heap.size 5 1 (.slice a7 l.length c7) l.length (l.map bv) from owns_blocks ho7 fun b hb=>setCellO (by have:=own_ge ho7 b hb;have:=ltB HBA.out;omega));have HG7:=lh (show ∀ b,(Value.slice a7 l.length c7).ownBlock=some b->w2.heap.size<=b/\b<(w7.setCell ⟨b10,1,none⟩ (.slice a7 l.length c7)).heap.size from fun b hb=>⟨Nat.le_trans XA.out.size (own_ge ho7 b hb),by have:=own_lt ho7 b hb;unfold World.setCell;simpa using this⟩);clear hblk7 hb10 ho7 HV2;go_upto_region 9 with (refine wpList_run rfl (run_addOp (T:=22) rfl rfl rfl hr7) ?_;go_frame)
 obtain ⟨o,ho⟩:∃ o:RF,o=⟨nm,l,.slice a7 l.length c7,.slice ua c uc⟩:=⟨_,rfl⟩;obtain ⟨R,hR⟩:∃ R,R=restF nm X:=⟨_,rfl⟩;have HRn:=lh (show R.length<=1000 from by rw [hR];exact Nat.le_trans (List.length_filter_le _ _) HNn.out);rw [<-hR] at H2;have HRe:=lh hR;have hcu:c=countN l.length:=HCc.out
 have HFV:=lh (show FileV (w7.setCell ⟨b10,1,none⟩ (.slice a7 l.length c7)) o from by
  rw [ho]
  exact ⟨HLL.out,owns_low HD8.out (Nat.zero_le _),by have:=owns_low (owns_ext HU2.out HX8.out) (Nat.zero_le _);dsimp only;rw [<-hcu];exact this⟩)
 have HB8':=lh (show (w7.setCell ⟨b10,1,none⟩ (.slice a7 l.length c7)).heap[b10]?=some (.cells (rfC o).toArray 232 (0,0)) from by rw [ho];exact HB8.out);have HOC:=lh (show (rfC o)=[.string nm,.slice a7 l.length c7,.slice ua c uc] from by rw [ho];rfl);have HOO:=lh HFV.out.one;have HON:=lh (show o.nm=nm/\o.d=l/\o.vd=.slice a7 l.length c7/\o.vl=.slice ua c uc from by rw [ho];exact ⟨rfl,rfl,rfl,rfl⟩);clear HB8 ho hR hcu c1 k1 f1 hr7;obtain ⟨w8,hw8⟩:∃ w8,w8=w7.setCell ⟨b10,1,none⟩ (.slice a7 l.length c7):=⟨_,rfl⟩;rw [<-hw8] at HX8 HD8 HG7 HFV HB8' ⊢;clear hw8;have H28:=lh (H2.out.ext HX8.out);have k0:w8.cell? ⟨g,0,none⟩=some v2:=cellB H28.out.blk;obtain ⟨va,vc,rfl,_,_,_,hcells⟩:=row_cells H28.out.row
 have HC:=lh (fun w' (x:Ext w8 w')=>show ∀ (k j:Nat) y,j<3->R[k]?=some y->∀ u,(rfC y)[j]?=some u->∃ ga,va=some ⟨ga,0,none⟩/\w'.cell? ⟨ga,k*3+j,none⟩=some u from fun k j y hj hy u hu=>by
  obtain ⟨ga,e,_,_,hc⟩:=hcells (k*3+j) u ((rfV_get R k j y hy hj).trans hu)
  exact ⟨ga,e,(x.cell (lt_of_cell hc)).trans hc⟩)
 have HO:=lh (fun y (hy:y∈R)=>(H28.out.fil y hy).one);obtain ⟨n,hnn⟩:∃ n,n=R.length:=⟨_,rfl⟩;have HN:=lh hnn;rw [<-hnn] at k0;have hn1:n<=1000:=by rw [hnn];exact HRn.out
 clear hnn hcells;go_wp2_with fail;go_loopw [9,11,12] (fun lv dn iv wr=>Hid (∃ k:Nat,k<=n/\dn=.bool ((R.take k).any (lessF o))/\iv=.int .i64 k/\wr.ownsRow w8.heap.size 232 3 lv (if (R.take k).any (lessF o) then insX o (R.take k) else R.take k).length (rfV (if (R.take k).any (lessF o) then insX o (R.take k) else R.take k))/\Ext w8 wr)) (fun _ _ iv _=>n - (intOf iv).toNat)
 case atStart=>exact ⟨0,Nat.zero_le _,rfl,rfl,World.ownsRow_nil _ _ _ _,Ext.refl _⟩
 case round =>
  obtain ⟨k,hk,rfl,rfl,ho,hx⟩:=hrel.out;clear hrel;have HOw:=lh ho;have HX:=lh hx;have kr:wr.cell? ⟨g,0,none⟩=some (.slice va n vc):=(hx.cell (lt_of_cell k0)).trans k0;obtain ⟨la,lc,rfl⟩:=rowk_shape ho;have HBo:=lh ((hx.block (ltB HB8'.out)).trans HB8'.out);clear ho hx;have hlenT:(R.take k).length<=k:=List.length_take_le _ _;by_cases hlt:k<n
  ·obtain ⟨y,hy⟩:∃ y,R[k]?=some y:=⟨_,List.getElem?_eq_getElem (by have:=HN.out;omega)⟩;obtain ⟨ga,rfl,hc0⟩:=HC.out wr HX.out k 0 y (by decide) hy (.string y.nm) rfl;have c0:wr.cell? ⟨ga,k*3,none⟩=some (.string y.nm):=hc0
   have HRg:=lh (show ∀ w',Ext w8 w'->w'.rangeAt ga (k*3) (rfC y).toArray.toList from fun w' x j u hj=>by
    have hj3:j<3:=by have:=(List.getElem?_eq_some_iff.1 hj).1;simpa [rfC] using this
    obtain ⟨ga',e,hc⟩:=HC.out w' x k j y hj3 hy u (by simpa using hj)
    cases e
    exact hc)
   have HOy:=lh (HO.out y (List.mem_of_getElem? hy));have HTs:=lh (show R.take (k+1)=R.take k++[y] from by rw [List.take_add_one,hy];rfl);have HLe:=lh (show lessF o y=Go.Op.bytesLess nm.toList y.nm.toList from by unfold lessF;rw [HON.out.1]);clear hc0 hy;generalize R.take k=T at *;have hlenI:T.any (lessF o)=true->(insX o T).length<=k+1:=fun _=>insX_len o T hlenT
   cases hab:T.any (lessF o) with
   | true =>
    have HAb:=lh hab;have hli:=hlenI hab;simp only [hab,if_true] at HOw ⊢
    have HS:=lh (show (R.take (k+1)).any (lessF o)=true/\(if (R.take (k+1)).any (lessF o) then insX o (R.take (k+1)) else R.take (k+1))=insX o T++[y] from by
     rw [HTs.out,List.any_append,HAb.out,Bool.true_or,if_pos rfl]
     exact ⟨rfl,insX_done HAb.out⟩)
    clear hab hlenI;generalize insX o T=L at *;generalize hL:L.length=m at *;have HLm:=lh hL;clear hL;have HBn:=lh (block_alloc_new wr (.cells (rfC y).toArray 232 (0,0)))
    go_wp2_with (first
     | (refine wpList_load_at rfl 232 _ rfl ga (k*3) rfl (rfC y).toArray _ (HRg.out _ HX.out) underlying232 rfl HIf.out ?_;go_frame)
     | (refine wpList_buildOne elRF (by decide) rfl _ rfl (rfC y).toArray rfl rfl ?_;go_frame)
     | (at_builtin;refine append_k elRF w8.heap.size _ _ _ (owns_ext HOw.out ((Ext.refl wr).alloc (.cells (rfC y).toArray 232 (0,0)))) wr.heap.size (rfC y) rfl (.tmp 59) (.tmp 67) rfl rfl rfl rfl (fun j u hj=>(cellB HBn.out).trans (by simpa using hj)) HOy.out (by omega) ?c2 ?_))
    case c2=>exact Nat.le_trans HX.out.size (by simp)
    intro v5 y5 hown5 hg5 hrow5;have HO5:=lh hown5;have HX5:=lh (grown_extB (HX.out.alloc _) (Nat.le_refl _) (owns_ext HOw.out ((Ext.refl wr).alloc (.cells (rfC y).toArray 232 (0,0)))) hg5);clear hown5 hg5 hrow5;go_wp2_with fail;go_roundw
    case rel=>exact ⟨k+1,by omega,by rw [HS.out.1],by go_num,by rw [HS.out.2,rfV_app,List.length_append,HLm.out];exact HO5.out,HX5.out⟩
    case measure=>simp [intOf] <;> omega
   | false =>
    have HAb:=lh hab;simp only [hab,Bool.false_eq_true,if_false] at HOw ⊢;clear hlenI
    cases hless:Go.Op.bytesLess nm.toList y.nm.toList with
    | true =>
     have HS:=lh (show (R.take (k+1)).any (lessF o)=true/\(if (R.take (k+1)).any (lessF o) then insX o (R.take (k+1)) else R.take (k+1))=T++[o]++[y] from by
      rw [HTs.out,List.any_append,HAb.out,Bool.false_or];have h1:[y].any (lessF o)=true:=by simp [HLe.out,hless]
      rw [h1,if_pos rfl]
      exact ⟨rfl,insX_here HAb.out (HLe.out.trans hless)⟩)
     clear hab;generalize hL:T.length=m at *;have HLm:=lh hL;clear hL;have HBn:=lh (block_alloc_new wr (.cells (rfC o).toArray 232 (0,0)))
     go_wp2_with (first
      | (refine wpList_load_row rfl 232 _ rfl b10 rfl 232 (rfC o).toArray (0,0) _ HBo.out underlying232 rfl HIf.out ?_;go_frame)
      | (refine wpList_buildOne elRF (by decide) rfl _ rfl (rfC o).toArray rfl rfl ?_;go_frame)
      | (at_builtin;refine append_k elRF w8.heap.size _ _ _ (owns_ext HOw.out ((Ext.refl wr).alloc (.cells (rfC o).toArray 232 (0,0)))) wr.heap.size (rfC o) rfl (.tmp 55) (.tmp 57) rfl rfl rfl rfl (fun j u hj=>(cellB HBn.out).trans (by simpa using hj)) HOO.out (by omega) ?c2 ?_))
     case c2=>exact Nat.le_trans HX.out.size (by simp)
     intro v5 y5 hown5 hg5 hrow5;have HO5:=lh hown5;have HX5:=lh (grown_extB (HX.out.alloc _) (Nat.le_refl _) (owns_ext HOw.out ((Ext.refl wr).alloc (.cells (rfC o).toArray 232 (0,0)))) hg5);clear hown5 hg5 hrow5;obtain ⟨va5,vc5,rfl⟩:=rowk_shape HO5.out;have kr5:y5.cell? ⟨g,0,none⟩=some (.slice (some ⟨ga,0,none⟩) n vc):=(HX5.out.cell (lt_of_cell k0)).trans k0;clear HBn;have HBn:=lh (block_alloc_new y5 (.cells (rfC y).toArray 232 (0,0)))
     go_wp2_with (first
      | (refine wpList_load_at rfl 232 _ rfl ga (k*3) rfl (rfC y).toArray _ (HRg.out _ HX5.out) underlying232 rfl HIf.out ?_;go_frame)
      | (refine wpList_buildOne elRF (by decide) rfl _ rfl (rfC y).toArray rfl rfl ?_;go_frame)
      | (at_builtin;refine append_k elRF w8.heap.size _ _ _ (owns_ext HO5.out ((Ext.refl y5).alloc (.cells (rfC y).toArray 232 (0,0)))) y5.heap.size (rfC y) rfl (.tmp 59) (.tmp 67) rfl rfl rfl rfl (fun j u hj=>(cellB HBn.out).trans (by simpa using hj)) HOy.out (by omega) ?c2 ?_))
     case c2=>exact Nat.le_trans HX5.out.size (by simp)
     intro v6 y6 hown6 hg6 hrow6;have HO6:=lh hown6;have HX6:=lh (grown_extB (HX5.out.alloc _) (Nat.le_refl _) (owns_ext HO5.out ((Ext.refl y5).alloc (.cells (rfC y).toArray 232 (0,0)))) hg6);clear hown6 hg6 hrow6;go_wp2_with fail;go_roundw
     case rel=>exact ⟨k+1,by omega,by rw [HS.out.1],by go_num,by rw [HS.out.2,rfV_app,rfV_app,List.length_append,List.length_append,HLm.out,List.append_assoc];exact HO6.out,HX6.out⟩
     case measure=>simp [intOf] <;> omega
    | false =>
     have HS:=lh (show (R.take (k+1)).any (lessF o)=false/\(if (R.take (k+1)).any (lessF o) then insX o (R.take (k+1)) else R.take (k+1))=T++[y] from by
      rw [HTs.out,List.any_append,HAb.out,Bool.false_or];have h1:[y].any (lessF o)=false:=by simp [HLe.out,hless]
      rw [h1,if_neg (by simp)]
      exact ⟨rfl,rfl⟩)
     clear hab;generalize hL:T.length=m at *;have HLm:=lh hL;clear hL;have HBn:=lh (block_alloc_new wr (.cells (rfC y).toArray 232 (0,0)))
     go_wp2_with (first
      | (refine wpList_load_at rfl 232 _ rfl ga (k*3) rfl (rfC y).toArray _ (HRg.out _ HX.out) underlying232 rfl HIf.out ?_;go_frame)
      | (refine wpList_buildOne elRF (by decide) rfl _ rfl (rfC y).toArray rfl rfl ?_;go_frame)
      | (at_builtin;refine append_k elRF w8.heap.size _ _ _ (owns_ext HOw.out ((Ext.refl wr).alloc (.cells (rfC y).toArray 232 (0,0)))) wr.heap.size (rfC y) rfl (.tmp 59) (.tmp 67) rfl rfl rfl rfl (fun j u hj=>(cellB HBn.out).trans (by simpa using hj)) HOy.out (by omega) ?c2 ?_))
     case c2=>exact Nat.le_trans HX.out.size (by simp)
     intro v5 y5 hown5 hg5 hrow5;have HO5:=lh hown5;have HX5:=lh (grown_extB (HX.out.alloc _) (Nat.le_refl _) (owns_ext HOw.out ((Ext.refl wr).alloc (.cells (rfC y).toArray 232 (0,0)))) hg5);clear hown5 hg5 hrow5;go_wp2_with fail;go_roundw
     case rel=>exact ⟨k+1,by omega,by rw [HS.out.1],by go_num,by rw [HS.out.2,rfV_app,List.length_append,HLm.out];exact HO5.out,HX5.out⟩
     case measure=>simp [intOf] <;> omega
  ·obtain rfl:k=n:=by omega
   have HTe:=lh (show R.take k=R from by rw [HN.out,List.take_length])
   have HHz:=lh (show ∀ (vf:Value) (wf wz:World),wf.ownsRow w8.heap.size 232 3 vf (insX o R).length (rfV (insX o R))->Ext w8 wf->wz.heap[g]?=some (.cells #[vf] 179 (0,0))->Touch g wf wz ->
     ∃ v' o I',o.nm=nm/\o.d=l/\RFinIn wz g v' (insX o (restF nm X)) I'/\DkStep w [g] I wz [g] I' from fun vf wf wz hof xf hbz htz=>by
    have hg2:=ltB H2.out.blk
    have h1:=H2.out.turn (J:=rowB (.slice a7 l.length c7)++rowB (.slice ua c uc)) (X':=insX o R) (HX8.out.trans xf) htz hbz (owns_low hof HX8.out.size) (fun b hb=>by
     rcases List.mem_append.1 hb with hb | hb
     ·have:=HG7.out b (mem_rowB.1 hb);exact ⟨by omega,Nat.lt_of_lt_of_le this.2 xf.size⟩
     ·have h3:=own_ge HU.out b (mem_rowB.1 hb);have h4:=own_lt HU2.out b (mem_rowB.1 hb)
      exact ⟨by omega,Nat.lt_of_lt_of_le h4 (HX8.out.trans xf).size⟩) (fun y hy=>by
     rcases insX_mem hy with rfl | hy
     ·refine .inr ⟨HFV.out.ext xf,fun b hb=>?_⟩;rw [HON.out.2.2.1,HON.out.2.2.2] at hb;exact List.mem_append.2 (hb.imp mem_rowB.2 mem_rowB.2)
     ·exact .inl hy)
    refine ⟨vf,o,_,HON.out.1,HON.out.2.1,HRe.out▸h1,((X1.out.chg [g]).trans HS2.out.chg (fun x hx=>.inl hx)).trans (chg_touch (HX8.out.trans xf) htz) (fun x hx=>.inl hx),Sub.refl _ _,fun b hb=>?_⟩;have hw1:=X1.out.size;have hw2:=HS2.out.chg.size;rcases List.mem_append.1 hb with hb | hb
    ·rcases List.mem_append.1 hb with hb | hb
     ·rcases HS2.out.i b hb with h3 | h3
      ·exact .inl h3
      ·exact .inr (Nat.le_trans hw1 h3)
     ·rcases List.mem_append.1 hb with hb | hb
      ·have:=HG7.out b (mem_rowB.1 hb);exact .inr (by omega)
      ·exact .inr (own_ge HU.out b (mem_rowB.1 hb))
    ·have:=own_ge hof b (mem_rowB.1 hb);have:=HX8.out.size
     exact .inr (by omega))
   rw [HTe.out] at HOw ⊢;have HI0:=lh (show (prog.info? 177).map (·.size)=some 1 from by kernel_rfl);have HBg:=lh ((HX.out.block (ltB H28.out.blk)).trans H28.out.blk)
   cases hab:R.any (lessF o) with
   | true =>
    simp only [hab,if_true] at HOw ⊢;clear hab;generalize hm:(insX o R).length=m at *;have HM:=lh hm;clear hm;go_wp2_with (refine wpList_storeB rfl _ _ _ rfl g (.slice la m lc) _ rfl rfl HI0.out rfl _ HBg.out ?_;intro w9 hb9 ht9;have HB9:=lh hb9;have HT9:=lh ht9;clear hb9 ht9;go_frame);go_ret;exact ⟨rfl,HHz.out _ _ _ HOw.out HX.out HB9.out HT9.out⟩
   | false =>
    have HI2:=lh (insX_none hab);simp only [hab,Bool.false_eq_true,if_false] at HOw ⊢;clear hab;rw [HI2.out] at HHz;generalize hm:R.length=m at *;have HM:=lh hm;have hm1:m<=1000:=HRn.out;clear hm;have HBn:=lh (block_alloc_new wr (.cells (rfC o).toArray 232 (0,0)))
    go_wp2_with (first
     | (refine wpList_load_row rfl 232 _ rfl b10 rfl 232 (rfC o).toArray (0,0) _ HBo.out underlying232 rfl HIf.out ?_;go_frame)
     | (refine wpList_buildOne elRF (by decide) rfl _ rfl (rfC o).toArray rfl rfl ?_;go_frame)
     | (at_builtin;refine append_k elRF w8.heap.size _ _ _ (owns_ext HOw.out ((Ext.refl wr).alloc (.cells (rfC o).toArray 232 (0,0)))) wr.heap.size (rfC o) rfl (.tmp 71) (.tmp 73) rfl rfl rfl rfl (fun j u hj=>(cellB HBn.out).trans (by simpa using hj)) HOO.out (by omega) ?c2 ?_))
    case c2=>exact Nat.le_trans HX.out.size (by simp)
    intro v5 y5 hown5 hg5 hrow5;have HO5:=lh hown5;have HX5:=lh (grown_extB (HX.out.alloc _) (Nat.le_refl _) (owns_ext HOw.out ((Ext.refl wr).alloc (.cells (rfC o).toArray 232 (0,0)))) hg5);clear hown5 hg5 hrow5;obtain ⟨va5,vc5,rfl⟩:=rowk_shape HO5.out;have HB5:=lh ((HX5.out.block (ltB H28.out.blk)).trans H28.out.blk);go_wp2_with (refine wpList_storeB rfl _ _ _ rfl g _ _ rfl rfl HI0.out rfl _ HB5.out ?_;intro w9 hb9 ht9;have HB9:=lh hb9;have HT9:=lh ht9;clear hb9 ht9;go_frame);go_ret;exact ⟨rfl,HHz.out _ _ _ (by rw [rfV_app,List.length_append,HM.out];exact HO5.out) HX5.out HB9.out HT9.out⟩
end
section
open Go.RowKit Go.Shelf
attribute [local go_sem] Oper.semAt_some
theorem hashesL_len2 (l:List UInt8):(hashesL l).length=countN l.length:=by simp [hashesL]
theorem BlkB.none {b0:Nat} {w:World} {o:Option Nat} {x:Value} {l:List UInt8} (h:BlkB b0 w o x l):BlkB b0 w none x l:=by
 obtain ⟨g,cap,h1,h2,h3,h4,h5,h6,h7⟩:=h;exact ⟨g,cap,h1,h2,h3,h4,by simp,h6,h7⟩
theorem BlkB.low {b0 b1:Nat} {w:World} {o:Option Nat} {x:Value} {l:List UInt8} (h:BlkB b0 w o x l) (hb:b1<=b0):BlkB b1 w o x l:=by
 obtain ⟨g,cap,h1,h2,h3,h4,h5,h6,h7⟩:=h;exact ⟨g,cap,h1,h2,h3,h4,h5,Nat.le_trans hb h6,h7⟩
set_option maxRecDepth 100000 in
set_option maxHeartbeats 2000000 in
theorem rpart05_any (l:List UInt8) (v:Value) (i:Nat) (w:World) (hv:BytesOff w.heap.size w v l) (hl:l.length<=4096) (hi:i<countN l.length) :
  Calls prog 180 #[v,.int .i64 i] w fun e w'=>∃ x,e=.returned x/\Hid (BlkB w.heap.size w' none x (partL l i)/\Ext w w'):=by
 have HB:=lh (rblocks05_any l v w hv hl);have hc:=count_le hl;generalize countN l.length=c at *;go_enter func180,ntmps180;go_wp2_with fail;refine HB.out.mono ?_;rintro e w1 ⟨u,rfl,h1⟩;obtain ⟨vs,hvs,ho,hx,hbs⟩:=h1.out;obtain ⟨x,hxi⟩:∃ x,vs[i]?=some x:=⟨_,List.getElem?_eq_getElem (by omega)⟩;have HX:=lh (hbs i x hxi).none;have XW:=lh hx;obtain ⟨ua,uc,rfl,_,_,_,hcells⟩:=row_cells ho;obtain ⟨g,rfl,_,_,hcell⟩:=hcells i x hxi;have c0:w1.cell? ⟨g,i,none⟩=some x:=hcell;have hi2:(i:Int)<(c:Int):=by omega
 clear h1 hvs ho hx hbs hxi hcells hcell HB hv;go_wp2;go_ret;exact ⟨x,rfl,HX.out,XW.out⟩
theorem results_tmp4 {P:Program} {fn:Func} {p q r s:Tmp} (h:fn.results=#[.tmp p,.tmp q,.tmp r,.tmp s]) (tmps:Array Value) (w:World):(results fn tmps).run P w=.ok (.tuple #[tmps.getD p undef,tmps.getD q undef,tmps.getD r undef,tmps.getD s undef]) w:=by
 simp [results,h]
def RFindOut (X:List RF) (h:List UInt8) (w:World) (e:Ending) (w':World):Prop :=
 (e=.returned (.tuple #[.slice none 0 0,.string ⟨#[]⟩,.int .i64 0,.bool false])/\(∀ x∈X,∀ j:Nat,(hashesL x.d)[j]?≠some h)/\Ext w w') \/
 ∃ (i k:Nat) (x:RF) (v:Value),e=.returned (.tuple #[v,.string x.nm,.int .i64 k,.bool true])/\X[i]?=some x/\(hashesL x.d)[k]?=some h/\(∀ y∈X.take i,∀ j:Nat,(hashesL y.d)[j]?≠some h)/\(∀ j:Nat,j<k->(hashesL x.d)[j]?≠some h)/\BlkB w.heap.size w' none v (partL x.d k)/\Ext w w'
set_option maxRecDepth 100000 in
set_option maxHeartbeats 4000000 in
theorem rfind {w:World} {g:Nat} {v:Value} {X:List RF} {I:List Nat} (H:RFinIn w g v X I) (hn:X.length<=1000) (h:List UInt8) (hh:h.length=32) :
  Calls prog 116 #[.pointer (some ⟨g,0,none⟩),.agg (hArr h 32)] w fun e w'=>RFindOut X h w e w':=by
 have HR:=lh H;have k0:w.cell? ⟨g,0,none⟩=some v:=cellB H.blk;obtain ⟨va,vc,rfl,_,_,_,hcells⟩:=row_cells H.row
 have HC:=lh (fun w' (x:Ext w w')=>show ∀ (k j:Nat) y,j<3->X[k]?=some y->∀ u,(rfC y)[j]?=some u->∃ ga,va=some ⟨ga,0,none⟩/\w'.cell? ⟨ga,k*3+j,none⟩=some u from fun k j y hj hy u hu=>by
  obtain ⟨ga,e,_,_,hc⟩:=hcells (k*3+j) u ((rfV_get X k j y hy hj).trans hu)
  exact ⟨ga,e,(x.cell (lt_of_cell hc)).trans hc⟩)
 obtain ⟨n,hnn⟩:∃ n,n=X.length:=⟨_,rfl⟩;have HN:=lh hnn;rw [<-hnn] at hn k0;have HZh:=lh (show (prog.info? 45).map (·.size)=some (hArr h 32).size from by rw [hArr_size _ _ hh (by omega)];kernel_rfl);have HBh:=lh (block_alloc_new w (.cells (hArr h 32) 45 (0,0)));have XA:=lh ((Ext.refl w).alloc (.cells (hArr h 32) 45 (0,0)));clear H hnn hcells;go_enter func116,ntmps116;go_wp2;generalize w.alloc (.cells (hArr h 32) 45 (0,0))=wa at *;obtain ⟨b3,hb3⟩:∃ b,b=w.heap.size:=⟨_,rfl⟩;rw [<-hb3] at HBh ⊢;clear hb3;go_loopw [8,9] (fun iv kv wr=>Hid (∃ i:Nat,i<=n/\iv=.int .i64 i/\Ext wa wr/\∀ y∈X.take i,∀ j:Nat,(hashesL y.d)[j]?≠some h)) (fun iv _ _=>n - (intOf iv).toNat)
 case atStart=>exact ⟨0,Nat.zero_le _,rfl,Ext.refl _,fun y hy=>by simp at hy⟩
 case round =>
  obtain ⟨i,hi,rfl,hx,hno⟩:=hrel.out;clear hrel;have HX:=lh hx;have HNo:=lh hno;have kr:wr.cell? ⟨g,0,none⟩=some (.slice va n vc):=((XA.out.trans hx).cell (lt_of_cell k0)).trans k0;clear hx hno;by_cases hlt:i<n
  ·obtain ⟨y,hy⟩:∃ y,X[i]?=some y:=⟨_,List.getElem?_eq_getElem (by have:=HN.out;omega)⟩;have HFy:=lh ((HR.out.fil y (List.mem_of_getElem? hy)).ext (XA.out.trans HX.out));obtain ⟨la,lc,hvl,_,_,_,hlc⟩:=row_cells HFy.out.lst;obtain ⟨da,dc,hvd⟩:=rowk_shape HFy.out.dat;obtain ⟨ga,rfl,_⟩:=HC.out wr (XA.out.trans HX.out) i 0 y (by decide) hy (.string y.nm) rfl
   have HCy:=lh (fun w' (x:Ext w w')=>show w'.cell? ⟨ga,i*3,none⟩=some (.string y.nm)/\w'.cell? ⟨ga,i*3+1,none⟩=some (.slice da y.d.length dc)/\w'.cell? ⟨ga,i*3+2,none⟩=some (.slice la (countN y.d.length) lc) from by
    obtain ⟨g0,e0,h0⟩:=HC.out w' x i 0 y (by decide) hy (.string y.nm) rfl;obtain ⟨g1,e1,h1⟩:=HC.out w' x i 1 y (by decide) hy y.vd rfl;obtain ⟨g2,e2,h2⟩:=HC.out w' x i 2 y (by decide) hy y.vl rfl
    cases e0;cases e1;cases e2
    exact ⟨h0,by rw [h1,hvd],by rw [h2,hvl]⟩)
   have HY:=lh hy;have hcn:=count_le HFy.out.len
   have HH32:=lh (show ∀ x∈hashesL y.d,x.length=32 from fun x hx=>by
    simp only [hashesL,List.mem_map] at hx;obtain ⟨i,_,rfl⟩:=hx
    exact shaL_len _)
   have HHL:=lh (hashesL_len2 y.d)
   have HRk:=lh (fun w' (x:Ext wr w')=>show ∀ (k:Nat) z,(hashesL y.d)[k]?=some z->∃ gl,la=some ⟨gl,0,none⟩/\w'.rangeAt gl (k*32) (hArr z 32).toList from fun k z hz=>by
    have hz32:=HH32.out z (List.mem_of_getElem? hz);obtain ⟨g1,e1,_,_,_⟩:=hlc (k*32+0) (bv (z[0]'(by omega))) (by rw [hrow_get _ HH32.out k 0 z hz (by omega),List.getElem?_map,List.getElem?_eq_getElem (by omega:0<z.length)];rfl);refine ⟨g1,e1,fun j u hj=>?_⟩;rw [hArr_list hz32] at hj;have hj32:j<32:=by have:=(List.getElem?_eq_some_iff.1 hj).1;simp at this;omega
    obtain ⟨g2,e2,_,_,hc⟩:=hlc (k*32+j) u (by rw [hrow_get _ HH32.out k j z hz hj32];simpa using hj);rw [e1] at e2
    cases e2
    exact (x.cell (lt_of_cell hc)).trans hc)
   have HPt:=lh (fun w' (x:Ext wr w') (k:Nat) (hk:k<countN y.d.length)=>rpart05_any y.d y.vd k w' (ownB_off (owns_ext HFy.out.dat x) (Nat.le_refl _)) HFy.out.len hk);rw [hvd] at HPt;generalize hcc:countN y.d.length=c at *;generalize hdl:y.d.length=dl at *;obtain ⟨c0,c1,c2⟩:=HCy.out wr (XA.out.trans HX.out);clear hlc hvl hvd hy c0 c1;go_wp2;obtain ⟨wo,rfl⟩:∃ x,x=wr:=⟨_,rfl⟩;go_loopw [9] (fun kv wq=>Hid (∃ k:Nat,k<=c/\kv=.int .i64 k/\Ext wo wq/\∀ j:Nat,j<k->(hashesL y.d)[j]?≠some h)) (fun kv _=>c - (intOf kv).toNat)
   case atStart=>exact ⟨0,Nat.zero_le _,rfl,Ext.refl _,fun j hj=>absurd hj (Nat.not_lt_zero j)⟩
   case round =>
    obtain ⟨k,hk,rfl,hxq,hnk⟩:=hrel.out;clear hrel;have HXq:=lh hxq;have HNk:=lh hnk;have kq:wr.cell? ⟨g,0,none⟩=some (.slice (some ⟨ga,0,none⟩) n vc):=(hxq.cell (lt_of_cell kr)).trans kr;obtain ⟨c0q,c1q,c2q⟩:=HCy.out wr ((XA.out.trans HX.out).trans hxq);clear hxq hnk kr c2;by_cases hkc:k<c
    ·obtain ⟨z,hz⟩:∃ z,(hashesL y.d)[k]?=some z:=⟨_,List.getElem?_eq_getElem (by have:=HHL.out;omega)⟩;have hz32:=HH32.out z (List.mem_of_getElem? hz);obtain ⟨gl,rfl,_⟩:=HRk.out wr HXq.out k z hz
     have HRg:=lh (show ∀ w',(∃ zz:After wr,w'=zz.v)->w'.rangeAt gl (k*32) (hArr z 32).toList from by
      rintro _ ⟨zz,rfl⟩;obtain ⟨g9,e9,h9⟩:=HRk.out _ (HXq.out.trans zz.x) k z hz
      cases e9
      exact h9)
     have HB3:=lh (show ∀ w',(∃ zz:After wr,w'=zz.v)->w'.heap[b3]?=some (.cells (hArr h 32) 45 (0,0)) from by
      rintro _ ⟨zz,rfl⟩
      exact (((HX.out.trans HXq.out).trans zz.x).block (ltB HBh.out)).trans HBh.out)
     have HZz:=lh (show (prog.info? 45).map (·.size)=some (hArr z 32).size from by rw [hArr_size _ _ hz32 (by omega)];kernel_rfl);have HZ:=lh hz;have heq:=eq_hash z h hz32 hh;have q0:∀ zz:After wr,zz.v.cell? ⟨g,0,none⟩=some (.slice (some ⟨ga,0,none⟩) n vc):=fun zz=>(zz.x.cell (lt_of_cell kq)).trans kq;have q2:∀ zz:After wr,zz.v.cell? ⟨ga,i*3+2,none⟩=some (.slice (some ⟨gl,0,none⟩) c lc):=fun zz=>(zz.x.cell (lt_of_cell c2q)).trans c2q;clear hz hz32;obtain ⟨b,hb⟩:∃ b,b=decide (z=h):=⟨_,rfl⟩;rw [<-hb] at heq;have HBb:=lh hb;clear hb;generalize hArr z 32=Az at *;go_upto_region 7 with (fail)
     refine wp_region_after (by kernel_rfl) (by kernel_rfl) ?_
     iterate 10 go_big_quiet_step (fail)
     refine wpQuiet_load_at rfl 45 _ rfl gl (k*32) rfl Az _ HRg.out underlying45 rfl HZz.out ?_;go_frame;refine wpQuiet_load_row rfl 45 _ rfl b3 rfl 45 (hArr h 32) (0,0) _ HB3.out underlying45 rfl HZh.out ?_;go_frame;go_big_quiet_step (fail);refine wpQuiet_nil ?_;rintro _ ⟨zz,rfl⟩;have HXz:=lh (HXq.out.trans zz.x);have kz:=q0 zz;obtain ⟨c0z,c1z,_⟩:=HCy.out _ ((XA.out.trans HX.out).trans HXz.out);clear q0 q2 heq HRg HB3 kq c0q c1q c2q
     cases b with
     | true =>
      have hzh:z=h:=of_decide_eq_true HBb.out.symm;go_upto_region 8 with (fail)
      refine wp_region_held (S:=fun w'=>Ext zz.v w') (by kernel_rfl) ?_;change wpAnyH _ _ _ _ _ _ _ _ (World.drew _);have SD:=(Ext.refl zz.v).drew;generalize zz.v.drew=wd at *;refine wpAnyH_takeL (i:=0) (v:=.pointer (some ⟨g,0,none⟩)) rfl (by kernel_rfl) (by kernel_rfl) (by kernel_rfl) (fun _ _ _ h=>h) (Or.inl ⟨rfl,fun w' _=>by go_simp⟩) SD ?_;go_frame;refine wpAnyH_takeL (i:=1) (v:=.pointer (some ⟨g,0,none⟩)) rfl (by kernel_rfl) (by kernel_rfl) (by kernel_rfl) (fun _ _ _ h=>h) (Or.inl ⟨rfl,fun w' _=>by go_simp⟩) SD ?_;go_frame;refine wpAnyH_takeL (i:=2) (v:=.pointer (some ⟨g,0,none⟩)) rfl (by kernel_rfl) (by kernel_rfl) (by kernel_rfl) (fun _ _ _ h=>h) (Or.inl ⟨rfl,fun w' _=>by go_simp⟩) SD ?_;go_frame;refine wpAnyH_takeL (i:=3) (v:=.slice (some ⟨ga,0,none⟩) n vc) rfl (by kernel_rfl) (by kernel_rfl) (by kernel_rfl) (fun _ _ _ h=>h) (Or.inl ⟨rfl,fun w' h=>by have:=(h.cell (lt_of_cell kz)).trans kz;go_simp⟩) SD ?_;go_frame;refine wpAnyH_takeL (i:=4) (v:=.int .i64 i) rfl (by kernel_rfl) (by kernel_rfl) (by kernel_rfl) (fun _ _ _ h=>h) (Or.inl ⟨rfl,fun w' _=>by go_simp⟩) SD ?_;go_frame;refine wpAnyH_takeL (i:=5) (v:=.pointer (some ⟨ga,i*3,none⟩)) rfl (by kernel_rfl) (by kernel_rfl) (by kernel_rfl) (fun _ _ _ h=>h) (Or.inl ⟨rfl,fun w' _=>by go_simp⟩) SD ?_;go_frame;refine wpAnyH_takeL (i:=6) (v:=.pointer (some ⟨ga,i*3+1,none⟩)) rfl (by kernel_rfl) (by kernel_rfl) (by kernel_rfl) (fun _ _ _ h=>h) (Or.inl ⟨rfl,fun w' _=>by go_simp⟩) SD ?_;go_frame;refine wpAnyH_takeL (i:=7) (v:=.slice da dl dc) rfl (by kernel_rfl) (by kernel_rfl) (by kernel_rfl) (fun _ _ _ h=>h) (Or.inl ⟨rfl,fun w' h=>by have:=(h.cell (lt_of_cell c1z)).trans c1z;go_simp⟩) SD ?_;go_frame;refine wpAnyH_takeL (i:=8) (v:=.int .i64 k) rfl (by kernel_rfl) (by kernel_rfl) (by kernel_rfl) (fun _ _ _ h=>h) (Or.inl ⟨rfl,fun w' _=>by go_simp⟩) SD ?_;go_frame;refine wpAnyH_takeL (i:=10) (v:=.pointer (some ⟨g,0,none⟩)) rfl (by kernel_rfl) (by kernel_rfl) (by kernel_rfl) (fun _ _ _ h=>h) (Or.inl ⟨rfl,fun w' _=>by go_simp⟩) SD ?_;go_frame;refine wpAnyH_takeL (i:=11) (v:=.pointer (some ⟨g,0,none⟩)) rfl (by kernel_rfl) (by kernel_rfl) (by kernel_rfl) (fun _ _ _ h=>h) (Or.inl ⟨rfl,fun w' _=>by go_simp⟩) SD ?_;go_frame;refine wpAnyH_takeL (i:=12) (v:=.pointer (some ⟨g,0,none⟩)) rfl (by kernel_rfl) (by kernel_rfl) (by kernel_rfl) (fun _ _ _ h=>h) (Or.inl ⟨rfl,fun w' _=>by go_simp⟩) SD ?_;go_frame;refine wpAnyH_takeL (i:=13) (v:=.slice (some ⟨ga,0,none⟩) n vc) rfl (by kernel_rfl) (by kernel_rfl) (by kernel_rfl) (fun _ _ _ h=>h) (Or.inl ⟨rfl,fun w' h=>by have:=(h.cell (lt_of_cell kz)).trans kz;go_simp⟩) SD ?_;go_frame;refine wpAnyH_takeL (i:=14) (v:=.int .i64 i) rfl (by kernel_rfl) (by kernel_rfl) (by kernel_rfl) (fun _ _ _ h=>h) (Or.inl ⟨rfl,fun w' _=>by go_simp⟩) SD ?_;go_frame;refine wpAnyH_takeL (i:=15) (v:=.pointer (some ⟨ga,i*3,none⟩)) rfl (by kernel_rfl) (by kernel_rfl) (by kernel_rfl) (fun _ _ _ h=>h) (Or.inl ⟨rfl,fun w' _=>by go_simp⟩) SD ?_;go_frame;refine wpAnyH_takeL (i:=16) (v:=.pointer (some ⟨ga,i*3,none⟩)) rfl (by kernel_rfl) (by kernel_rfl) (by kernel_rfl) (fun _ _ _ h=>h) (Or.inl ⟨rfl,fun w' _=>by go_simp⟩) SD ?_;go_frame;refine wpAnyH_takeL (i:=17) (v:=.string y.nm) rfl (by kernel_rfl) (by kernel_rfl) (by kernel_rfl) (fun _ _ _ h=>h) (Or.inl ⟨rfl,fun w' h=>by have:=(h.cell (lt_of_cell c0z)).trans c0z;go_simp⟩) SD ?_;go_frame;refine wpAnyH_takeL (i:=18) (v:=.int .i64 k) rfl (by kernel_rfl) (by kernel_rfl) (by kernel_rfl) (fun _ _ _ h=>h) (Or.inl ⟨rfl,fun w' _=>by go_simp⟩) SD ?_;go_frame;refine wpAnyH_call (i:=9) (F:=180) (args:=#[.slice da dl dc,.int .i64 k]) (by kernel_rfl) rfl rfl (by go_simp) ?_;refine (HPt.out _ (HXz.out.trans SD) k hkc).mono ?_;rintro e wp ⟨xv,rfl,hxv⟩;have SW:=SD.trans hxv.out.2;have HXV:=lh hxv.out.1;have hds:=SD.size;refine ⟨_,rfl,SW,?_⟩;clear hxv;go_frame;refine wpAnyH_takeL (i:=19) (v:=xv) rfl (by kernel_rfl) (by kernel_rfl) (by kernel_rfl) (fun _ _ _ h=>h) (yieldsIf_assign rfl _ rfl rfl) SW ?_;go_frame;refine wpAnyH_takeL (i:=20) (v:=.string y.nm) rfl (by kernel_rfl) (by kernel_rfl) (by kernel_rfl) (fun _ _ _ h=>h) (yieldsIf_assign rfl _ rfl rfl) SW ?_;go_frame;refine wpAnyH_takeL (i:=21) (v:=.int .i64 k) rfl (by kernel_rfl) (by kernel_rfl) (by kernel_rfl) (fun _ _ _ h=>h) (yieldsIf_assign rfl _ rfl rfl) SW ?_;go_frame;refine wpAnyH_takeL (i:=22) (v:=.bool true) rfl (by kernel_rfl) (by kernel_rfl) (by kernel_rfl) (fun _ _ _ h=>h) (yieldsIf_assign rfl _ rfl rfl) SW ?_;go_frame;refine wpAnyH_done (by kernel_rfl) ?_ _;go_wp2_with fail;refine bodyPost_ret (results_tmp4 rfl _ _) rfl ?_;exact .inr ⟨i,k,y,xv,rfl,HY.out,by rw [HZ.out,hzh],HNo.out,HNk.out,HXV.out.low (Nat.le_trans (Nat.le_trans XA.out.size HX.out.size) (Nat.le_trans HXz.out.size hds)),(XA.out.trans HX.out).trans (HXz.out.trans SW)⟩
     | false =>
      have hzh:z≠h:=of_decide_eq_false HBb.out.symm;go_wp2;go_roundw
      case rel=>exact ⟨k+1,by omega,by go_num,HXz.out,fun j hj=>by
       by_cases e:j=k
       ·rw [e,HZ.out];exact fun q=>hzh (Option.some.inj q)
       ·exact HNk.out j (by omega)⟩
      case measure=>simp [intOf] <;> omega
    ·obtain rfl:k=c:=by omega
     have HNi:=lh (show ∀ x∈X.take (i+1),∀ j:Nat,(hashesL x.d)[j]?≠some h from fun x hx j=>by
      rw [List.take_add_one,HY.out,List.mem_append] at hx;rcases hx with hx | hx
      ·exact HNo.out x hx j
      ·simp at hx;rw [hx];rcases Nat.lt_or_ge j k with h1 | h1
       ·exact HNk.out j h1
       ·rw [List.getElem?_eq_none (by have:=HHL.out;omega)];simp)
     have HXo:=lh (HX.out.trans HXq.out);go_wp2;go_roundw
     case rel=>exact ⟨i+1,by omega,by go_num,HXo.out,HNi.out⟩
     case measure=>simp [intOf] <;> omega
  ·obtain rfl:i=n:=by omega
   go_wp2;refine bodyPost_ret (results_tmp4 rfl _ _) rfl ?_;exact .inl ⟨rfl,fun x hx j=>HNo.out x (by rw [HN.out,List.take_length];exact hx) j,XA.out.trans HX.out⟩
end
section
open Go.RowKit Go.Shelf
attribute [local go_sem] Oper.semAt_some
set_option maxRecDepth 100000 in
set_option maxHeartbeats 1000000 in
theorem rcount05_any (n:Int) (w:World) (hlo:-9223372036854775808<=n) (hhi:n<=9223372036854775807) :
  Calls prog 178 #[.int .i64 n] w fun e w'=>e=.returned (.int .i64 (countZ n))/\Ext w w':=by
 have HS:=lh (rsize05_any n w hlo hhi);by_cases h0:n<0\/4096<n
 ·rw [show sizeZ n=0 from if_pos h0] at HS;rw [show countZ n=0 from if_pos h0];go_enter func178,ntmps178;go_wp2_with fail;refine HS.out.mono ?_;rintro e w1 ⟨rfl,x1⟩;have X1:=lh x1;clear x1;go_wp2;refine wp_loop_rounds 1 ?_;rw [rounds_succ];go_wp2;go_ret;exact ⟨rfl,X1.out⟩
 ·obtain ⟨N,rfl⟩:∃ N:Nat,n=(N:Int):=⟨n.toNat,by omega⟩;rw [show sizeZ (N:Int)=(sizeN N:Nat) from by unfold sizeZ;rw [if_neg h0];simp] at HS;rw [show countZ (N:Int)=(countN N:Nat) from by unfold countZ;rw [if_neg h0];simp];have hN:N<=4096:=by omega
  have HCS:=lh (count_spec N);have hc:=count_le hN;have hz:=sizeN_spec N;have hz1:1<=sizeN N:=by omega
  have hz2:sizeN N<=128:=by omega
  clear hz h0 hlo hhi;generalize countN N=c at *;generalize sizeN N=s at *;have hs0:(0:Int)<(s:Int):=by omega
  go_enter func178,ntmps178;go_wp2_with fail;refine HS.out.mono ?_;rintro e w1 ⟨rfl,x1⟩;have X1:=lh x1;clear x1;go_wp2;go_loopw [4] (fun kv wr=>Hid (∃ k:Nat,k<=c/\kv=.int .i64 k/\wr=w1)) (fun kv _=>c - (intOf kv).toNat)
  case atStart=>exact ⟨0,Nat.zero_le _,rfl,rfl⟩
  case round =>
   obtain ⟨k,hk,rfl,rfl⟩:=hrel.out;clear hrel;have hks:k*s<=32*128:=Nat.mul_le_mul (by omega) hz2;have hm:IntKind.i64.wrap ((k:Int)*(s:Int))=((k*s:Nat):Int):=by rw [show ((k:Int)*(s:Int))=((k*s:Nat):Int) from by simp,IntWalk.i64_in _ (by omega)]
   have HC1:=lh (HCS.out k);generalize hks2:k*s=ks at *;by_cases hlt:k<c
   ·have h1:((ks:Nat):Int)<(N:Int):=by have:=HC1.out.1 hlt;omega
    have h1b:decide (((ks:Nat):Int)<(N:Int))=true:=decide_eq_true h1;have h1c:ks<N:=by omega
    clear hks2;go_wp2;go_roundw
    case rel=>exact ⟨k+1,by omega,by go_num,trivial⟩
    case measure=>simp [intOf] <;> omega
   ·obtain rfl:k=c:=by omega
    have h1:¬ ((ks:Nat):Int)<(N:Int):=fun q=>by have:=HC1.out.2 (by omega);omega
    have h1b:decide (((ks:Nat):Int)<(N:Int))=false:=decide_eq_false h1;have h1c:¬ ks<N:=by omega
    clear hks2;go_wp2;go_ret;exact ⟨rfl,X1.out⟩
set_option maxRecDepth 100000 in
set_option maxHeartbeats 4000000 in
theorem rwanted21_any (r:RecS) (C:Array Value) (bl:Value) (w:World) (hC:RecC C r bl) (hb:∃ a cap,bl=.slice a r.hs.length cap) (hlo:-9223372036854775808<=r.size) (hhi:r.size<=9223372036854775807) :
  Calls prog 112 #[.agg C] w fun e w'=>e=.returned (.int .i64 r.wanted)/\Ext w w':=by
 obtain ⟨a,cap,rfl⟩:=hb;have HW:=lh (show r.wanted=wantedB r.del (r.kind != 1) (decide (r.size<0)) (decide (4096<r.size)) (r.bs != sizeZ r.size) ((r.hs.length:Int) != countZ r.size) from rfl);have HSz:=fun w'=>lh (rsize05_any r.size w' hlo hhi);have HCn:=fun w'=>lh (rcount05_any r.size w' hlo hhi);have hbk:=block_alloc_new w (.cells C 31 (0,0));have HX:=lh ((Ext.refl w).alloc (.cells C 31));have c1:=(cellB (k:=1) hbk).trans hC.c1;have c2:=(cellB (k:=2) hbk).trans hC.c2;have c3:=(cellB (k:=3) hbk).trans hC.c3;have c22:=(cellB (k:=22) hbk).trans hC.c22;have c23:=(cellB (k:=23) hbk).trans hC.c23;generalize r.wanted=W at *;generalize sizeZ r.size=S at *;generalize countZ r.size=N at *;generalize r.hs.length=n at *;generalize r.bs=bs at *;generalize r.size=z at *;generalize r.kind=k at *;generalize r.del=del at *;clear hbk hC hlo hhi
 cases del
 case' false =>
  cases hk:(k != 1)
  case' false =>
   cases h1:decide (z<0)
   case' false =>
    cases h2:decide (4096<z)
    case' false =>
     cases h3:(bs != S)
     case' false =>
      cases h4:((n:Int) != N)
 all_goals
  try simp only [*] at HW
  go_enter func112,ntmps112;go_wp2_with fail
  first
  | (go_ret
     exact ⟨ret_int (HW.out.symm),HX.out⟩)
  | (have q3:=After.cell c3
     have q22:=After.cell c22;have q23:=After.cell c23;refine wp_region_after (by kernel_rfl) (by kernel_rfl) ?_
     repeat (go_big_quiet_step (first | (go_at_call 177;exact After.of (HSz _).out) | (go_at_call 178;exact After.of (HCn _).out)))
     refine wpQuiet_nil ?_;rintro _ ⟨y,rfl⟩;clear q3 q22 q23;go_wp2_with fail;go_ret
     exact ⟨ret_int (HW.out.symm),HX.out.trans y.x⟩)
set_option maxRecDepth 100000 in
set_option maxHeartbeats 2000000 in
theorem rlen21_any (r:RecS) (C:Array Value) (bl:Value) (N i:Nat) (w:World) (hC:RecC C r bl) (hb:∃ a cap,bl=.slice a r.hs.length cap) (G:r.Good N) (hi:i<countN N) :
  Calls prog 179 #[.agg C,.int .i64 i] w fun e w'=>e=.returned (.int .i64 (lenN N i:Nat))/\Ext w w':=by
 have HW:=lh (fun w'=>show Calls prog 112 #[.agg C] w' (fun e w''=>e=.returned (.int .i64 0)/\Ext w' w'') from by
  rw [<-G.wanted]
  exact rwanted21_any r C bl w' hC hb (by rw [G.size];omega) (by rw [G.size];have:=G.small;omega))
 have hN:=G.small;have hc:=count_le hN;have HB:=lh (block_alloc_new w (.cells C 31 (0,0)));have HX:=lh ((Ext.refl w).alloc (.cells C 31));have HCz:=lh (show (prog.info? 31).map (·.size)=some C.size from by rw [hC.n];kernel_rfl);obtain ⟨a,cap,rfl⟩:=hb;have HC3:=lh (show C[3]?=some (.int .i64 (N:Nat)) from by rw [hC.c3,G.size]);have HC22:=lh (show C[22]?=some (.int .i64 (sizeN N:Nat)) from by rw [hC.c22,G.bs]);have HC23:=lh (show C[23]?=some (.slice a (countN N) cap) from by rw [hC.c23,G.count]);have hz:=sizeN_spec N;have hz1:1<=sizeN N:=by omega
 have hz2:sizeN N<=128:=by omega
 have hci:=(count_spec N i).1 hi;have hcs:=count_spec N (i+1);have HL:=lh (show lenN N i=min (sizeN N) (N - i*sizeN N) from rfl);clear hz hC G;rw [Nat.succ_mul] at hcs;generalize lenN N i=li at *;generalize countN N=c at *;generalize sizeN N=s at *;have hks:i*s<=32*128:=Nat.mul_le_mul (by omega) hz2;have hm:IntKind.i64.wrap ((i:Int)*(s:Int))=((i*s:Nat):Int):=by rw [show ((i:Int)*(s:Int))=((i*s:Nat):Int) from by simp,IntWalk.i64_in _ (by omega)]
 generalize hks2:i*s=ks at *;have hi0:¬ ((i:Int)<0):=by omega
 have hi1:((i:Int)<(c:Int)):=by omega
 have hi2:i<c:=hi;by_cases hlast:i+1<c
 ·have HS:=lh (show li=s from by rw [HL.out];have:=hcs.1 hlast;omega);have hl1:((i:Int)+1)<(c:Int):=by omega
  clear hks2 hcs hci;go_enter func179,ntmps179;go_wp2_with (refine wpList_load_row rfl 31 _ rfl w.heap.size rfl 31 C (0,0) _ HB.out underlying31 rfl HCz.out ?_;go_frame);refine (HW.out _).mono ?_;rintro e w1 ⟨rfl,x1⟩;have X1:=lh (HX.out.trans x1);have hB1:=(x1.block (ltB HB.out)).trans HB.out;have k22:w1.cell? ⟨w.heap.size,22,none⟩=some (.int .i64 (s:Nat)):=(cellB (k:=22) hB1).trans HC22.out;have k23:w1.cell? ⟨w.heap.size,23,none⟩=some (.slice a c cap):=(cellB (k:=23) hB1).trans HC23.out;clear x1 HW hB1;go_wp2;go_ret;exact ⟨by rw [HS.out];rfl,X1.out⟩
 ·have HS:=lh (show li=N - ks from by rw [HL.out];have:¬ ks+s<N:=fun q=>hlast (hcs.2 q);omega);have hl1:¬ ((i:Int)+1)<(c:Int):=by omega
  have hsub:IntKind.i64.wrap ((N:Int) - ((ks:Nat):Int))=((N - ks:Nat):Int):=by rw [IntWalk.i64_in _ (by omega)];omega
  clear hks2 hcs;go_enter func179,ntmps179;go_wp2_with (refine wpList_load_row rfl 31 _ rfl w.heap.size rfl 31 C (0,0) _ HB.out underlying31 rfl HCz.out ?_;go_frame);refine (HW.out _).mono ?_;rintro e w1 ⟨rfl,x1⟩;have X1:=lh (HX.out.trans x1);have hB1:=(x1.block (ltB HB.out)).trans HB.out;have k22:w1.cell? ⟨w.heap.size,22,none⟩=some (.int .i64 (s:Nat)):=(cellB (k:=22) hB1).trans HC22.out;have k3:w1.cell? ⟨w.heap.size,3,none⟩=some (.int .i64 (N:Nat)):=(cellB (k:=3) hB1).trans HC3.out;have k23:w1.cell? ⟨w.heap.size,23,none⟩=some (.slice a c cap):=(cellB (k:=23) hB1).trans HC23.out;clear x1 HW hB1;go_wp2;go_ret;exact ⟨by rw [HS.out];rfl,X1.out⟩
end
section
open Go.RowKit Go.Shelf
attribute [local go_sem] Oper.semAt_some
theorem blkB_owns {w:World} {b:Nat} {v:Value} {l:List UInt8} (ho:w.ownsRow b 5 1 v l.length (l.map bv)) (hl:0<l.length):BlkB b w none v l:=by
 obtain ⟨a,cap,rfl,h1,h2,_,hcells⟩:=row_cells ho;obtain ⟨x,hx⟩:∃ x,l[0]?=some x:=⟨_,List.getElem?_eq_getElem hl⟩;obtain ⟨g,rfl,hb,hg,_⟩:=hcells 0 (bv x) (by rw [List.getElem?_map,hx];rfl);refine ⟨g,cap,rfl,h1,by unfold maxLen;omega,hg,by simp,hb,fun j y hy=>?_⟩;obtain ⟨g',e,_,_,hc⟩:=hcells j (bv y) (by rw [List.getElem?_map,hy];rfl)
 cases e
 exact hc
def PartV (b0:Nat) (w:World) (x:Value) (l:List UInt8):Prop:=(l=[]/\x=.slice none 0 0)\/(0<l.length/\BlkB b0 w none x l)
theorem PartV.ext {b0:Nat} {w w':World} {x:Value} {l:List UInt8} (h:PartV b0 w x l) (k:Ext w w'):PartV b0 w' x l :=
 h.imp id fun ⟨h1,h2⟩=>⟨h1,h2.ext k⟩
theorem PartV.off {b0:Nat} {w:World} {x:Value} {l:List UInt8} (h:PartV b0 w x l):BytesOff w.heap.size w x l:=by
 rcases h with ⟨rfl,rfl⟩ | ⟨_,h⟩
 ·exact BytesOff.nil _ _
 ·exact h.off
theorem PartV.some {b0:Nat} {w:World} {x:Value} {l:List UInt8} (h:PartV b0 w x l):∀ cap,x=.slice none 0 cap->cap=0:=by
 rcases h with ⟨_,rfl⟩ | ⟨_,h⟩
 ·intro c e
  cases e
  rfl
 ·exact h.some
set_option maxRecDepth 100000 in
set_option maxHeartbeats 4000000 in
theorem rplaced21_any (r:RecS) (C:Array Value) (bl:Value) (N i:Nat) (t:List UInt8) (v:Value) (b:Nat) (w:World) (hC:RecC C r bl) (hb:∃ a cap,bl=.slice a r.hs.length cap) (G:r.Good N) (hi:i<countN N) (hv:BytesOff b w v t) :
  Calls prog 113 #[.agg C,.int .i64 i,v] w fun e w'=>∃ x,e=.returned x/\Hid (PartV w.heap.size w' x (placedL N t i)/\Ext w w'):=by
 have hsm:=G.small;have HLen:=fun w'=>lh (rlen21_any r C bl N i w' hC hb G hi);have hl1:=lenN_pos hi;have hl2:=lenN_le N i;have hmz:=(count_spec N i).1 hi;have hsp:=sizeN_spec N;have HP:=lh (show placedL N t i=if i*sizeN N+lenN N i<=t.length then (t.drop (i*sizeN N)).take (lenN N i) else [] from rfl);have HCz:=lh (show (prog.info? 31).map (·.size)=some C.size from by rw [hC.n];kernel_rfl);have HB:=lh (block_alloc_new w (.cells C 31 (0,0)))
 have c22:(w.alloc (.cells C 31 (0,0))).cell? ⟨w.heap.size,22,none⟩=some (.int .i64 (sizeN N:Nat)):=by
  rw [<-G.bs];exact (cellB (k:=22) HB.out).trans hC.c22
 have HX:=lh ((Ext.refl w).alloc (.cells C 31));obtain ⟨a,cap,rfl,h1,h2,h3⟩:=hv;have hcap:=h2;unfold maxLen at h2;have HT3:=lh h3;generalize placedL N t i=pl at *;generalize lenN N i=m at *;obtain ⟨z,hz⟩:∃ z:Nat,z=sizeN N:=⟨_,rfl⟩;rw [<-hz] at hsp hmz c22 HP;obtain ⟨lo,hlo⟩:∃ lo,lo=i*z:=⟨_,rfl⟩;rw [<-hlo] at hmz HP;obtain ⟨n,hn⟩:∃ n,n=t.length:=⟨_,rfl⟩;have HN:=lh hn;rw [<-hn] at h1 HP ⊢;have q1:IntKind.i64.wrap ((i:Int)*(z:Int))=(lo:Int):=(IntWalk.i64_in _ (by rw [<-Int.natCast_mul,<-hlo];omega)).trans (by rw [<-Int.natCast_mul,<-hlo]);obtain ⟨hi2,hhi2⟩:∃ hi2,hi2=lo+m:=⟨_,rfl⟩;have q2:IntKind.i64.wrap ((lo:Int)+(m:Int))=(hi2:Int):=(IntWalk.i64_in _ (by omega)).trans (by omega);rw [<-hhi2] at HP;by_cases hle:hi2<=n
 ·have d1:decide ((n:Int)<(hi2:Int))=false:=decide_eq_false (by omega);have d2:decide (n<hi2)=false:=decide_eq_false (by omega);have HR:=lh (HP.out.trans (if_pos hle));have hpl:pl.length=m:=by rw [HR.out,List.length_take,List.length_drop,<-HN.out];omega
  obtain ⟨g,o,rfl,hg,hgl,hcell⟩:=HT3.out (by rw [<-HN.out];omega);have HCut:=lh (fun w' (x:Ext w w')=>bytesOff_any (bytesOff_cut (b:=b) HR.out hpl (by rw [<-HN.out];omega) (by rw [<-HN.out];exact h1) hcap hg hgl hcell) x x.size);have s1:(lo:Int)<=(hi2:Int):=by omega
  have s2:(hi2:Int)<=(cap:Int):=by omega
  have s3:hi2 - lo=m:=by omega
  have s4:¬ cap=lo:=by omega
  have s5:0<=(lo:Int):=by omega
  have HPL:=lh (show 0<pl.length/\pl.length<=1048576/\pl.length=m from ⟨by omega,by omega,hpl⟩);clear HP HR hmz hsp hl1 hl2 hcell HT3 hg hgl hlo hz hhi2 hle hcap hi hn hsm G hC HN h3 hpl;go_enter func113,ntmps113;go_wp2_with (refine wpList_load_row rfl 31 _ rfl w.heap.size rfl 31 C (0,0) _ HB.out underlying31 rfl HCz.out ?_;go_frame);refine (HLen _).out.mono ?_;rintro e w1 ⟨rfl,x1⟩;have HX1:=lh (HX.out.trans x1);clear x1;obtain ⟨v7,w7,hr7,ho7,hx7⟩:=run_add_bytes0 (HCut.out w1 HX1.out) HPL.out.2.1 22;have HQ:=lh (show PartV w.heap.size w7 v7 pl from .inr ⟨HPL.out.1,BlkB.low (blkB_owns ho7 HPL.out.1) HX1.out.size⟩);have HX7:=lh (HX1.out.trans hx7);clear ho7 hx7;go_wp2_with (refine wpList_run rfl (run_addOp (T:=22) rfl rfl rfl hr7) ?_;go_frame);go_ret;exact ⟨v7,rfl,HQ.out,HX7.out⟩
 ·have d1:decide ((n:Int)<(hi2:Int))=true:=decide_eq_true (by omega);have d2:decide (n<hi2)=true:=decide_eq_true (by omega);have HR:=lh (HP.out.trans (if_neg hle));clear HP hmz hsp hl1 hl2 HT3 hlo hz hhi2 hle hcap hi hn hsm G hC HN h3;go_enter func113,ntmps113;go_wp2_with (refine wpList_load_row rfl 31 _ rfl w.heap.size rfl 31 C (0,0) _ HB.out underlying31 rfl HCz.out ?_;go_frame);refine (HLen _).out.mono ?_;rintro e w1 ⟨rfl,x1⟩;have HX1:=lh (HX.out.trans x1);clear x1;go_wp2_with fail;go_ret;exact ⟨_,rfl,.inl ⟨HR.out,rfl⟩,HX1.out⟩
set_option maxRecDepth 100000 in
set_option maxHeartbeats 4000000 in
theorem rright21_any (r:RecS) (C:Array Value) (bl:Value) (N i:Nat) (l:List UInt8) (u:Value) (w:World) (hC:RecC C r bl) (hb:HashesAt w bl r.hs) (G:r.Good N) (hi:i<countN N) (hu:BytesOff w.heap.size w u l) (hz:∀ cap,u=.slice none 0 cap->cap=0) (hl:l.length<=1048576) :
  Calls prog 114 #[.agg C,.int .i64 i,u] w fun e w'=>e=.returned (.bool (rightB N r.hs i l))/\Ext w w':=by
 have hsm:=G.small;obtain ⟨ha,hcap,rfl,hb1,hb2,hb3⟩:=hb;have HLen:=fun w'=>lh (rlen21_any r C _ N i w' hC ⟨_,_,rfl⟩ G hi);obtain ⟨h,hh⟩:∃ h,r.hs[i]?=some h:=⟨_,List.getElem?_eq_getElem (by rw [G.count];exact hi)⟩;obtain ⟨hh32,g,o,rfl,hgl,hrg⟩:=hb3 i h hh;have HSum:=fun w' (x:Ext w w')=>lh (rsum_any l u w' (bytesOff_any hu x x.size) hz hl)
 have HRB:=lh (show rightB N r.hs i l=(decide (l.length=lenN N i)&&decide (shaL l=h)) from by
  unfold rightB;rw [hh]
  congr 1
  rw [decide_eq_decide,Option.some.injEq]
  exact eq_comm)
 have HAl:=lh (show (hArr h 32).toList=h.map bv from by rw [hArr_list hh32]);have HAz:=lh (show (prog.info? 45).map (·.size)=some (hArr h 32).size from by rw [hArr_size _ _ hh32 (by omega)];kernel_rfl)
 have HRg:=lh (show ∀ w',Ext w w'->w'.rangeAt g (o+i*32) (hArr h 32).toList from fun w' x j y hj=>by
  rw [HAl.out] at hj
  exact (x.cell hgl).trans (hrg j y hj))
 have HCz:=lh (show (prog.info? 31).map (·.size)=some C.size from by rw [hC.n];kernel_rfl);have HX:=lh ((Ext.refl w).alloc (.cells C 31));have HB:=lh (block_alloc_new w (.cells C 31 (0,0)));have k23:(w.alloc (.cells C 31 (0,0))).cell? ⟨w.heap.size,23,none⟩=some (.slice (some ⟨g,o,none⟩) r.hs.length hcap):=(cellB (k:=23) HB.out).trans hC.c23;have hin:(i:Int)<(r.hs.length:Int):=by rw [G.count];omega
 have hin2:i<r.hs.length:=by omega
 have heq:=eq_hash (shaL l) h (shaL_len _) hh32;obtain ⟨a,cap,rfl,h1,h2,_⟩:=hu;unfold maxLen at h2;unfold hashV at HSum;generalize rightB N r.hs i l=R at *;generalize hArr h 32=A at *;generalize hArr (shaL l) 32=A2 at *;generalize lenN N i=m at *;generalize r.hs.length=n at *;obtain ⟨q,hq⟩:∃ q,q=decide (shaL l=h):=⟨_,rfl⟩;rw [<-hq] at heq HRB;clear hq hC hrg hh G hb3 HAl hsm hh32 hz
 have e1:((l.length:Int)==(m:Int))=decide (l.length=m):=by
  rw [Bool.eq_iff_iff,beq_iff_eq,decide_eq_true_iff];omega
 have HR:=lh (show R=(decide (l.length=m)&&q) from HRB.out);clear HRB;generalize decide (l.length=m)=d at *;generalize l.length=ln at *;go_enter func114,ntmps114;go_upto_region 1 with (fail)
 generalize w.alloc (.cells C 31 (0,0))=wa at *;obtain ⟨b3,hb3⟩:∃ b,b=w.heap.size:=⟨_,rfl⟩;rw [<-hb3] at HB k23 ⊢;clear hb3;have q23:=After.cell k23
 have HB3:=lh (show ∀ w',(∃ y:After wa,w'=y.v)->w'.heap[b3]?=some (.cells C 31 (0,0)) from by
  rintro _ ⟨y,rfl⟩
  exact (y.x.block (ltB HB.out)).trans HB.out)
 have HRi:=lh (show ∀ w',(∃ y:After wa,w'=y.v)->w'.rangeAt g (o+i*32) A.toList from by
  rintro _ ⟨y,rfl⟩
  exact HRg.out _ (HX.out.trans y.x))
 refine wp_region_after (by kernel_rfl) (by kernel_rfl) ?_
 iterate 2 go_big_quiet_step (fail)
 refine wpQuiet_load_row rfl 31 _ rfl b3 rfl 31 C (0,0) _ HB3.out underlying31 rfl HCz.out ?_;go_frame;go_big_quiet_step (fail);go_big_quiet_step ((go_at_call 179;exact After.of (HLen _).out))
 cases d with
 | true =>
  iterate 3 go_big_quiet_step (fail)
  go_big_quiet_step ((go_at_call 174;exact After.of (HSum _ (HX.out.trans (After.x _))).out))
  iterate 4 go_big_quiet_step (fail)
  refine wpQuiet_load_ag (by simp [Region.wanted,yielded]) 45 _ rfl g (o+i*32) rfl A _ HRi.out underlying45 rfl HAz.out ?_;go_frame
  repeat (go_big_quiet_step (fail))
  refine wpQuiet_nil ?_;rintro _ ⟨y,rfl⟩;have HY:=lh (HX.out.trans y.x);clear q23;go_wp2_with fail;go_ret;exact ⟨ret_bool (by rw [HR.out,Bool.true_and]),HY.out⟩
 | false =>
  repeat (go_big_quiet_step (fail))
  refine wpQuiet_nil ?_;rintro _ ⟨y,rfl⟩;have HY:=lh (HX.out.trans y.x);clear q23;go_wp2_with fail;go_ret;exact ⟨ret_bool HR.out.symm,HY.out⟩
end
section
open Go.RowKit
set_option maxHeartbeats 1000000 in
set_option maxRecDepth 100000 in
theorem rtext_any (l:List UInt8) (hl:l.length=32) (w:World) :
  Calls prog 175 #[hashV l] w fun e w'=>e=.returned (.string ⟨(hexL l).toArray⟩)/\Ext w w':=by
 unfold hashV;have hsz:(hArr l 32).size=32:=hArr_size l 32 hl (by omega)
 have HAT:=lh (fun (i:Nat) (x:UInt8) (h:l[i]?=some x)=>show (hArr l 32)[i]?=some (.int .u8 x.toNat) from by
  have hi:i<32:=hl▸(List.getElem?_eq_some_iff.1 h).1;unfold hArr
  rw [List.getElem?_toArray,List.getElem?_append_left (by simp [hl,hi]),List.getElem?_map,List.getElem?_take,if_pos hi,h];rfl)
 have HSZ:=lh hsz;obtain ⟨H,hH⟩:∃ H,H=hArr l 32:=⟨_,rfl⟩;rw [<-hH] at hsz HSZ HAT ⊢;have HDG:=fun n h w=>lh (rdigit_any n h w);clear hH hsz;go_enter func175,ntmps175;go_wp2_with fail;have HB0:=lh (show (w.alloc (.cells H 45)).heap[w.heap.size]?=some (.cells H 45 (0,0)) from heap_alloc_new _ _);have HX0:=lh ((Ext.refl w).alloc (.cells H 45));obtain ⟨wa,hwa⟩:∃ x,x=w.alloc (.cells H 45):=⟨_,rfl⟩;rw [<-hwa] at HB0 HX0 ⊢;clear hwa;go_loopw [3,4] (fun v iv wr=>Hid (∃ k:Nat,k<=32/\iv=.int .i64 k/\wr.ownsRow wa.heap.size 5 1 v (2*k) ((hexL (l.take k)).map bv)/\Ext wa wr)) (fun _ iv _=>32 - (intOf iv).toNat)
 case atStart=>exact ⟨0,by omega,rfl,World.ownsRow_nil _ _ _ _,Ext.refl _⟩
 case round =>
  obtain ⟨k,hk,rfl,ho,hx⟩:=hrel.out;clear hrel;have HX:=lh hx;have HO:=lh ho;have hs:=hx.size;obtain ⟨a0,cap0,rfl⟩:=owns_slice ho;have HBR:=lh ((hx.block (ltB HB0.out)).trans HB0.out);by_cases hlt:k<32
  ·obtain ⟨x,hlx⟩:∃ x,l[k]?=some x:=⟨_,List.getElem?_eq_getElem (by omega)⟩;have hxl:=x.toNat_lt;have HST:=lh (show (hexL (l.take (k+1))).map bv=(hexL (l.take k)).map bv++[.int .u8 (hexD (x.toNat / 16)).toNat,.int .u8 (hexD (x.toNat % 16)).toNat] from by rw [hexL_step l k x hlx];simp [bv]);have hcx:wr.cell? ⟨w.heap.size,k,none⟩=some (.int .u8 x.toNat):=(cellB HBR.out).trans (HAT.out k x hlx)
   have HD1:=fun w=>lh (show Calls prog 218 #[.int .u8 ((x.toNat:Int) / 16)] w fun e w'=>e=.returned (.int .u8 (hexD (x.toNat / 16)).toNat)/\w'=w from by
    have:=(HDG (x.toNat / 16) (by omega) w).out
    rwa [show ((x.toNat / 16:Nat):Int)=(x.toNat:Int) / 16 from by omega] at this)
   have HD2:=fun w=>lh (show Calls prog 218 #[.int .u8 ((x.toNat:Int) % 16)] w fun e w'=>e=.returned (.int .u8 (hexD (x.toNat % 16)).toNat)/\w'=w from by
    have:=(HDG (x.toNat % 16) (by omega) w).out
    rwa [show ((x.toNat % 16:Nat):Int)=(x.toNat:Int) % 16 from by omega] at this)
   obtain ⟨d1,hd1⟩:∃ d,d=hexD (x.toNat / 16):=⟨_,rfl⟩;obtain ⟨d2,hd2⟩:∃ d,d=hexD (x.toNat % 16):=⟨_,rfl⟩;rw [<-hd1] at HD1 HST;rw [<-hd2] at HD2 HST;have b1:(k:Int)<32:=by omega
   have b2:(0:Int)<=(k:Int):=by omega
   obtain ⟨e1,q1⟩:∃ e,(x.toNat:Int) / 16=e:=⟨_,rfl⟩;obtain ⟨e2,q2⟩:∃ e,(x.toNat:Int) % 16=e:=⟨_,rfl⟩;have q3:(x.toNat:Int).tmod 16=e2:=by rw [<-q2];exact Int.tmod_eq_emod_of_nonneg (by omega)
   have q4:(x.toNat:Int).tdiv 16=e1:=by rw [<-q1];exact Int.tdiv_eq_ediv_of_nonneg (by omega)
   rw [q1] at HD1;rw [q2] at HD2;have b3:e1 % 256=e1:=by omega
   have b4:e2 % 256=e2:=by omega
   have b5:IntKind.u8.wrap e1=e1:=by rw [IntKind.wrap_u8];omega
   have b6:IntKind.u8.wrap e2=e2:=by rw [IntKind.wrap_u8];omega
   have HXK:=lh (HAT.out k x hlx);clear hd1 hd2 hlx ho hx HDG;go_wp2_with fail
   go_region_held_law (fun w'=>w'.cell? ⟨w.heap.size,k,none⟩=some (.int .u8 x.toNat)) (go_keep)
    (first
     | (refine step_append_m elU8 wa.heap.size (.slice a0 (2*k) cap0) (2*k) ((hexL (l.take k)).map bv) (owns_ext HO.out ?_) wr.heap.size [.int .u8 d1.toNat,.int .u8 d2.toNat] 2 rfl (.tmp 9) (.tmp 20) rfl rfl ?_ ?_ ?_ ?_ ?_ ?_ ?_
        ·repeat (first | exact Ext.refl _ | refine Ext.alloc ?_ _ | refine Ext.drew ?_)
        ·simp [Act.eval]
        ·simp [Act.eval]
        ·intro j u hj
         match j,hj with
         | 0,hj=>exact (cellB (heap_new_drew rfl)).trans hj
         | 1,hj=>exact (cellB (heap_new_drew rfl)).trans hj
         | j+2,hj=>simp at hj
        ·intro u hu;simp only [List.mem_cons,List.not_mem_nil,or_false] at hu;rcases hu with rfl | rfl <;> rfl
        ·omega
        ·simp;omega
        intro v' w3 hown3 hgr3;have hb3:=(hgr3.block w.heap.size (by have:=ltB HBR.out;simp;omega) (fun e=>by have:=(HO.out.lt _ e.symm).1;have:=ltB HB0.out;omega)).trans ((((Ext.refl wr).alloc _).drew.block (ltB HBR.out)).trans HBR.out);have k1:w3.cell? ⟨w.heap.size,k,none⟩=some (.int .u8 x.toNat):=(cellB hb3).trans HXK.out;have HR:=lh (show w3.ownsRow wa.heap.size 5 1 v' (2*(k+1)) ((hexL (l.take (k+1))).map bv)/\Ext wa w3 from ⟨by rw [HST.out];exact hown3,ext_own ((HX.out.alloc _).drew) (Nat.le_refl _) (owns_ext HO.out (by repeat (first | exact Ext.refl _ | refine Ext.alloc ?_ _ | refine Ext.drew ?_))) hgr3⟩)
        clear hown3 hgr3 hb3)
     | (go_at_call 218;with_reducible refine (HD1 _).out.mono ?_;rintro e w' ⟨rfl,rfl⟩)
     | (go_at_call 218;with_reducible refine (HD2 _).out.mono ?_;rintro e w' ⟨rfl,rfl⟩))
   all_goals
    go_wp2_with fail;go_roundw
    case rel=>exact ⟨k+1,by omega,by go_num,HR.out.1,HR.out.2⟩
    case measure=>simp [intOf] <;> omega
  ·have e32:k=32:=by omega
   subst e32;have e:l.take 32=l:=List.take_of_length_le (by omega);rw [e] at ho;clear HO;obtain ⟨g1,cap1,hv,_,_,hg1,_,hcl⟩:=owns_cell ho (by decide);injection hv with hv1 _ hv3
   subst hv1;subst hv3
   have hcv:∀ w',Ext wr w'->(convert 22 9 (.slice (some ⟨g1,0,none⟩) 64 cap0)).run prog w'=.ok (.string ⟨(hexL l).toArray⟩) w':=fun w' hx'=>by
    have h:=run_convert_bytes_back w' 22 9 5 ⟨g1,0,none⟩ cap0 (hexL l) underlying22 (by kernel_rfl) underlying9 (fun j hj=>by
     rw [show (⟨g1,0,none⟩:Addr).add j=⟨g1,j,none⟩ from by unfold Addr.add;split <;> simp_all];have h1:=hcl j (bv (hexL l)[j]) (by rw [List.getElem?_map,List.getElem?_eq_getElem hj];rfl)
     exact (hx'.cell (lt_of_cell h1)).trans h1)
    rw [hexL_len,hl] at h;exact h
   have hcw:=hcv wr (Ext.refl wr);clear hcv hcl ho hx e;go_wp2_with fail;go_ret;exact ⟨rfl,HX0.out.trans HX.out⟩
end
section
open Go.RowKit
theorem refBeside_any (p b:ByteArray) (w:World) (hs:p.size+b.size<9223372036854775807) :
  Calls prog 176 #[.string p,.string b] w fun e w'=>e=.returned (.string (besideS p b))/\w'=w:=by
 unfold besideS
 cases h:p.toList.isEmpty
 ·go_enter func176,ntmps176;go_wp2_with fail;go_ret;exact ⟨rfl,rfl⟩
 ·go_enter func176,ntmps176;go_wp2_with fail;go_ret;exact ⟨rfl,rfl⟩
set_option maxHeartbeats 1000000 in
set_option maxRecDepth 100000 in
theorem refTemp_any (p:ByteArray) (w:World) (hs:p.size<4294967281) :
  Calls prog 111 #[.string p] w fun e w'=>e=.returned (.tuple #[.string (tempR p),.bool (mayB p)])/\Ext w w':=by
 have HM:=lh (refMay_any p w hs);have h160:mayB p=true->p.size<=160:=fun h=>by unfold mayB at h;simp at h;exact h.1.1
 unfold tempR
 have hp0:mayB p=true->0<p.size:=fun h=>by
  rcases Nat.eq_zero_or_pos p.size with h0 | h0
  ·have e:p=⟨#[]⟩:=ba_ext (List.length_eq_zero_iff.1 (by rw [len_toList];exact h0) |>.trans (toList_mk []).symm);rw [e] at h;exact absurd h (by decide +kernel)
  ·exact h0
 cases hb:mayB p
 ·rw [hb] at HM;clear hb h160 hp0;go_enter func111,ntmps111;go_wp2_with fail;refine HM.out.mono ?_;rintro e w1 ⟨rfl,x1⟩;go_wp2_with fail;go_ret2;exact ⟨rfl,x1⟩
 ·rw [hb] at HM
  replace h160:=h160 hb
  replace hp0:=hp0 hb
  have HLA:=fun w=>lh (last_any p w (by omega));have HAH:=fun w=>lh (ahead_any p w (by omega));have hbl:=baseS_le p;have hpar:=parentS_le p;have HSUM:=fun v w hv hz=>lh (rsum_any p.toList v w hv hz (by rw [len_toList];omega));have HTX:=fun w=>lh (rtext_any (shaL p.toList) (shaL_len _) w);have HFIN:=lh (show besideS (parentS p) (⟨#[126,116,126]⟩++(baseS p).extract 0 (min ((baseS p).size:Int) 12).toNat++hex8 p)=tempS p from rfl);have hx64:(⟨(hexL (shaL p.toList)).toArray⟩:ByteArray).size=64:=by rw [size_mk,List.size_toArray,hexL_len,shaL_len]
  unfold hex8 at HFIN;have hsz:=hArr_size (shaL p.toList) 32 (shaL_len _) (by omega);have hone:=hArr_one (shaL p.toList) 32;unfold hashV at HSUM HTX;generalize parentS p=P at *;generalize baseS p=b at *;generalize shaL p.toList=sm at *;generalize (⟨(hexL sm).toArray⟩:ByteArray)=hx at *;generalize hArr sm 32=H at *;have HX64:=lh hx64;have HSZ:=lh hsz;have HONE:=lh hone;have h64:8<=hx.size:=by omega
  have h65:hx.size<=64:=by omega
  clear hx64 hsz hone;obtain ⟨c,hc⟩:∃ c,c=b.extract 0 (min (b.size:Int) 12).toNat:=⟨_,rfl⟩;rw [<-hc] at HFIN;have hcs:c.size<=12:=by rw [hc];simp;omega
  by_cases h12:b.size>12
  ·have hc12:b.extract 0 12=c:=by rw [hc,show (min (b.size:Int) 12).toNat=12 from by omega]
   clear hc;go_enter func111,ntmps111;go_wp2_with fail;refine HM.out.mono ?_;rintro e w1 ⟨rfl,x1⟩;go_wp2_with fail;refine (HLA _).out.mono ?_;rintro e w2 ⟨rfl,x2⟩;have X2:=lh (x1.trans x2);obtain ⟨v,w3,hcv,hbo,x3⟩:=conv_bytes p w2 (by omega);have X3:=lh (X2.out.trans x3);have HBO:=lh hbo;clear hbo x3 x1 x2;go_wp2_with fail
   refine (HSUM _ _ HBO.out (fun cap e=>by
    obtain ⟨a,cp,e1,_⟩:=HBO.out;rw [e1] at e;injection e with _ e2
    rw [len_toList] at e2
    omega)).out.mono ?_
   rintro e w4 ⟨rfl,x4⟩;have X4:=lh (X3.out.trans x4);clear x4 hcv
   go_wp2_with (first
    | (refine wpList_storeT rfl _ _ _ rfl w4.heap.size H rfl rfl 45 _ (heap_alloc_new w4 _) (by rw [HSZ.out];kernel_rfl) (by rw [HSZ.out];rfl) HONE.out ?_;intro w6 hb6 ht6;have HB6:=lh hb6;have X6:=lh (ht6.fresh (X4.out.alloc _) X4.out.size);clear hb6 ht6;go_frame)
    | (refine wpList_load_row rfl _ _ rfl w4.heap.size rfl 45 H (0,0) _ HB6.out underlying45 rfl (by rw [HSZ.out];kernel_rfl) ?_;go_frame))
   refine (HTX _).out.mono ?_;rintro e w5 ⟨rfl,x5⟩;have X5:=lh (X6.out.trans x5);clear x5;have HBS:=fun w=>lh (refBeside_any P (⟨#[126,116,126]⟩++c++hx.extract 0 8) w (by simp [size_mk];omega));go_wp2_with fail;refine wp_region_after (by kernel_rfl) (by kernel_rfl) ?_
   repeat (go_big_quiet_step (first | (go_at_call 104;exact After.of (HAH _).out) | (go_at_call 176;exact After.same (HBS _).out)))
   refine wpQuiet_nil ?_;rintro _ ⟨y,rfl⟩;have HY:=lh y.x;go_wp2_with fail;go_ret2;exact ⟨ret_strb HFIN.out,X5.out.trans HY.out⟩
  ·have hcb:c=b:=by rw [hc,show (min (b.size:Int) 12).toNat=b.size from by omega,ByteArray.extract_zero_size]
   clear hc;subst hcb;go_enter func111,ntmps111;go_wp2_with fail;refine HM.out.mono ?_;rintro e w1 ⟨rfl,x1⟩;go_wp2_with fail;refine (HLA _).out.mono ?_;rintro e w2 ⟨rfl,x2⟩;have X2:=lh (x1.trans x2);obtain ⟨v,w3,hcv,hbo,x3⟩:=conv_bytes p w2 (by omega);have X3:=lh (X2.out.trans x3);have HBO:=lh hbo;clear hbo x3 x1 x2;go_wp2_with fail
   refine (HSUM _ _ HBO.out (fun cap e=>by
    obtain ⟨a,cp,e1,_⟩:=HBO.out;rw [e1] at e;injection e with _ e2
    rw [len_toList] at e2
    omega)).out.mono ?_
   rintro e w4 ⟨rfl,x4⟩;have X4:=lh (X3.out.trans x4);clear x4 hcv
   go_wp2_with (first
    | (refine wpList_storeT rfl _ _ _ rfl w4.heap.size H rfl rfl 45 _ (heap_alloc_new w4 _) (by rw [HSZ.out];kernel_rfl) (by rw [HSZ.out];rfl) HONE.out ?_;intro w6 hb6 ht6;have HB6:=lh hb6;have X6:=lh (ht6.fresh (X4.out.alloc _) X4.out.size);clear hb6 ht6;go_frame)
    | (refine wpList_load_row rfl _ _ rfl w4.heap.size rfl 45 H (0,0) _ HB6.out underlying45 rfl (by rw [HSZ.out];kernel_rfl) ?_;go_frame))
   refine (HTX _).out.mono ?_;rintro e w5 ⟨rfl,x5⟩;have X5:=lh (X6.out.trans x5);clear x5;have HBS:=fun w=>lh (refBeside_any P (⟨#[126,116,126]⟩++c++hx.extract 0 8) w (by simp [size_mk];omega));go_wp2_with fail;refine wp_region_after (by kernel_rfl) (by kernel_rfl) ?_
   repeat (go_big_quiet_step (first | (go_at_call 104;exact After.of (HAH _).out) | (go_at_call 176;exact After.same (HBS _).out)))
   refine wpQuiet_nil ?_;rintro _ ⟨y,rfl⟩;have HY:=lh y.x;go_wp2_with fail;go_ret2;exact ⟨ret_strb HFIN.out,X5.out.trans HY.out⟩
end
end Go.Proofs.YtldppmjjgljinaaGreatDoor
