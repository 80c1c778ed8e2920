import Derived.Test.YtodickpibbbiiaaGreatDoorWfF2
import Derived.Test.YtodickpibbbiiaaGreatDoorWfB1
import Derived.Test.YtodickpibbbiiaaGreatDoorWfA1
import Derived.Test.YtodickpibbbiiaaGreatDoorWfF1
import Derived.Test.YtodickpibbbiiaaGreatDoorWfE1
import Derived.Test.YtodickpibbbiiaaGreatDoorWfE2
import Derived.Test.YtodickpibbbiiaaGreatDoorWfC3
import Derived.Deep.RegionHeldLaw
open Go.Proofs.Tryz
namespace Go.Proofs.YtodickpibbbiiaaGreatDoor
section
open Go.RowKit
set_option maxRecDepth 100000 in
set_option maxHeartbeats 2000000 in
theorem rsize05_any (n:Int) (w:World) (hlo:-9223372036854775808<=n) (hhi:n<=9223372036854775807) :
  Calls prog 156 #[.int .i64 n] w fun e w'=>e=.returned (.int .i64 (sizeZ n))/\Ext w w':=by
 have HS:=lh (show sizeZ n=if n<0\/4096<n then (0:Int) else ((sizeN n.toNat:Nat):Int) from rfl);generalize sizeZ n=S at *;by_cases h1:n<0
 ·have d1:decide (n<0)=true:=decide_eq_true h1;have HR:=lh (HS.out.trans (if_pos (.inl h1)));go_enter func156,ntmps156;go_wp2_with fail;go_ret;exact ⟨ret_int HR.out.symm,Ext.refl w⟩
 ·have d1:decide (n<0)=false:=decide_eq_false h1;by_cases h2:4096<n
  ·have d2:decide (4096<n)=true:=decide_eq_true h2;have HR:=lh (HS.out.trans (if_pos (.inr h2)));go_enter func156,ntmps156;go_wp2_with fail;go_ret;exact ⟨ret_int HR.out.symm,Ext.refl w⟩
  ·have d2:decide (4096<n)=false:=decide_eq_false h2;have HR:=lh (HS.out.trans (if_neg (by omega)));obtain ⟨m,rfl⟩:∃ m:Nat,n=(m:Int):=⟨n.toNat,by omega⟩;have hm:m<=4096:=by omega
   have hsp:=lh (sizeN_spec m);have HR2:=lh (show S=(sizeN m:Nat) from by rw [HR.out];simp);generalize sizeN m=z at *;clear HR HS h1 h2 hlo hhi;have HB:=lh (block_alloc_new w (.cells #[.int .i64 16,.int .i64 32,.int .i64 64,.int .i64 128,.int .i64 256] 3 (0,0)));have X1:=lh ((Ext.refl w).alloc (.cells #[.int .i64 16,.int .i64 32,.int .i64 64,.int .i64 128,.int .i64 256] 3 (0,0)));go_enter func156,ntmps156;go_wp2_with fail;generalize w.alloc (.cells #[.int .i64 16,.int .i64 32,.int .i64 64,.int .i64 128,.int .i64 256] 3 (0,0))=w1 at *;go_loopw [4] (fun iv wr=>Hid (∃ i:Nat,i<=3/\iv=.int .i64 i/\wr=w1/\(1<=i->512<m)/\(2<=i->1024<m)/\(3<=i->2048<m))) (fun iv _=>5 - (intOf iv).toNat)
   case atStart=>exact ⟨0,by omega,rfl,rfl,by omega,by omega,by omega⟩
   case round =>
    obtain ⟨i,hi,rfl,rfl,k1,k2,k3⟩:=hrel.out;clear hrel;have b0:wr.cell? ⟨w.heap.size,0,none⟩=some (.int .i64 16):=cellB HB.out;have b1:wr.cell? ⟨w.heap.size,1,none⟩=some (.int .i64 32):=cellB HB.out;have b2:wr.cell? ⟨w.heap.size,2,none⟩=some (.int .i64 64):=cellB HB.out;have b3:wr.cell? ⟨w.heap.size,3,none⟩=some (.int .i64 128):=cellB HB.out;obtain rfl | rfl | rfl | rfl:i=0\/i=1\/i=2\/i=3:=by omega
    ·by_cases hle:m<=512
     ·have g1:decide ((m:Int)<=512)=true:=by rw [decide_eq_true_eq];omega
      have HE:=lh (show S=16 from by have:=hsp.out;rw [HR2.out];omega);go_wp2_with fail;go_ret;exact ⟨ret_int HE.out.symm,X1.out⟩
     ·have g1:decide ((m:Int)<=512)=false:=by rw [decide_eq_false_iff_not];omega
      go_wp2_with fail;go_roundw
      case rel=>exact ⟨1,by omega,by go_num,trivial,by omega,by omega,by omega⟩
      case measure=>simp [intOf]
    ·by_cases hle:m<=1024
     ·have g1:decide ((m:Int)<=1024)=true:=by rw [decide_eq_true_eq];omega
      have HE:=lh (show S=32 from by have:=hsp.out;rw [HR2.out];omega);go_wp2_with fail;go_ret;exact ⟨ret_int HE.out.symm,X1.out⟩
     ·have g1:decide ((m:Int)<=1024)=false:=by rw [decide_eq_false_iff_not];omega
      go_wp2_with fail;go_roundw
      case rel=>exact ⟨2,by omega,by go_num,trivial,by omega,by omega,by omega⟩
      case measure=>simp [intOf]
    ·by_cases hle:m<=2048
     ·have g1:decide ((m:Int)<=2048)=true:=by rw [decide_eq_true_eq];omega
      have HE:=lh (show S=64 from by have:=hsp.out;rw [HR2.out];omega);go_wp2_with fail;go_ret;exact ⟨ret_int HE.out.symm,X1.out⟩
     ·have g1:decide ((m:Int)<=2048)=false:=by rw [decide_eq_false_iff_not];omega
      go_wp2_with fail;go_roundw
      case rel=>exact ⟨3,by omega,by go_num,trivial,by omega,by omega,by omega⟩
      case measure=>simp [intOf]
    ·have g1:decide ((m:Int)<=4096)=true:=by rw [decide_eq_true_eq];omega
     have HE:=lh (show S=128 from by have:=hsp.out;rw [HR2.out];omega);go_wp2_with fail;go_ret;exact ⟨ret_int HE.out.symm,X1.out⟩
theorem elBlk:ElemK prog 306 52 (.slice none 0 0) 1 24:=⟨by kernel_rfl,by kernel_rfl,rfl,by decide,by decide⟩
def BlkB (w:World) (o:Option Nat) (x:Value) (l:List UInt8):Prop :=
 ∃ g cap,x=.slice (some ⟨g,0,none⟩) l.length cap/\l.length<=cap/\cap<=maxLen/\g<w.heap.size/\o≠some g/\∀ (j:Nat) y,l[j]?=some y->w.cell? ⟨g,j,none⟩=some (bv y)
theorem BlkB.ext {w w':World} {o:Option Nat} {x:Value} {l:List UInt8} (h:BlkB w o x l) (k:Ext w w'):BlkB w' o x l:=by
 obtain ⟨g,cap,h1,h2,h3,h4,h5,h6⟩:=h;exact ⟨g,cap,h1,h2,h3,Nat.lt_of_lt_of_le h4 k.size,h5,fun j y hy=>(k.cell h4).trans (h6 j y hy)⟩
theorem BlkB.grown {w w':World} {o o':Option Nat} {x:Value} {l:List UInt8} (h:BlkB w o x l) (k:w.grownBy w' o) (ho:o'=o\/o'=some w.heap.size):BlkB w' o' x l:=by
 obtain ⟨g,cap,h1,h2,h3,h4,h5,h6⟩:=h;refine ⟨g,cap,h1,h2,h3,Nat.lt_of_lt_of_le h4 k.size,?_,fun j y hy=>?_⟩
 ·rcases ho with rfl | rfl
  ·exact h5
  ·exact fun e=>by have:=Option.some.inj e;omega
 ·exact (World.cell?_of_block (k.block g h4 fun e=>h5 e.symm)).trans (h6 j y hy)
theorem BlkB.off {w:World} {o:Option Nat} {x:Value} {l:List UInt8} (h:BlkB w o x l):BytesOff w.heap.size w x l:=by
 obtain ⟨g,cap,h1,h2,h3,h4,h5,h6⟩:=h;exact ⟨_,cap,h1,h2,h3,fun _=>⟨g,0,rfl,by omega,h4,fun j y hy=>by rw [Nat.zero_add];exact h6 j y hy⟩⟩
theorem BlkB.some {w:World} {o:Option Nat} {x:Value} {l:List UInt8} (h:BlkB w o x l):∀ cap,x=.slice none 0 cap->cap=0:=by
 obtain ⟨g,cap,h1,_⟩:=h;intro c e;rw [h1] at e
 cases e
def BksAt (w0:World) (l:List UInt8) (k:Nat) (v:Value) (wr:World):Prop :=
 ∃ vs:List Value,vs.length=k/\wr.ownsRow w0.heap.size 52 1 v k vs/\Ext w0 wr/\∀ (i:Nat) x,vs[i]?=some x->BlkB wr v.ownBlock x (partL l i)
set_option maxRecDepth 100000 in
set_option maxHeartbeats 2000000 in
theorem rblocks05_any (l:List UInt8) (v:Value) (w:World) (hv:BytesOff w.heap.size w v l) (hl:l.length<=4096) :
  Calls prog 223 #[v] w fun e w'=>∃ u,e=.returned u/\Hid (BksAt w l (countN l.length) u w'):=by
 have HC:=lh (rsize05_any (l.length:Int) w (by omega) (by omega));rw [show sizeZ (l.length:Int)=(sizeN l.length:Nat) from by unfold sizeZ;rw [if_neg (by omega)];simp] at HC;have HPL:=lh (fun i=>part_len l i);have HP:=lh (fun i=>show partL l i=(l.drop (i*sizeN l.length)).take (sizeN l.length) from rfl);have HSP:=lh (sizeN_spec l.length);have HCS:=lh (fun i=>count_spec l.length i);have hc32:=count_le hl;obtain ⟨a,cap,rfl,h1,h2,h3⟩:=hv;unfold maxLen at h2;have HV:=lh h3;obtain ⟨n,hn⟩:∃ n,n=l.length:=⟨_,rfl⟩;have HN:=lh hn;rw [<-hn] at HC h1 hl HPL HP HSP HCS HV hc32 ⊢;clear hn h3;generalize countN n=c at *;generalize sizeN n=z at *;have hz:0<z:=by have:=HSP.out;omega
 have hz2:z<=128:=by have:=HSP.out;omega
 have d0:decide (0<(z:Int))=true:=decide_eq_true (by omega);go_enter func223,ntmps223;go_wp2_with fail;refine HC.out.mono ?_;rintro e w1 ⟨rfl,x1⟩;have X1:=lh x1;clear x1 HC;go_wp2_with fail;go_loopw [4,5] (fun lv iv wr=>Hid (∃ k:Nat,k<=c/\iv=.int .i64 (k*z:Nat)/\BksAt w l k lv wr)) (fun _ iv _=>n+z - (intOf iv).toNat)
 case atStart=>exact ⟨0,Nat.zero_le _,by simp,[],rfl,World.ownsRow_nil _ _ _ _,X1.out,fun i x h=>by simp at h⟩
 case round =>
  obtain ⟨k,hk,rfl,vs,hvs,ho,hx,hbs⟩:=hrel.out;clear hrel;have HX:=lh hx;have HO:=lh ho;have HBS:=lh hbs;have HVS:=lh hvs;obtain ⟨oa,ocap,rfl⟩:=rowk_shape ho;have hks:=HCS.out k;have hmul:(k+1)*z=k*z+z:=by rw [Nat.add_mul,Nat.one_mul]
  have HMU:=lh hmul;have HPk:=lh (HPL.out k);have HPd:=lh (HP.out k);clear ho hx hbs hvs hmul;by_cases hlt:k<c
  ·have hlo:=hks.1 hlt;obtain ⟨lo,hlo'⟩:∃ lo,lo=k*z:=⟨_,rfl⟩;rw [<-hlo'] at hlo HMU HPk HPd ⊢;have HLO:=lh hlo';clear hlo' hks;obtain ⟨m,hm⟩:∃ m,m=min z (n - lo):=⟨_,rfl⟩;have hm1:lo+m<=n/\m<=z/\(m=z\/lo+m=n)/\0<m:=by omega
   obtain ⟨g,o,rfl,hg,hgl,hcell⟩:=HV.out (by omega);have HPm:=lh (show (partL l k).length=m from by rw [HPk.out,hm])
   have HCE:=lh (show ∀ (j:Nat) u,((partL l k).map bv)[j]?=some u->wr.cell? ⟨g,o+lo+j,none⟩=some u from fun j u hj=>by
    rw [List.getElem?_map,Option.map_eq_some_iff] at hj;obtain ⟨x,hx,rfl⟩:=hj;have hjm:j<m:=by have:=(List.getElem?_eq_some_iff.1 hx).1;have:=HPm.out;omega
    rw [HPd.out,List.getElem?_take,if_pos (by omega),List.getElem?_drop] at hx;rw [Nat.add_assoc]
    exact (HX.out.cell hgl).trans (hcell _ _ hx))
   have q1:decide ((lo:Int)<(n:Int))=true:=decide_eq_true (by omega);have q2:IntKind.i64.wrap ((lo:Int)+(z:Int))=((lo+z:Nat):Int):=(IntWalk.i64_in _ (by omega)).trans (by omega);have q4:min ((lo+z:Nat):Int) (n:Int)=((lo+m:Nat):Int):=by omega
   have q5:(lo:Int)<=((lo+m:Nat):Int):=by omega
   have q6:((lo+m:Nat):Int)<=(cap:Int):=by omega
   have q7:lo+m - lo=m:=by omega
   have q8:¬ cap=lo:=by omega
   have q9:0<=(lo:Int):=by omega
   have hmz:m<=128:=by omega
   obtain ⟨_,_,hm3,hm0⟩:=hm1;have HM3:=lh hm3;have HLN:=lh hlo;generalize hLM:lo+m=lm at *;generalize hZE:lo+z=ze at *;have HZE:=lh hZE;have hcl:cap - lo<=9223372036854775807:=by omega
   have hmc:m<=cap - lo:=by omega
   clear hm hm3 hcell hlo hg hgl hLM hZE HV;go_wp2_with (at_builtin;refine append_lots elU8 wr.heap.size _ _ _ (World.ownsRow_nil wr wr.heap.size 5 1) (some ⟨g,o+lo,none⟩) m (cap - lo) ((partL l k).map bv) (.tmp 21) (.tmp 30) rfl rfl rfl rfl (by rw [List.length_map];exact HPm.out) (fun e=>by cases e) (fun _=>⟨g,o+lo,rfl,HCE.out⟩) (by intro u hu;obtain ⟨x,_,rfl⟩:=List.mem_map.1 hu;rfl) (by omega) (Nat.le_refl _) ?_);intro v1 w2 hown1 hg1;have X2:=lh (ext_own (Ext.refl wr) (Nat.le_refl _) (World.ownsRow_nil wr wr.heap.size 5 1) hg1);have HO1:=lh (show w2.ownsRow wr.heap.size 5 1 v1 m ((partL l k).map bv) from by simpa using hown1);clear hown1 hg1;obtain ⟨g1,cap1,rfl,e1,e2,e3,e4,e5⟩:=owns_cell HO1.out hm0;have HE1:=lh (And.intro e1 (And.intro e2 (And.intro e3 (And.intro e4 e5))));clear e1 e2 e3 e4 e5;have hs2:=X2.out.size;have hsx:=HX.out.size;have HO2:=lh (owns_ext HO.out (X2.out.alloc (.cells #[.slice (some ⟨g1,0,none⟩) m cap1] 52 (0,0))));go_wp2_with (at_builtin;refine append_kw elBlk w.heap.size _ _ _ HO2.out w2.heap.size [.slice (some ⟨g1,0,none⟩) m cap1] rfl (.tmp 32) (.tmp 34) rfl rfl rfl rfl (fun j u hj=>(cellB (block_alloc_new w2 _)).trans (by simpa using hj)) (by simp [Value.oneCell']) (by omega) (by simp only [size_alloc];omega) ?_);intro v2 w3 ho3 hg3 hir3 hv3;have hv3:v2.ownBlock=(Value.slice oa k ocap).ownBlock\/v2.ownBlock=some (w2.alloc (.cells #[.slice (some ⟨g1,0,none⟩) m cap1] 52 (0,0))).heap.size:=by rw [size_alloc];exact hv3
   have HF:=lh (show BksAt w l (k+1) v2 w3 from by
    refine ⟨vs++[.slice (some ⟨g1,0,none⟩) m cap1],by simp [HVS.out],ho3,grown_extB ((HX.out.trans X2.out).alloc _) (Nat.le_refl _) HO2.out hg3,fun i x hi=>?_⟩;rcases Nat.lt_or_ge i vs.length with hil | hil
    ·rw [List.getElem?_append_left hil] at hi;exact (((HBS.out i x hi).ext X2.out).ext ((Ext.refl w2).alloc _)).grown hg3 hv3
    ·have:i=vs.length:=by have:=(List.getElem?_eq_some_iff.1 hi).1;simp at this;omega
     subst this;rw [List.getElem?_append_right (Nat.le_refl _),Nat.sub_self] at hi;have hi:Value.slice (some ⟨g1,0,none⟩) m cap1=x:=Option.some.inj hi;subst hi;obtain ⟨e1,e2,e3,e4,e5⟩:=HE1.out
     have hb:BlkB w2 (Value.slice oa k ocap).ownBlock (.slice (some ⟨g1,0,none⟩) m cap1) (partL l k):=by
      refine ⟨g1,cap1,by rw [HPm.out],by rw [HPm.out];omega,e2,e3,fun e=>?_,fun j y hy=>e5 j _ (by rw [List.getElem?_map,hy];rfl)⟩;have:=(HO.out.lt _ e).2;omega
     rw [HVS.out]
     exact (hb.ext ((Ext.refl w2).alloc _)).grown hg3 hv3)
   clear ho3 hg3 hir3 hv3;go_wp2_with fail;go_roundw
   case rel=>exact ⟨k+1,by omega,by rw [HMU.out],HF.out⟩
   case measure =>
    have:=HZE.out;have:=HLN.out;simp [intOf] <;> omega
  ·obtain rfl:k=c:=by omega
   have hge:n<=k*z:=by have:=hks.2;omega
   have q1:decide (((k*z:Nat):Int)<(n:Int))=false:=decide_eq_false (by omega);obtain ⟨lo,hlo'⟩:∃ lo,lo=k*z:=⟨_,rfl⟩;rw [<-hlo'] at q1 hge ⊢;have q1b:decide (lo<n)=false:=decide_eq_false (by omega);clear hlo' hks hge HMU HPk HPd HV HP HPL;go_wp2_with fail;go_ret;exact ⟨_,rfl,vs,HVS.out,HO.out,HX.out,HBS.out⟩
set_option maxRecDepth 100000 in
set_option maxHeartbeats 2000000 in
theorem rlist05_any (l:List UInt8) (v:Value) (w:World) (hv:BytesOff w.heap.size w v l) (hl:l.length<=4096) :
  Calls prog 155 #[v] w fun e w'=>∃ u,e=.returned (.tuple #[u,.int .i64 0])/\Hid (w'.ownsRow w.heap.size 54 32 u (countN l.length) (hrow (hashesL l))/\Ext w w'):=by
 have HBl:=lh (rblocks05_any l v w hv hl);have HPL:=lh (fun i=>part_len l i);have hsz:=sizeN_spec l.length;have hc32:=count_le hl;obtain ⟨a,cap,rfl,h1,h2,h3⟩:=hv;unfold maxLen at h2;have HH:=lh (show hashesL l=(List.range (countN l.length)).map fun i=>shaL (partL l i) from rfl);generalize hashesL l=hs at *;obtain ⟨n,hn⟩:∃ n,n=l.length:=⟨_,rfl⟩;rw [<-hn] at HBl h1 hl hc32 HH HPL hsz ⊢;generalize countN n=c at *;have HSZ:=lh (show ∀ i,(partL l i).length<=4096 from fun i=>by rw [HPL.out i];omega);clear h3 hn hsz HPL;have d0:decide (4096<(n:Int))=false:=decide_eq_false (by omega);have d1:decide (4096<n)=false:=decide_eq_false (by omega);go_enter func155,ntmps155;go_wp2_with fail;refine HBl.out.mono ?_;rintro e w1 ⟨u,rfl,hb⟩;obtain ⟨vs,hvs,hob,hxb,hbk⟩:=hb.out;clear hb HBl;obtain ⟨ba,bcap,rfl,b1,b2,b3,b4⟩:=row_cells hob;have HBK:=lh hbk;have HB4:=lh b4;have HVS:=lh hvs;have HXB:=lh hxb;have hs1:=hxb.size;clear hob hbk b4 b3 hvs hxb;go_wp2_with fail;go_loopw [5,6] (fun lv iv wr=>Hid (∃ k:Nat,k<=c/\iv=.int .i64 k/\wr.ownsRow w1.heap.size 54 32 lv k (hrow ((List.range k).map fun i=>shaL (partL l i)))/\Ext w1 wr)) (fun _ iv _=>c - (intOf iv).toNat)
 case atStart=>exact ⟨0,Nat.zero_le _,rfl,World.ownsRow_nil _ _ _ _,Ext.refl _⟩
 case round =>
  obtain ⟨k,hk,rfl,ho,hx⟩:=hrel.out;clear hrel;have HX:=lh hx;have HO:=lh ho;obtain ⟨oa,ocap,rfl⟩:=rowk_shape ho;by_cases hlt:k<c
  ·obtain ⟨x,hxk⟩:∃ x,vs[k]?=some x:=⟨_,List.getElem?_eq_getElem (by have:=HVS.out;omega)⟩;obtain ⟨bg,hba,_,hbl,hbc⟩:=HB4.out k x hxk;have hbx:=((HBK.out k x hxk).ext hx);have hbx2:=hbx;obtain ⟨xg,xcap,rfl,_⟩:=hbx;have HS:=lh (rsum_any (partL l k) _ wr hbx2.off hbx2.some (by have:=HSZ.out k;omega));subst hba;have bc:wr.cell? ⟨bg,k,none⟩=some (.slice (some ⟨xg,0,none⟩) (partL l k).length xcap):=(hx.cell hbl).trans hbc;clear ho hx hbx2 hxk hbl hbc;have hsl:=shaL_len (partL l k);have HR:=lh (show hrow ((List.range (k+1)).map fun i=>shaL (partL l i))=hrow ((List.range k).map fun i=>shaL (partL l i))++(shaL (partL l k)).map bv from by simp [hrow,List.range_succ]);obtain ⟨H,hH⟩:∃ H,H=shaL (partL l k):=⟨_,rfl⟩;rw [<-hH] at HS hsl HR;unfold hashV at HS;clear hH;generalize (partL l k).length=pn at *;obtain ⟨AH,hAH⟩:∃ A,A=hArr H 32:=⟨_,rfl⟩;have HAH:=lh hAH;rw [<-hAH] at HS;clear hAH;go_wp2_with fail;refine HS.out.mono ?_;rintro e w3 ⟨rfl,x3⟩;have HX3:=lh (HX.out.trans x3);have HO3:=lh (owns_ext HO.out x3);clear x3 HS HO HX bc;have hAz:AH.size=32:=by rw [HAH.out];exact hArr_size _ _ hsl (by omega)
   have HBu:=lh (fold_hash hAz);have HAl:=lh (show AH.toList=H.map bv from by rw [HAH.out,hArr_list hsl]);have HI1:=lh (show (prog.info? 54).map (·.size)=some AH.size from by rw [hAz];kernel_rfl);have HI2:=lh (show 32=AH.size from hAz.symm)
   have HI3:=lh (show AH.all (·.oneCell')=true from by
    rw [HAH.out,hArr_list hsl]
    simp [bv,Value.oneCell'])
   go_wp2_with (first
    | (refine wpList_storeT rfl _ _ _ rfl w3.heap.size AH rfl rfl 54 _ (block_alloc_new w3 _) HI1.out HI2.out HI3.out ?_;intro w4 hb4 ht4;have HB4':=lh hb4;have X4:=lh (ht4.fresh ((Ext.refl w3).alloc _) (Nat.le_refl _));clear hb4 ht4;go_frame)
    | (refine wpList_load_row rfl 54 (.tmp 7) rfl w3.heap.size rfl _ AH (0,0) _ HB4'.out underlying54 rfl HI1.out ?_;go_frame)
    | (at_builtin;refine append_k elHash w1.heap.size _ _ _ ((owns_ext HO3.out X4.out).alloc _) w4.heap.size (H.map bv) (by simp [hsl]) (.tmp 24) (.tmp 26) rfl rfl rfl rfl ?c1 ?c2 (by omega) ?c3 ?_))
   case c1 =>
    intro j y hj;have hf:=HBu.out;rw [show Array.replicate 32 (Value.int .u8 0)=#[Value.int .u8 0,Value.int .u8 0,Value.int .u8 0,Value.int .u8 0,Value.int .u8 0,Value.int .u8 0,Value.int .u8 0,Value.int .u8 0,Value.int .u8 0,Value.int .u8 0,Value.int .u8 0,Value.int .u8 0,Value.int .u8 0,Value.int .u8 0,Value.int .u8 0,Value.int .u8 0,Value.int .u8 0,Value.int .u8 0,Value.int .u8 0,Value.int .u8 0,Value.int .u8 0,Value.int .u8 0,Value.int .u8 0,Value.int .u8 0,Value.int .u8 0,Value.int .u8 0,Value.int .u8 0,Value.int .u8 0,Value.int .u8 0,Value.int .u8 0,Value.int .u8 0,Value.int .u8 0] from rfl] at hf;rw [cell_alloc_new rfl,<-hj,<-HAl.out];rw [hAz] at hf;simp [hf]
   case c2 =>
    intro y hy;obtain ⟨z,_,rfl⟩:=List.mem_map.1 hy;rfl
   case c3 =>
    have:=HX3.out.size;have:=X4.out.size;simp;omega
   intro v' w5 hown5 hg5 hrow5;have HF:=lh (show w5.ownsRow w1.heap.size 54 32 v' (k+1) (hrow ((List.range (k+1)).map fun i=>shaL (partL l i)))/\Ext w1 w5 from ⟨by rw [HR.out];exact hown5,grown_extB ((HX3.out.trans X4.out).alloc _) (Nat.le_refl _) ((owns_ext HO3.out X4.out).alloc _) hg5⟩);clear hown5 hg5 hrow5;go_wp2_with fail;go_roundw
   case rel=>exact ⟨k+1,by omega,by go_num,HF.out⟩
   case measure=>simp [intOf] <;> omega
  ·obtain rfl:k=c:=by omega
   have nlt:decide ((k:Int)<(k:Int))=false:=by simp
   clear ho hx;go_wp2_with fail;go_ret2;refine ⟨_,rfl,?_⟩;rw [HH.out];exact ⟨owns_down HO.out HXB.out.size,HXB.out.trans HX.out⟩
end
section
open Go.RowKit
end
section
open Go.RowKit
theorem refIsTemp_any (s:ByteArray) (w:World) (hs:s.size<4294967281) :
  Calls prog 153 #[.string s] w fun e w'=>e=.returned (.bool (isTempB s))/\Ext w w':=by
 have HL:=lh (last_any s w hs);have hb:=baseS_le s;unfold isTempB;generalize baseS s=b at *
 have HP3:=lh (show 3<=b.size->((b.extract 0 3).toList==[126,116,126])=Lib.hasPrefix b.toList [126,116,126] from fun _=>by
  rw [Bool.eq_iff_iff,beq_iff_eq,Lib.hasPrefix,List.isPrefixOf_iff_prefix,List.prefix_iff_eq_take,toList_extract];constructor
  ·intro e;simpa using e.symm
  ·intro e;simpa using e.symm)
 have HP0:=lh (show ¬ 3<=b.size->Lib.hasPrefix b.toList [126,116,126]=false from fun h=>by
  rw [Lib.hasPrefix,Bool.eq_false_iff];intro e;have:=(List.isPrefixOf_iff_prefix.1 e).length_le;rw [len_toList] at this
  simp at this;omega)
 by_cases h3:3<=b.size
 ·have HE:=lh (HP3.out h3);clear HP3 HP0;go_enter func153,ntmps153;go_wp2_with fail;refine HL.out.mono ?_;rintro e w1 ⟨rfl,x1⟩;go_wp2_with fail;go_ret;exact ⟨ret_bool HE.out,x1⟩
 ·have HE:=lh (HP0.out h3);clear HP3 HP0;go_enter func153,ntmps153;go_wp2_with fail;refine HL.out.mono ?_;rintro e w1 ⟨rfl,x1⟩;go_wp2_with fail;go_ret;exact ⟨ret_bool HE.out.symm,x1⟩
end
section
end
section
open Go.RowKit
end
section
open Go.RowKit
end
section
open Go.RowKit
end
section
open Go.RowKit
theorem inRoot_len (r:ByteArray) (l:Nodes) (k:Nat):(inRoot r (l.take k)).length<=k:=by
 unfold inRoot;rw [List.length_map];exact Nat.le_trans (List.length_filter_le _ _) (List.length_take_le _ _)
set_option maxRecDepth 100000 in
set_option maxHeartbeats 4000000 in
theorem rnodes17_any {w:World} {r:Nat} {M I:List Nat} {D:Dk} (h:RkAt w r M I D) (hl:D.live.length<=1048576) (root:ByteArray) (hmr:mayB root=true) (hr:root.size<=160) (hp:∀ x∈D.live,x.1.size<=160) :
  Calls prog 38 #[.pointer (some ⟨r,0,none⟩),.string root] w fun e w'=>∃ v,e=.returned v/\Hid (w'.ownsRow w.heap.size 86 5 v (inRoot root D.live).length (rows5 (inRoot root D.live))/\Ext w w'):=by
 obtain ⟨lt,ls,lv,sv,lg,h,-,-⟩:=h;have c0:w.cell? ⟨r,0,none⟩=some (.pointer (some ⟨lt,0,none⟩)):=cellB h.blk;have hrl:=ltB h.blk;have hT:=h.live;clear h;generalize D.live=l at *;obtain ⟨a,cap,rfl,h1,h2,h3⟩:=hT.shape;have HC:=lh h3;have HCR:=lh c0;have ct0:w.cell? ⟨lt,0,none⟩=some (.slice a l.length cap):=cellB hT.blk;have HCT:=lh ct0;have htl:=ltB hT.blk;have HPS:=lh hp;obtain ⟨n,hn⟩:∃ n,n=l.length:=⟨_,rfl⟩;have HN:=lh hn;rw [<-hn] at h1 hl HCT;clear hT h3 hn c0 ct0 hp;go_enter func38,ntmps38;go_wp2_with fail;go_loopw [5,6] (fun ov iv wr=>Hid (∃ k:Nat,k<=n/\iv=.int .i64 k/\wr.ownsRow w.heap.size 86 5 ov (inRoot root (l.take k)).length (rows5 (inRoot root (l.take k)))/\Ext w wr)) (fun _ iv _=>n - (intOf iv).toNat)
 case atStart=>exact ⟨0,Nat.zero_le _,rfl,World.ownsRow_nil _ _ _ _,Ext.refl _⟩
 case round =>
  obtain ⟨k,hk,rfl,ho,hx⟩:=hrel.out;clear hrel;have HX:=lh hx;have HO:=lh ho;have hsx:=hx.size;have c0:wr.cell? ⟨r,0,none⟩=some (.pointer (some ⟨lt,0,none⟩)):=(hx.cell hrl).trans HCR.out;have ct:wr.cell? ⟨lt,0,none⟩=some (.slice a n cap):=(hx.cell htl).trans HCT.out;by_cases hlt:k<n
  ·obtain ⟨x,hxk⟩:∃ x,l[k]?=some x:=⟨_,List.getElem?_eq_getElem (by have:=HN.out;omega)⟩;obtain ⟨g,rfl,hgl,hc⟩:=HC.out k x hxk;have HLD:=lh (range_ext hc hx hgl);have hps:=HPS.out x (List.mem_of_getElem? hxk);have HNX:=lh (inRoot_next (r:=root) hxk);have HQL:=inRoot_len root l k;obtain ⟨xp,xk,xd,xt,xm⟩:=x;simp only at hps HNX;obtain ⟨oa,ocap,rfl,_⟩:=row5_shape ho;clear ho hx hxk hc;have HNB:=lh (block_alloc_new wr (.cells #[.string xp,.int .i64 xk,.string xd,.string xt,.int .i64 xm] 86 (0,0)));have XNB:=lh ((Ext.refl wr).alloc (.cells #[.string xp,.int .i64 xk,.string xd,.string xt,.int .i64 xm] 86 (0,0)))
   go_wp2_with (first
    | (refine wpList_load_at rfl 86 (.tmp 28) rfl g (k*5) rfl #[.string xp,.int .i64 xk,.string xd,.string xt,.int .i64 xm] _ HLD.out underlying86 rfl (by kernel_rfl) ?_;go_frame))
   obtain ⟨wa,hwa⟩:∃ x,x=wr.alloc (.cells #[.string xp,.int .i64 xk,.string xd,.string xt,.int .i64 xm] 86 (0,0)):=⟨_,rfl⟩;rw [<-hwa] at HNB XNB ⊢;clear hwa c0 ct;have hs1:=XNB.out.size
   cases hw:withinB xp root with
   | false =>
    rw [hw] at HNX;have HWi:=lh (refWithin_any xp root wa (by omega) (by omega));rw [hw] at HWi;refine HWi.out.mono ?_;rintro e w1 ⟨rfl,x1⟩
    have HR:=lh (show w1.ownsRow w.heap.size 86 5 (.slice oa (inRoot root (l.take k)).length ocap) (inRoot root (l.take (k+1))).length (rows5 (inRoot root (l.take (k+1))))/\Ext w w1 from by
     rw [HNX.out,if_neg (by simp),List.append_nil]
     exact ⟨owns_ext HO.out (XNB.out.trans x1),(HX.out.trans XNB.out).trans x1⟩)
    clear x1;go_wp2_with fail;go_roundw
    case rel=>exact ⟨k+1,by omega,by go_num,HR.out.1,HR.out.2⟩
    case measure=>simp [intOf] <;> omega
   | true =>
    rw [hw,if_pos rfl] at HNX;have HWi:=lh (refWithin_any xp root wa (by omega) (by omega));rw [hw] at HWi;have hsz:=within_more hmr hw;refine HWi.out.mono ?_;rintro e w1 ⟨rfl,x1⟩;have HNB1:=lh ((x1.block (ltB HNB.out)).trans HNB.out);have XX:=lh ((HX.out.trans XNB.out).trans x1);have HO1:=lh (owns_ext HO.out (XNB.out.trans x1));have hlt1:=ltB HNB1.out;have hsx1:=XX.out.size;clear x1;obtain ⟨q,hq⟩:∃ q,q=inRoot root (l.take k):=⟨_,rfl⟩;rw [<-hq] at HNX HQL HO HO1 ⊢;clear hq hw;obtain ⟨rp,hrp⟩:∃ rp,rp=relS root xp:=⟨_,rfl⟩;have e1:xp.extract (root.size+1) xp.size=rp:=hrp.symm;rw [<-hrp] at HNX;clear hrp;have m1:(0:Int)<=(root.size:Int)+1:=by omega
    have m2:(root.size:Int)+1<=(xp.size:Int):=by omega
    have m3:((root.size:Int)+1).toNat=root.size+1:=by omega
    have e2:xp.extract (IntKind.i64.wrap ((root.size:Int)+1)).toNat xp.size=rp:=by rw [IntWalk.i64_in _ (by omega),m3,e1]
    have e3:xp.extract ((root.size:Int)+1).toNat xp.size=rp:=by rw [m3,e1]
    have m4:IntKind.i64.wrap ((root.size:Int)+1)=(root.size:Int)+1:=IntWalk.i64_in _ (by omega);have b0:w1.cell? ⟨wr.heap.size,0,none⟩=some (.string xp):=cellB HNB1.out;have b1:w1.cell? ⟨wr.heap.size,1,none⟩=some (.int .i64 xk):=cellB HNB1.out;have b2:w1.cell? ⟨wr.heap.size,2,none⟩=some (.string xd):=cellB HNB1.out;have b3:w1.cell? ⟨wr.heap.size,3,none⟩=some (.string xt):=cellB HNB1.out;have b4:w1.cell? ⟨wr.heap.size,4,none⟩=some (.int .i64 xm):=cellB HNB1.out;have HB:=lh (show (w1.drew.alloc (.cells #[.string rp,.int .i64 xk,.string xd,.string xt,.int .i64 xm] 86)).heap[wr.heap.size]?=some (.cells #[.string xp,.int .i64 xk,.string xd,.string xt,.int .i64 xm] 86 (0,0)) from (((Ext.refl _).drew.alloc _).block hlt1).trans HNB1.out);go_wp2_with fail
    go_region_held_law (fun w'=>w'.cell? ⟨wr.heap.size,0,none⟩=some (.string xp)/\w'.cell? ⟨wr.heap.size,1,none⟩=some (.int .i64 xk)/\w'.cell? ⟨wr.heap.size,2,none⟩=some (.string xd)/\w'.cell? ⟨wr.heap.size,3,none⟩=some (.string xt)/\w'.cell? ⟨wr.heap.size,4,none⟩=some (.int .i64 xm)) (go_keep)
     ((refine step_append_k elAt w.heap.size (.slice oa q.length ocap) q.length (rows5 q) (owns_ext HO1.out ?_) w1.heap.size [.string rp,.int .i64 xk,.string xd,.string xt,.int .i64 xm] rfl (.tmp 34) (.tmp 44) rfl rfl ?_ ?_ ?_ ?_ ?_ ?_ ?_
       ·repeat (first | exact Ext.refl _ | refine Ext.alloc ?_ _ | refine Ext.drew ?_)
       ·simp [Act.eval]
       ·simp [Act.eval]
       ·intro j u hj;exact (cellB (heap_new_drew rfl)).trans (by simpa using hj)
       ·intro u hu;simp only [List.mem_cons,List.not_mem_nil,or_false] at hu;rcases hu with rfl | rfl | rfl | rfl | rfl <;> rfl
       ·omega
       ·simp;omega
       intro v' w3 hown3 hgr3 hrow3 hwh3;obtain ⟨g3,cap3,rfl,_⟩:=hrow3;have hb3:=(hgr3.block wr.heap.size (by simp;omega) (fun e=>by have:=(HO1.out.lt _ e.symm).1;have:=own_lt HO.out _ e.symm;omega)).trans HB.out;have k0:w3.cell? ⟨wr.heap.size,0,none⟩=some (.string xp):=cellB hb3;have k1:w3.cell? ⟨wr.heap.size,1,none⟩=some (.int .i64 xk):=cellB hb3;have k2:w3.cell? ⟨wr.heap.size,2,none⟩=some (.string xd):=cellB hb3;have k3:w3.cell? ⟨wr.heap.size,3,none⟩=some (.string xt):=cellB hb3;have k4:w3.cell? ⟨wr.heap.size,4,none⟩=some (.int .i64 xm):=cellB hb3;have HR:=lh (show w3.ownsRow w.heap.size 86 5 _ (inRoot root (l.take (k+1))).length (rows5 (inRoot root (l.take (k+1))))/\Ext w w3 from ⟨by rw [HNX.out,List.length_append,rows5_snoc];exact hown3,grown_extB ((XX.out.drew).alloc _) (Nat.le_refl _) (owns_ext HO1.out ((Ext.refl _).drew.alloc _)) hgr3⟩)
       clear hwh3 hown3 hgr3 hb3))
    all_goals
     go_wp2_with fail;go_roundw
     case rel=>exact ⟨k+1,by omega,by go_num,HR.out.1,HR.out.2⟩
     case measure=>simp [intOf] <;> omega
  ·obtain rfl:k=n:=by omega
   have nlt:decide ((k:Int)<(k:Int))=false:=by simp
   have HTK:=lh (show l.take k=l from by rw [HN.out,List.take_length]);clear ho hx;go_wp2_with fail;go_ret;have h1:=HO.out;rw [HTK.out] at h1;exact ⟨_,rfl,h1,HX.out⟩
def whyZ (ig:ByteArray->Bool) (x:ByteArray×Nd):Int:=if isTempB x.1 then 1 else if ig x.1 then 2 else if badN x.2 then 3 else 0
def RPatAs (w:World) (pv:Value) (ig:ByteArray->Bool):Prop :=
 ∀ (w':World) (p:ByteArray),Ext w w'->p.size<=160->Calls prog 154 #[pv,.string p] w' fun e w''=>∃ b,e=.returned (.tuple #[.bool (ig p),.bool b])/\Ext w' w''
theorem RPatAs.ext {w w':World} {pv:Value} {ig:ByteArray->Bool} (h:RPatAs w pv ig) (x:Ext w w'):RPatAs w' pv ig:=fun w2 p x2 hp=>h w2 p (x.trans x2) hp
set_option maxRecDepth 100000 in
set_option maxHeartbeats 1000000 in
theorem rwhy17_any {w:World} {pv:Value} {ig:ByteArray->Bool} (H:RPatAs w pv ig) (x:ByteArray×Nd) (hx:x.1.size<=160) (hd:x.2.data.size<=1048576) :
  Calls prog 85 #[.agg (cells5 x).toArray,pv] w fun e w'=>e=.returned (.int .i64 (whyZ ig x))/\Ext w w':=by
 have HT:=fun w=>lh (refIsTemp_any x.1 w (by omega));have HI:=fun w' (k:Ext w w')=>lh (H w' x.1 k hx);have HW:=lh (show whyZ ig x=if isTempB x.1 then 1 else if ig x.1 then 2 else if decide (x.2.kind=1)&&decide (4096<x.2.data.size) then 3 else 0 from rfl);generalize whyZ ig x=Z at *;generalize ig x.1=ib at *;obtain ⟨p,nk,nd,nt,nm⟩:=x;simp only at *;generalize isTempB p=tb at *;have HB:=lh (block_alloc_new w (.cells #[.string p,.int .i64 nk,.string nd,.string nt,.int .i64 nm] 86 (0,0)));have X1:=lh ((Ext.refl w).alloc (.cells #[.string p,.int .i64 nk,.string nd,.string nt,.int .i64 nm] 86 (0,0)));unfold cells5;dsimp only
 cases tb with
 | true =>
  have HZ:=lh (show Z=1 from HW.out);clear HW;go_enter func85,ntmps85;go_wp2_with fail;refine (HT _).out.mono ?_;rintro e w1 ⟨rfl,x1⟩;go_wp2_with fail;go_ret;exact ⟨by rw [HZ.out];rfl,X1.out.trans x1⟩
 | false =>
  cases ib with
  | true =>
   have HZ:=lh (show Z=2 from HW.out);clear HW;go_enter func85,ntmps85;go_wp2_with fail;refine (HT _).out.mono ?_;rintro e w1 ⟨rfl,x1⟩;have n0:=(x1.cell (lt_of_cell (cellB HB.out (k:=0)))).trans (cellB HB.out (k:=0));go_wp2_with fail;refine (HI _ (X1.out.trans x1)).out.mono ?_;rintro e w2 ⟨b,rfl,x2⟩;clear n0;go_wp2_with fail;go_ret;exact ⟨by rw [HZ.out];rfl,(X1.out.trans x1).trans x2⟩
  | false =>
   have HZ:=lh (show Z=if decide (nk=1)&&decide (4096<nd.size) then 3 else 0 from HW.out);clear HW;by_cases hk:nk=1
   ·have gk:decide (nk=1)=true:=decide_eq_true hk;by_cases hd4:4096<nd.size
    ·have gd:decide (4096<(nd.size:Int))=true:=by rw [decide_eq_true_eq];omega
     have HZ2:=lh (show Z=3 from by rw [HZ.out,gk,decide_eq_true hd4];rfl);clear HZ gk;subst hk;go_enter func85,ntmps85;go_wp2_with fail;refine (HT _).out.mono ?_;rintro e w1 ⟨rfl,x1⟩;have HB1:=lh ((x1.block (ltB HB.out)).trans HB.out);have n0:w1.cell? ⟨w.heap.size,0,none⟩=some (.string p):=cellB HB1.out;go_wp2_with fail;refine (HI _ (X1.out.trans x1)).out.mono ?_;rintro e w2 ⟨b,rfl,x2⟩;have HB2:=lh ((x2.block (ltB HB1.out)).trans HB1.out);have n1:w2.cell? ⟨w.heap.size,1,none⟩=some (.int .i64 1):=cellB HB2.out;have n2:w2.cell? ⟨w.heap.size,2,none⟩=some (.string nd):=cellB HB2.out;clear n0;go_wp2_with fail;go_ret;exact ⟨by rw [HZ2.out];rfl,(X1.out.trans x1).trans x2⟩
    ·have gd:decide (4096<(nd.size:Int))=false:=by rw [decide_eq_false_iff_not];omega
     have HZ2:=lh (show Z=0 from by rw [HZ.out,gk,decide_eq_false hd4];rfl);clear HZ gk;subst hk;go_enter func85,ntmps85;go_wp2_with fail;refine (HT _).out.mono ?_;rintro e w1 ⟨rfl,x1⟩;have HB1:=lh ((x1.block (ltB HB.out)).trans HB.out);have n0:w1.cell? ⟨w.heap.size,0,none⟩=some (.string p):=cellB HB1.out;go_wp2_with fail;refine (HI _ (X1.out.trans x1)).out.mono ?_;rintro e w2 ⟨b,rfl,x2⟩;have HB2:=lh ((x2.block (ltB HB1.out)).trans HB1.out);have n1:w2.cell? ⟨w.heap.size,1,none⟩=some (.int .i64 1):=cellB HB2.out;have n2:w2.cell? ⟨w.heap.size,2,none⟩=some (.string nd):=cellB HB2.out;clear n0;go_wp2_with fail;go_ret;exact ⟨by rw [HZ2.out];rfl,(X1.out.trans x1).trans x2⟩
   ·have gk:decide (nk=1)=false:=decide_eq_false hk;have gk2:(nk==1)=false:=by rw [beq_eq_false_iff_ne];exact hk
    have HZ2:=lh (show Z=0 from by rw [HZ.out,gk];rfl);clear HZ hk;go_enter func85,ntmps85;go_wp2_with fail;refine (HT _).out.mono ?_;rintro e w1 ⟨rfl,x1⟩;have HB1:=lh ((x1.block (ltB HB.out)).trans HB.out);have n0:w1.cell? ⟨w.heap.size,0,none⟩=some (.string p):=cellB HB1.out;go_wp2_with fail;refine (HI _ (X1.out.trans x1)).out.mono ?_;rintro e w2 ⟨b,rfl,x2⟩;have HB2:=lh ((x2.block (ltB HB1.out)).trans HB1.out);have n1:w2.cell? ⟨w.heap.size,1,none⟩=some (.int .i64 nk):=cellB HB2.out;clear n0;go_wp2_with fail;go_ret;exact ⟨by rw [HZ2.out];rfl,(X1.out.trans x1).trans x2⟩
end
section
open Go.RowKit
set_option maxRecDepth 100000 in
set_option maxHeartbeats 1000000 in
theorem rroot17_any {w:World} {r:Nat} {M I:List Nat} {D:Dk} (h:RkAt w r M I D) (O:DkOk D) (p:ByteArray) (hp:p.size<4294967200) :
  Calls prog 37 #[.pointer (some ⟨r,0,none⟩),.string p] w fun e w'=>e=.returned (.int .i64 (rootE D.live p))/\Ext w w':=by
 have HM:=lh (refMay_any p w (by omega));have HL:=fun w' (x:Ext w w')=>lh (rlist_any (h.ext x) O p hp);have HR:=lh (show rootE D.live p=if mayB p then (listE D.live p).2 else 10 from rfl);clear h O;generalize rootE D.live p=R at *;generalize listE D.live p=L at *
 cases hm:mayB p with
 | false =>
  rw [hm] at HM HR;have HR2:=lh (show R=10 from HR.out);clear HR;go_enter func37,ntmps37;go_wp2_with fail;refine HM.out.mono ?_;rintro e w1 ⟨rfl,x1⟩;go_wp2_with fail;go_ret;exact ⟨by rw [HR2.out];rfl,x1⟩
 | true =>
  rw [hm] at HM HR;have HR2:=lh (show R=L.2 from HR.out);clear HR;obtain ⟨L1,L2⟩:=L;go_enter func37,ntmps37;go_wp2_with fail;refine HM.out.mono ?_;rintro e w1 ⟨rfl,x1⟩;go_wp2_with fail;refine (HL _ x1).out.mono ?_;rintro e w2 ⟨v,rfl,_,x2⟩;go_wp2_with fail;go_ret;exact ⟨by rw [HR2.out];rfl,x1.trans x2⟩
theorem rparse17_any {vf:Value} {fs:List (ByteArray×ByteArray)} {w:World} (hF:FilesIn w vf fs) (hfs:∀ f∈fs,f.1.size<=8000/\f.2.size<=8000) :
  Calls prog 28 #[vf,.string ⟨#[105]⟩] w fun e w'=>∃ pv,e=.returned (.tuple #[pv,.int .i64 (patE (parseL (fsL fs) (⟨#[105]⟩:ByteArray).toList))])/\Hid (Ext w w'/\RPatAs w' pv (patR (parseL (fsL fs) (⟨#[105]⟩:ByteArray).toList))):=by
 have hT:=TextsAt.of_files hF;have hfs':∀ f∈fs,f.2.size<=8192:=fun f hf=>by have:=hfs f hf;omega
 cases hR:parseL (fsL fs) (⟨#[105]⟩:ByteArray).toList with
 | ok ts =>
  refine (refParse_ok hR hT hfs').mono ?_;rintro e w' ⟨u,he,h1,h2⟩;exact ⟨_,he,⟨h2,fun w2 p x hp=>(refMatch_at (by omega) (h1.out.ext x) (parse_fine hR).2).mono fun e w3 ⟨k1,k2⟩=>⟨_,k1,k2⟩⟩⟩
 | error k =>
  refine (refParse_err hR hT hfs').mono ?_;rintro e w' ⟨he,h2⟩;exact ⟨_,he,⟨h2,fun w2 p x hp=>(refMatch_at (w:=w2) (by omega) (rows_nil w2) (fun t ht=>by cases ht)).mono fun e w3 ⟨k1,k2⟩=>⟨false,by rw [k1,matchesL_nil];rfl,k2⟩⟩⟩
end
section
open Go.RowKit Go.Shelf
attribute [local go_sem] Oper.semAt_some
theorem wpList_store1 {P:Program} {ops:Array Oper} {rest:List Oper} {o:Oper} {a:Act} {Q:Exit->Act->World->Prop} {w:World} (hgd:o.guard=none) (ty:TypeId) (x y:Operand) (ho:o.op=.store ty x y)
  (g k:Nat) (v:Value) (hx:a.eval x=.pointer (some ⟨g,k,none⟩)) (hy:a.eval y=v) (hi:(P.info? ty).map (·.size)=some 1) (h1:v.oneCell'=true)
  (cs:Array Value) (t:TypeId) (hg:w.heap[g]?=some (.cells cs t (0,0))) (hk:k<cs.size)
  (h:∀ w1,w1=w.setCell ⟨g,k,none⟩ v->wpList P ops Q rest (a.put o.dst undef) w1):wpList P ops Q (o::rest) a w:=by
 refine wpList_plain hgd fun K hK=>?_;have h2:=hK _ _ (h _ rfl)
 cases hq:P.info? ty with
 | none=>simp [hq] at hi
 | some i =>
  have hs:i.size=1:=by simpa [hq] using hi
  have hc:w.cell? ⟨g,k,none⟩=some cs[k]:=(cellB hg).trans (Array.getElem?_eq_getElem hk);unfold Oper.wp execOp;simp only [ho,hx,hy,Instr.storeAt,Instr.sureAddr,Sem.run_bind,Sem.run_pure,Result.andThen_ok,Lib.rl_storeVar_one ty i hq hs ⟨g,k,none⟩ v cs[k] h1 w hc (frozenB hg)];exact h2
end
section
open Go.RowKit
set_option maxHeartbeats 1000000 in
theorem rlist05_long (l:List UInt8) (v:Value) (b:Nat) (w:World) (hv:BytesOff b w v l) (hl:4096<l.length) :
  Calls prog 155 #[v] w fun e w'=>e=.returned (.tuple #[.slice none 0 0,.int .i64 3])/\w'=w:=by
 obtain ⟨a,cap,rfl,h1,h2,h3⟩:=hv;unfold maxLen at h2;generalize l.length=n at *;clear h3;have d0:decide (4096<(n:Int))=true:=decide_eq_true (by omega);go_enter func155,ntmps155;go_wp2_with fail;go_ret2;exact ⟨rfl,rfl⟩
set_option maxRecDepth 100000 in
set_option maxHeartbeats 4000000 in
theorem ritem17_any (p:ByteArray) (n:Nd) (w:World) (hn:n.data.size<=1048576) :
  Calls prog 86 #[.string p,nv n] w fun e w'=>∃ C x,e=.returned (.tuple #[.agg C,.int .i64 x])/\Hid (ItemIs w.heap.size w' p n C x/\Ext w w'):=by
 obtain ⟨nk,nd,nt,ntm⟩:=n;unfold nv;dsimp only;have hn':nd.size<=1048576:=hn;have HX2:=lh ((((Ext.refl w).alloc (.cells #[.int .i64 nk,.string nd,.string nt,.int .i64 ntm] 84 (0,0))).alloc (.cells rec0 45 (0,0))).alloc (.cells rec0 45 (0,0)));have HZ6:=lh (block_alloc_new ((w.alloc (.cells #[.int .i64 nk,.string nd,.string nt,.int .i64 ntm] 84 (0,0))).alloc (.cells rec0 45 (0,0))) (.cells rec0 45 (0,0)));have HZ4:=lh ((block_alloc_old (o:=.cells rec0 45 (0,0)) (by simp only [size_alloc];omega)).trans (block_alloc_new (w.alloc (.cells #[.int .i64 nk,.string nd,.string nt,.int .i64 ntm] 84 (0,0))) (.cells rec0 45 (0,0))));have HZ3:=lh ((block_alloc_old (o:=.cells rec0 45 (0,0)) (by simp only [size_alloc];omega)).trans ((block_alloc_old (o:=.cells rec0 45 (0,0)) (by simp only [size_alloc];omega)).trans (block_alloc_new w (.cells #[.int .i64 nk,.string nd,.string nt,.int .i64 ntm] 84 (0,0)))));simp only [size_alloc] at HZ6 HZ4;rw [rec0_is] at HX2 HZ6 HZ4 HZ3;have HW:=lh (show ∀ sz bs bl,itemC p ⟨nk,nd,nt,ntm⟩ sz bs bl=#[.string p,.int .i64 nk,.bool false,.int .i64 sz,.int .i64 ntm,.int .i64 0,.int .u32 0,.int .u32 0,.int .u32 0,.int .u32 0,.int .u32 0,.int .u32 0,.int .u32 0,.int .u32 0,.int .u32 0,.int .u32 0,.int .u32 0,.int .u32 0,.int .u32 0,.int .u32 0,.int .u32 0,.int .u32 0,.int .i64 bs,bl,.string nt,.int .i64 0,.int .i64 0] from fun _ _ _=>rfl);generalize hIC:itemC p ⟨nk,nd,nt,ntm⟩=IC at *;have HA1:=lh (show ∀ sz bs bl,(prog.info? 45).map (·.size)=some (IC sz bs bl).size from fun sz bs bl=>by rw [HW.out];kernel_rfl);have HA2:=lh (show ∀ sz bs bl,27=(IC sz bs bl).size from fun sz bs bl=>by rw [HW.out];rfl);have HA3:=lh (show ∀ sz bs a n c,(IC sz bs (.slice a n c)).all (·.oneCell')=true from fun sz bs a n c=>by rw [HW.out];simp [Value.oneCell']);by_cases hk:nk=1
 ·subst hk;have HLl:=lh (len_toList nd);by_cases h4:nd.size<=4096
  ·go_enter func86,ntmps86
   go_wp2_with (first
    | (refine wpList_buildAs (IC 0 0 (.slice none 0 0)) rfl _ _ rfl (by rw [HW.out];kernel_rfl) ?_;go_frame)
    | (refine wpList_storeT rfl _ _ _ rfl (w.heap.size+2) (IC 0 0 (.slice none 0 0)) rfl rfl 45 _ HZ6.out (HA1.out _ _ _) (HA2.out _ _ _) (HA3.out _ _ _ _ _) ?_;intro w6 hb6 ht6;have HB6:=lh hb6;have X6:=lh (ht6.fresh HX2.out (by omega));have HN6:=(ht6.block w.heap.size (ltB HZ3.out) (by intro e;have:=Option.some.inj e;omega)).trans HZ3.out;have HR6:=lh ((ht6.block (w.heap.size+1) (ltB HZ4.out) (by intro e;have:=Option.some.inj e;omega)).trans HZ4.out);have n0:w6.cell? ⟨w.heap.size,0,none⟩=some (.int .i64 1):=cellB HN6;have n2:w6.cell? ⟨w.heap.size,2,none⟩=some (.string nt):=cellB HN6;have n3:w6.cell? ⟨w.heap.size,3,none⟩=some (.int .i64 ntm):=cellB HN6;have n1:w6.cell? ⟨w.heap.size,1,none⟩=some (.string nd):=cellB HN6;obtain ⟨cv,wc,hcv,hbo,xc⟩:=conv_bytes nd w6 hn';have HN:=lh HN6;have HXC:=lh xc;have HBO:=lh hbo;clear xc hbo;clear hb6 ht6 HN6 HZ6 HZ4 HZ3 HX2;go_frame))
   refine (rlist05_any nd.toList cv wc HBO.out (by rw [HLl.out];exact h4)).mono ?_;rintro e w8 ⟨u,rfl,h8⟩;rw [HLl.out] at h8;have H8:=h8;obtain ⟨ua,ucap,rfl⟩:=rowk_shape h8.out.1;have X8:=lh ((X6.out.trans HXC.out).trans h8.out.2);have Y8:=lh (HXC.out.trans h8.out.2);clear h8 hcv;have HN8:=lh ((Y8.out.block (ltB HN.out)).trans HN.out);have HB8:=lh ((Y8.out.block (ltB HB6.out)).trans HB6.out);have HR8:=lh ((Y8.out.block (ltB HR6.out)).trans HR6.out);clear HN HR6 n0 n1 n2 n3;have n1:w8.cell? ⟨w.heap.size,1,none⟩=some (.string nd):=cellB HN8.out;have HL8:=HB8.out;rw [HW.out] at HL8;have c3:w8.cell? ⟨w.heap.size+2,3,none⟩=some (.int .i64 0):=cellB HL8;have c22:w8.cell? ⟨w.heap.size+2,22,none⟩=some (.int .i64 0):=cellB HL8;have c23:w8.cell? ⟨w.heap.size+2,23,none⟩=some (.slice none 0 0):=cellB HL8;have f8:∀ k,w8.frozen? ⟨w.heap.size+2,k,none⟩=false:=fun k=>frozenB HL8;have HSz:=fun w'=>lh (rsize05_any (nd.size:Int) w' (by omega) (by omega));rw [show sizeZ (nd.size:Int)=(sizeN nd.size:Nat) from by unfold sizeZ;rw [if_neg (by omega)];simp] at HSz;clear HL8 c3 c22 c23 f8;obtain ⟨C1,hC1⟩:∃ C,C=(IC 0 0 (.slice none 0 0)).setIfInBounds 23 (.slice ua (countN nd.size) ucap):=⟨_,rfl⟩;obtain ⟨C2,hC2⟩:∃ C,C=C1.setIfInBounds 3 (.int .i64 (nd.size:Nat)):=⟨_,rfl⟩;have HC3:=lh (show C2.setIfInBounds 22 (.int .i64 (sizeN nd.size:Nat))=IC (nd.size:Nat) (sizeN nd.size:Nat) (.slice ua (countN nd.size) ucap) from by rw [hC2,hC1,HW.out,HW.out];rfl);have HS1:=lh (show 3<C1.size from by rw [hC1,Array.size_setIfInBounds,<-HA2.out];decide);have HS2:=lh (show 22<C2.size from by rw [hC2,hC1,Array.size_setIfInBounds,Array.size_setIfInBounds,<-HA2.out];decide);have HS0:=lh (show 23<(IC 0 0 (.slice none 0 0)).size from by rw [<-HA2.out];decide);have HG3:=lh (show C2[3]?=some (.int .i64 (nd.size:Nat)) from by rw [hC2,Array.getElem?_setIfInBounds_self_of_lt HS1.out])
   go_wp2_with (first
    | (refine wpList_store1 rfl _ _ _ rfl (w.heap.size+2) 23 (.slice ua (countN nd.size) ucap) rfl rfl (by kernel_rfl) rfl _ 45 HB8.out HS0.out ?_;intro w9 hw9;have HB9:=lh (show w9.heap[w.heap.size+2]?=some (.cells C1 45 (0,0)) from by rw [hw9,hC1];exact setCellB HB8.out);have HT9:=lh (show Touch (w.heap.size+2) w8 w9 from hw9▸(Touch.of (Ext.refl w8)).setCell _);have n1:w9.cell? ⟨w.heap.size,1,none⟩=some (.string nd):=cellB ((HT9.out.block w.heap.size (ltB HN8.out) (by intro e;have:=Option.some.inj e;omega)).trans HN8.out);clear hw9;go_frame)
    | (refine wpList_store1 rfl _ _ _ rfl (w.heap.size+2) 3 (.int .i64 (nd.size:Nat)) rfl rfl (by kernel_rfl) rfl _ 45 HB9.out HS1.out ?_;intro w10 hw10;have HB10:=lh (show w10.heap[w.heap.size+2]?=some (.cells C2 45 (0,0)) from by rw [hw10,hC2];exact setCellB HB9.out);have HT10:=lh (show Touch (w.heap.size+2) w8 w10 from hw10▸HT9.out.setCell _);have m3:w10.cell? ⟨w.heap.size+2,3,none⟩=some (.int .i64 (nd.size:Nat)):=(cellB HB10.out).trans HG3.out;clear hw10;go_frame))
   refine (HSz _).out.mono ?_;rintro e w11 ⟨rfl,x11⟩;have HB11:=lh ((x11.block (ltB HB10.out)).trans HB10.out);have HT11:=lh (HT10.out.trans (Touch.of x11));clear x11;have HAI:=lh (HA1.out (nd.size:Nat) (sizeN nd.size:Nat) (.slice ua (countN nd.size) ucap))
   go_wp2_with (first
    | (refine wpList_store1 rfl _ _ _ rfl (w.heap.size+2) 22 (.int .i64 (sizeN nd.size:Nat)) rfl rfl (by kernel_rfl) rfl _ 45 HB11.out HS2.out ?_;intro W9 hW9;have HBf:=lh (show W9.heap[w.heap.size+2]?=some (.cells (IC (nd.size:Nat) (sizeN nd.size:Nat) (.slice ua (countN nd.size) ucap)) 45 (0,0)) from by rw [<-HC3.out,hW9];exact setCellB HB11.out);have HTf:=lh (show Touch (w.heap.size+2) w8 W9 from hW9▸HT11.out.setCell _);have HR9:=lh ((HTf.out.block (w.heap.size+1) (ltB HR8.out) (by intro e;have:=Option.some.inj e;omega)).trans HR8.out);have X9:=lh (HTf.out.fresh X8.out (by omega));clear hW9;go_frame)
    | (refine wpList_load_row rfl 45 (.tmp 6) rfl (w.heap.size+2) rfl 45 (IC (nd.size:Nat) (sizeN nd.size:Nat) (.slice ua (countN nd.size) ucap)) (0,0) _ HBf.out underlying45 rfl HAI.out ?_;go_frame)
    | (refine wpList_storeT rfl _ _ _ rfl (w.heap.size+1) (IC (nd.size:Nat) (sizeN nd.size:Nat) (.slice ua (countN nd.size) ucap)) rfl rfl 45 _ HR9.out HAI.out (HA2.out _ _ _) (HA3.out _ _ _ _ _) ?_;intro w7 hb7 ht7;have HB7:=lh hb7;have HT7:=lh ht7;clear hb7 ht7;go_frame))
   have HO9:=lh (show W9.ownsRow (w.heap.size+3) 54 32 (.slice ua (countN nd.size) ucap) (countN nd.size) (hrow (hashesL nd.toList)) from by
    have hlt:=ltB HB6.out;have:=HXC.out.size
    exact owns_down (owns_touch2 H8.out.1 HTf.out (by omega)) (by omega))
   exact bodyPost_ret (results_row1 rfl _ _ (w.heap.size+1) 45 _ (0,0) _ rfl HB7.out underlying45 rfl HAI.out) rfl ⟨_,_,rfl,⟨.inr (.inl ⟨rfl,h4,rfl,_,by rw [<-hIC],owns_down (owns_touch2 HO9.out HT7.out (by omega)) (by omega)⟩),HT7.out.fresh X9.out (by omega)⟩⟩
  ·have h5:4096<nd.size:=by omega
   go_enter func86,ntmps86
   go_wp2_with (first
    | (refine wpList_buildAs (IC 0 0 (.slice none 0 0)) rfl _ _ rfl (by rw [HW.out];kernel_rfl) ?_;go_frame)
    | (refine wpList_storeT rfl _ _ _ rfl (w.heap.size+2) (IC 0 0 (.slice none 0 0)) rfl rfl 45 _ HZ6.out (HA1.out _ _ _) (HA2.out _ _ _) (HA3.out _ _ _ _ _) ?_;intro w6 hb6 ht6;have HB6:=lh hb6;have X6:=lh (ht6.fresh HX2.out (by omega));have HN6:=(ht6.block w.heap.size (ltB HZ3.out) (by intro e;have:=Option.some.inj e;omega)).trans HZ3.out;have HR6:=lh ((ht6.block (w.heap.size+1) (ltB HZ4.out) (by intro e;have:=Option.some.inj e;omega)).trans HZ4.out);have n0:w6.cell? ⟨w.heap.size,0,none⟩=some (.int .i64 1):=cellB HN6;have n2:w6.cell? ⟨w.heap.size,2,none⟩=some (.string nt):=cellB HN6;have n3:w6.cell? ⟨w.heap.size,3,none⟩=some (.int .i64 ntm):=cellB HN6;have n1:w6.cell? ⟨w.heap.size,1,none⟩=some (.string nd):=cellB HN6;obtain ⟨cv,wc,hcv,hbo,xc⟩:=conv_bytes nd w6 hn';have HN:=lh HN6;have HXC:=lh xc;have HBO:=lh hbo;clear xc hbo;clear hb6 ht6 HN6 HZ6 HZ4 HZ3 HX2;go_frame))
   refine (rlist05_long nd.toList cv _ wc HBO.out (by rw [HLl.out];exact h5)).mono ?_;rintro e w8 ⟨rfl,hw8⟩;obtain rfl:=hw8.symm;clear hw8 hcv;have X8:=lh (X6.out.trans HXC.out);have HR8:=lh ((HXC.out.block (ltB HR6.out)).trans HR6.out);have HA02:=lh (show 27=rec0.size from rfl);have HA03:=lh (show rec0.all (·.oneCell')=true from by rw [rec0_is];simp [Value.oneCell']);have HA0:=lh (show (prog.info? 45).map (·.size)=some rec0.size from by rw [rec0_is];kernel_rfl)
   go_wp2_with (first
    | (refine wpList_buildAs rec0 rfl _ _ rfl (by rw [rec0_is];kernel_rfl) ?_;go_frame)
    | (refine wpList_storeT rfl _ _ _ rfl (w.heap.size+1) rec0 rfl rfl 45 _ HR8.out HA0.out HA02.out HA03.out ?_;intro w7 hb7 ht7;have HB7:=lh hb7;have X7:=lh (ht7.fresh X8.out (by omega));clear hb7 ht7;go_frame))
   exact bodyPost_ret (results_row1 rfl _ _ (w.heap.size+1) 45 _ (0,0) _ rfl HB7.out underlying45 rfl HA0.out) rfl ⟨_,_,rfl,⟨  .inr (.inr ⟨rfl,h5,rfl,rfl⟩),X7.out⟩⟩
 ·have dk:decide (nk=1)=false:=decide_eq_false hk;go_enter func86,ntmps86
  go_wp2_with (first
   | (refine wpList_buildAs (IC 0 0 (.slice none 0 0)) rfl _ _ rfl (by rw [HW.out];kernel_rfl) ?_;go_frame)
   | (refine wpList_storeT rfl _ _ _ rfl (w.heap.size+2) (IC 0 0 (.slice none 0 0)) rfl rfl 45 _ HZ6.out (HA1.out _ _ _) (HA2.out _ _ _) (HA3.out _ _ _ _ _) ?_;intro w6 hb6 ht6;have HB6:=lh hb6;have X6:=lh (ht6.fresh HX2.out (by omega));have HN6:=(ht6.block w.heap.size (ltB HZ3.out) (by intro e;have:=Option.some.inj e;omega)).trans HZ3.out;have HR6:=lh ((ht6.block (w.heap.size+1) (ltB HZ4.out) (by intro e;have:=Option.some.inj e;omega)).trans HZ4.out);have n0:w6.cell? ⟨w.heap.size,0,none⟩=some (.int .i64 nk):=cellB HN6;have n2:w6.cell? ⟨w.heap.size,2,none⟩=some (.string nt):=cellB HN6;have n3:w6.cell? ⟨w.heap.size,3,none⟩=some (.int .i64 ntm):=cellB HN6;clear hb6 ht6 HN6 HZ6 HZ4 HZ3 HX2;go_frame)
   | (refine wpList_load_row rfl 45 (.tmp 6) rfl (w.heap.size+2) rfl 45 (IC 0 0 (.slice none 0 0)) (0,0) _ HB6.out underlying45 rfl (HA1.out _ _ _) ?_;go_frame)
   | (refine wpList_storeT rfl _ _ _ rfl (w.heap.size+1) (IC 0 0 (.slice none 0 0)) rfl rfl 45 _ HR6.out (HA1.out _ _ _) (HA2.out _ _ _) (HA3.out _ _ _ _ _) ?_;intro w7 hb7 ht7;have HB7:=lh hb7;have X7:=lh (ht7.fresh X6.out (by omega));clear hb7 ht7;go_frame))
  refine bodyPost_ret (results_row1 rfl _ _ (w.heap.size+1) 45 _ (0,0) _ rfl HB7.out underlying45 rfl (HA1.out _ _ _)) rfl ⟨_,_,rfl,⟨.inl ⟨hk,?_,rfl⟩,X7.out⟩⟩;rw [<-hIC]
end
section
open Go.RowKit
end
section
open Go.RowKit
structure FoundR (n0 b6:Nat) (s:WSt) (w:World) (vs:Nat->Value) (us:List Value):Prop where
 blk:w.heap[b6]?=some (.cells #[vs 0,vs 1,vs 2,vs 3] 67 (0,0))
 row:∀ j,j<4->w.ownsRow n0 (rowOf s us j).1 (rowOf s us j).2.1 (vs j) (rowOf s us j).2.2.1 (rowOf s us j).2.2.2
 nd:∀ i j,i<4->j<4->i≠j->∀ b,(vs i).ownBlock=some b->(vs j).ownBlock≠some b
 len:us.length=s.items.length
 hs:∀ (k:Nat) x u,s.items[k]?=some x->us[k]?=some u->HashU w n0 [] x u
 hd:∀ (k:Nat) u,us[k]?=some u->∀ b,u.ownBlock=some b->∀ j,j<4->(vs j).ownBlock≠some b
 lt:b6<n0
theorem FoundR.below {n0 b6:Nat} {s:WSt} {w:World} {vs:Nat->Value} {us:List Value} (h:FoundR n0 b6 s w vs us) (j:Nat) (hj:j<4) (b:Nat) (hb:(vs j).ownBlock=some b):n0<=b/\b<w.heap.size:=⟨own_ge (h.row j hj) b hb,own_lt (h.row j hj) b hb⟩
theorem FoundR.add {n0 b6:Nat} {s s':WSt} {w w1:World} {vs:Nat->Value} {us us':List Value} {v':Value} {j:Nat} {news:List Value} (h:FoundR n0 b6 s w vs us) (hj:j<4)
  (hr:w1.ownsRow n0 (rowOf s us j).1 (rowOf s us j).2.1 v' ((rowOf s us j).2.2.1+1) ((rowOf s us j).2.2.2++news)) (hg:w.grownBy w1 (vs j).ownBlock) (hw:v'.ownBlock=(vs j).ownBlock\/v'.ownBlock=some w.heap.size)
  (hs':rowOf s' us' j=((rowOf s us j).1,(rowOf s us j).2.1,(rowOf s us j).2.2.1+1,(rowOf s us j).2.2.2++news)) (ho:∀ i,i<4->i≠j->rowOf s' us' i=rowOf s us i) (hlen:us'.length=s'.items.length)
  (hsn:∀ (k:Nat) x u,s'.items[k]?=some x->us'[k]?=some u->HashU w n0 [] x u) (hdn:∀ (k:Nat) u,us'[k]?=some u->∀ b,u.ownBlock=some b->b<w.heap.size/\∀ i,i<4->(vs i).ownBlock≠some b) :
  FoundR n0 b6 s' (w1.setCell ⟨b6,j,none⟩ v') (fun i=>if i=j then v' else vs i) us':=by
 have hsz:w.heap.size<=w1.heap.size:=hg.size;have hb6:b6<w.heap.size:=ltB h.blk;have hvj:=h.below j hj;have hold:∀ b,b<w.heap.size->(vs j).ownBlock≠some b->b≠b6->(w1.setCell ⟨b6,j,none⟩ v').heap[b]?=w.heap[b]?:=fun b hb hn h6=>(setCellO h6).trans (hg.block b hb fun e=>hn e.symm);have h6j:(vs j).ownBlock≠some b6:=fun e=>by have:=(hvj b6 e).1;have:=h.lt;omega
 have hb61:w1.heap[b6]?=some (.cells #[vs 0,vs 1,vs 2,vs 3] 67 (0,0)):=(hg.block b6 hb6 fun e=>h6j e.symm).trans h.blk
 have hv':∀ b,v'.ownBlock=some b->b≠b6/\n0<=b:=fun b hb=>by
  have:=own_ge hr b hb;exact ⟨by have:=h.lt;omega,this⟩
 refine ⟨?_,?_,?_,hlen,?_,?_,h.lt⟩
 ·have h1:=setCellB (k:=j) (u:=v') hb61;refine h1.trans ?_
  match j,hj with
  | 0,_=>rfl
  | 1,_=>rfl
  | 2,_=>rfl
  | 3,_=>rfl
 ·intro i hi;by_cases e:i=j
  ·subst e;rw [hs',if_pos rfl];exact owns_blocks hr fun b hb=>setCellO (hv' b hb).1
  ·rw [ho i hi e,if_neg e];exact owns_blocks (h.row i hi) fun b hb=>hold b (h.below i hi b hb).2 (fun e2=>h.nd j i hj hi (Ne.symm e) b e2 hb) (fun e6=>by have:=(h.below i hi b hb).1;have:=h.lt;omega)
 ·intro i k hi hk hne b hb hb2;by_cases ei:i=j
  ·rw [if_pos ei] at hb;have ek:k≠j:=fun e=>hne (ei.trans e.symm);rw [if_neg ek] at hb2;rcases hw with e | e
   ·rw [hb] at e;exact h.nd j k hj hk (Ne.symm ek) b e.symm hb2
   ·rw [hb] at e;have:=(h.below k hk b hb2).2;have:=Option.some.inj e;omega
  ·rw [if_neg ei] at hb;by_cases ek:k=j
   ·rw [if_pos ek] at hb2;rcases hw with e | e
    ·rw [hb2] at e;exact h.nd j i hj hi (Ne.symm ei) b e.symm hb
    ·rw [hb2] at e;have:=(h.below i hi b hb).2;have:=Option.some.inj e;omega
   ·rw [if_neg ek] at hb2;exact h.nd i k hi hk hne b hb hb2
 ·intro k x u hx hu;rcases hsn k x u hx hu with h1 | ⟨h1,h2,h3,h4⟩
  ·exact .inl h1
  ·refine .inr ⟨h1,h2,owns_blocks h3 fun b hb=>?_,h4⟩;obtain ⟨h5,h6⟩:=hdn k u hu b hb;exact hold b h5 (h6 j hj) (fun e6=>by have:=own_ge h3 b hb;have:=h.lt;omega)
 ·intro k u hu b hb i hi hi2;obtain ⟨h5,h6⟩:=hdn k u hu b hb;by_cases e:i=j
  ·rw [if_pos e] at hi2;rcases hw with e2 | e2
   ·rw [hi2] at e2;exact h6 j hj e2.symm
   ·rw [hi2] at e2;have:=Option.some.inj e2;omega
  ·rw [if_neg e] at hi2;exact h6 i hi hi2
theorem FoundR.kept {n0 b6:Nat} {s:WSt} {w w':World} {vs:Nat->Value} {us:List Value} (h:FoundR n0 b6 s w vs us) (k:∀ b,b<w.heap.size->(∃ c t f,w.heap[b]?=some (.cells c t f))->w'.heap[b]?=w.heap[b]?):FoundR n0 b6 s w' vs us:=by
 have kr:∀ {e:TypeId} {m n:Nat} {v:Value} {xs:List Value},w.ownsRow n0 e m v n xs->∀ b,v.ownBlock=some b->w'.heap[b]?=w.heap[b]?:=fun {e m n v xs} hr b hb=>by
  refine k b (own_lt hr b hb) ?_;rcases hr.2 with ⟨he,_⟩ | ⟨g,cap,cur,he,_,hh,_⟩
  ·rw [he] at hb;simp [Value.ownBlock] at hb
  ·rw [he] at hb;simp [Value.ownBlock] at hb;subst hb;exact ⟨_,_,_,hh⟩
 refine ⟨(k b6 (ltB h.blk) ⟨_,_,_,h.blk⟩).trans h.blk,fun j hj=>owns_blocks (h.row j hj) (kr (h.row j hj)),h.nd,h.len,fun i x u hx hu=>?_,h.hd,h.lt⟩;rcases h.hs i x u hx hu with h1 | ⟨h1,h2,h3,h4⟩
 ·exact .inl h1
 ·exact .inr ⟨h1,h2,owns_blocks h3 (kr h3),h4⟩
theorem FoundR.ext {n0 b6:Nat} {s:WSt} {w w':World} {vs:Nat->Value} {us:List Value} (h:FoundR n0 b6 s w vs us) (x:Ext w w'):FoundR n0 b6 s w' vs us:=h.kept fun _ hb _=>x.block hb
theorem FoundR.addText {n0 b6:Nat} {s:WSt} {w w1:World} {vs:Nat->Value} {us:List Value} {v':Value} {j:Nat} (h:FoundR n0 b6 s w vs us) (h1:1<=j) (hj:j<4) (p:ByteArray)
  (hr:w1.ownsRow n0 9 1 v' ((rowOf s us j).2.2.1+1) ((rowOf s us j).2.2.2++[.string p])) (hg:w.grownBy w1 (vs j).ownBlock) (hw:v'.ownBlock=(vs j).ownBlock\/v'.ownBlock=some w.heap.size) :
  FoundR n0 b6 (addT s p j) (w1.setCell ⟨b6,j,none⟩ v') (fun i=>if i=j then v' else vs i) us:=by
 have hd:∀ (k:Nat) u,us[k]?=some u->∀ b,u.ownBlock=some b->b<w.heap.size/\∀ i,i<4->(vs i).ownBlock≠some b:=fun k u hu b hb=>by
  have hk:k<s.items.length:=by rw [<-h.len];exact (List.getElem?_eq_some_iff.1 hu).1
  exact ⟨((h.hs k _ u (List.getElem?_eq_getElem hk) hu).own b hb).2,h.hd k u hu b hb⟩
 have h3:j=1\/j=2\/j=3:=by omega
 rcases h3 with rfl | rfl | rfl
 ·exact h.add (s':=addT s p 1) (j:=1) (by omega) hr hg hw (by simp [rowOf,addT]) (fun i hi hne=>by rcases (by omega:i=0\/i=2\/i=3) with rfl | rfl | rfl <;> rfl) h.len h.hs hd
 ·exact h.add (s':=addT s p 2) (j:=2) (by omega) hr hg hw (by simp [rowOf,addT]) (fun i hi hne=>by rcases (by omega:i=0\/i=1\/i=3) with rfl | rfl | rfl <;> rfl) h.len h.hs hd
 ·exact h.add (s':=addT s p 3) (j:=3) (by omega) hr hg hw (by simp [rowOf,addT]) (fun i hi hne=>by rcases (by omega:i=0\/i=1\/i=2) with rfl | rfl | rfl <;> rfl) h.len h.hs hd
theorem FoundR.addItem {n0 b6:Nat} {s:WSt} {w w1:World} {vs:Nat->Value} {us:List Value} {v' u:Value} (h:FoundR n0 b6 s w vs us) (x:ByteArray×Nd)
  (hr:w1.ownsRow n0 45 27 v' (s.items.length+1) (rowsU s.items us++itemU x u)) (hg:w.grownBy w1 (vs 0).ownBlock) (hw:v'.ownBlock=(vs 0).ownBlock\/v'.ownBlock=some w.heap.size)
  (hu:HashU w n0 [] x u) (hun:∀ b,u.ownBlock=some b->∀ i,i<4->(vs i).ownBlock≠some b) :
  FoundR n0 b6 { s with items:=s.items++[x] } (w1.setCell ⟨b6,0,none⟩ v') (fun i=>if i=0 then v' else vs i) (us++[u]):=by
 have snoc:∀ {α:Type} {l:List α} {k:Nat} {a y:α},(l++[a])[k]?=some y->l[k]?=some y\/(k=l.length/\y=a):=fun {α l k a y} hk=>by
  rcases Nat.lt_trichotomy k l.length with h | h | h
  ·rw [List.getElem?_append_left h] at hk;exact .inl hk
  ·subst h;simp at hk;exact .inr ⟨rfl,hk.symm⟩
  ·rw [List.getElem?_append_right (by omega)] at hk;rw [List.getElem?_eq_none (by simp;omega)] at hk
   cases hk
 refine h.add (s':={ s with items:=s.items++[x] }) (j:=0) (news:=itemU x u) (by omega) hr hg hw ?_ (fun i hi hne=>by rcases (by omega:i=1\/i=2\/i=3) with rfl | rfl | rfl <;> rfl) (by simp [h.len]) (fun k y z hy hz=>?_) (fun k z hz b hb=>?_)
 ·simp [rowOf,rowsU_snoc h.len]
 ·rcases snoc hz with hz | ⟨hk,rfl⟩
  ·rcases snoc hy with hy | ⟨hk,rfl⟩
   ·exact h.hs k y z hy hz
   ·have:=(List.getElem?_eq_some_iff.1 hz).1;have:=h.len;omega
  ·rcases snoc hy with hy | ⟨_,rfl⟩
   ·have:=(List.getElem?_eq_some_iff.1 hy).1;have:=h.len;omega
   ·exact hu
 ·rcases snoc hz with hz | ⟨hk,rfl⟩
  ·have hk:k<s.items.length:=by rw [<-h.len];exact (List.getElem?_eq_some_iff.1 hz).1
   exact ⟨((h.hs k _ z (List.getElem?_eq_getElem hk) hz).own b hb).2,h.hd k z hz b hb⟩
  ·exact ⟨(hu.own b hb).2,hun b hb⟩
def fndR (ig:ByteArray->Bool) (L pre:Nodes):WSt :=
 ⟨pre.filter fun x=>!covB ig L x.1&&!whyB ig x,(pre.filter fun x=>!covB ig L x.1&&isTempB x.1).map (·.1),(pre.filter fun x=>!covB ig L x.1&&(!isTempB x.1&&ig x.1)).map (·.1),
  (pre.filter fun x=>!covB ig L x.1&&(!isTempB x.1&&!ig x.1&&badN x.2)).map (·.1),⟨#[]⟩⟩
theorem fndR_cov {ig:ByteArray->Bool} {L pre:Nodes} {x:ByteArray×Nd} (h:covB ig L x.1=true):fndR ig L (pre++[x])=fndR ig L pre:=by
 simp [fndR,List.filter_append,h]
theorem fndR_1 {ig:ByteArray->Bool} {L pre:Nodes} {x:ByteArray×Nd} (h:covB ig L x.1=false) (h1:isTempB x.1=true):fndR ig L (pre++[x])=addT (fndR ig L pre) x.1 1:=by
 simp [fndR,addT,whyB,List.filter_append,h,h1]
theorem fndR_2 {ig:ByteArray->Bool} {L pre:Nodes} {x:ByteArray×Nd} (h:covB ig L x.1=false) (h1:isTempB x.1=false) (h2:ig x.1=true):fndR ig L (pre++[x])=addT (fndR ig L pre) x.1 2:=by
 simp [fndR,addT,whyB,List.filter_append,h,h1,h2]
theorem fndR_3 {ig:ByteArray->Bool} {L pre:Nodes} {x:ByteArray×Nd} (h:covB ig L x.1=false) (h1:isTempB x.1=false) (h2:ig x.1=false) (h3:badN x.2=true):fndR ig L (pre++[x])=addT (fndR ig L pre) x.1 3:=by
 simp [fndR,addT,whyB,List.filter_append,h,h1,h2,h3]
theorem fndR_0 {ig:ByteArray->Bool} {L pre:Nodes} {x:ByteArray×Nd} (h:covB ig L x.1=false) (h1:isTempB x.1=false) (h2:ig x.1=false) (h3:badN x.2=false):fndR ig L (pre++[x])={ fndR ig L pre with items:=(fndR ig L pre).items++[x] }:=by
 simp [fndR,whyB,List.filter_append,h,h1,h2,h3]
theorem fndR_len (ig:ByteArray->Bool) (L pre:Nodes):(fndR ig L pre).items.length<=pre.length/\(fndR ig L pre).temps.length<=pre.length/\(fndR ig L pre).ign.length<=pre.length/\(fndR ig L pre).bad.length<=pre.length:=by
 refine ⟨List.length_filter_le _ _,?_,?_,?_⟩ <;> (show (List.map _ _).length<=_;rw [List.length_map];exact List.length_filter_le _ _)
theorem fndR_is (ig:ByteArray->Bool) {L:Nodes} (h:Tidy L):(fndR ig L L).items=(walkS ig L).items/\(fndR ig L L).temps=(walkS ig L).temps/\(fndR ig L L).ign=(walkS ig L).ign/\(fndR ig L L).bad=(walkS ig L).bad:=by
 have k:=walkS_is ig h;exact ⟨k.items.symm,k.temps.symm,k.ign.symm,k.bad.symm⟩
theorem whyZ_pos {ig:ByteArray->Bool} {x:ByteArray×Nd}:decide (0<whyZ ig x)=whyB ig x:=by
 unfold whyZ whyB
 cases isTempB x.1 <;> cases ig x.1 <;> cases badN x.2 <;> rfl
theorem FoundR.row_items {n0 b6:Nat} {s:WSt} {w:World} {vs:Nat->Value} {us:List Value} (h:FoundR n0 b6 s w vs us):FoundC 0 w s #[vs 0,vs 1,vs 2,vs 3] :=
 ⟨vs,us,rfl,fun j hj=>owns_down (h.row j hj) (Nat.zero_le _),h.len,fun k x u hx hu=>by
  rcases h.hs k x u hx hu with h1 | ⟨h1,h2,h3,h4⟩
  ·exact .inl h1
  ·exact .inr ⟨h1,h2,owns_down h3 (Nat.zero_le _),h4⟩⟩
theorem wpQuiet_load_ag {P:Program} {ops:Array Oper} {C:World->Prop} {Q:Act->Prop} {a:Act} {o:Oper} {rest:List Oper} (hw:Region.wanted o (yielded ops a.tmps)=true) (ty:TypeId) (x:Operand) (ho:o.op=.load ty x)
  (b off:Nat) (hx:a.eval x=.pointer (some ⟨b,off,none⟩)) (cs:Array Value) (d:TypeDesc) (hc:∀ w,C w->w.rangeAt b off cs.toList)
  (hu:P.underlying ty=some d) (hd:d.isRow=true) (hi:(P.info? ty).map (·.size)=some cs.size)
  (h:wpQuiet P ops C Q rest (a.put o.dst (.agg cs))):wpQuiet P ops C Q (o::rest) a :=
 wpQuiet_step fun K hK=>by
  rw [if_pos hw];refine ⟨.agg cs,fun w hw=>?_,hK _ h⟩;unfold Oper.quietAt execOp;simp only [ho,hx,Instr.loadAt,Instr.sureAddr,Sem.run_bind,Sem.run_pure,Result.andThen_ok,run_loadVar_mid w b off ty cs.toList d (hc w hw) hu hd (by rw [hi];simp)];exact ⟨rfl,by simp⟩
section
variable {P:Program} {ops:Array Oper} {Q:Exit->Act->World->Prop} {md:Region.Mode} {S:World->Prop} {a:Act}
theorem wpAnyH_skip {o:Oper} {i:Nat} {fuel:Nat} {listed:Array Bool} {w w':World} {rest:List Oper} (hr:Region.ready md ops listed=[i]) (hi:ops.toList.drop i=o::rest) (hgd:o.guard=none) (hrun:(execOp a.eval o).run P w=.ok .skip w') (hS:S w')
  (h:wpAnyH P md ops Q S fuel (listed.setIfInBounds i true) (a.put o.dst undef) w'):wpAnyH P md ops Q S (fuel+1) listed a w :=
 wpAnyH_all hr (by simp) fun j hj=>by
  obtain rfl:=List.mem_singleton.1 hj;unfold wpOp;simp only [ops_get hi];rw [if_pos (by simp only [Region.wanted,hgd])];left;unfold Oper.wp;rw [hrun];exact ⟨hS,h⟩
theorem wpAnyH_call_or {i j:Nat} {oi oj:Oper} {ri rj:List Oper} {F:FuncId} {args:Array Value} {v:Value} {fuel:Nat} {listed:Array Bool} {w w2:World} (hr:Region.ready md ops listed=[i,j]) (hi:ops.toList.drop i=oi::ri) (hj:ops.toList.drop j=oj::rj) (gi:oi.guard=none) (gj:oj.guard=none)
  (hci:(execOp a.eval oi).run P w=.ok (.enter F args) w) (hcj:(execOp a.eval oj).run P w=.ok (.value v) w2) (hS2:S w2)
  (h1:Calls P F args w fun e w'=>∃ u,e=.returned u/\S w'/\wpAnyH P md ops Q S fuel (listed.setIfInBounds i true) (a.put oi.dst u) w')
  (h2:wpAnyH P md ops Q S fuel (listed.setIfInBounds j true) (a.put oj.dst v) w2):wpAnyH P md ops Q S (fuel+1) listed a w :=
 wpAnyH_all hr (by simp) fun k hk=>by
  rcases List.mem_cons.1 hk with rfl | hk
  ·unfold wpOp;simp only [ops_get hi];rw [if_pos (by simp only [Region.wanted,gi])];left;unfold Oper.wp;rw [hci];refine h1.mono ?_;rintro e w' ⟨u,rfl,hS,hh⟩;exact ⟨hS,hh⟩
  ·obtain rfl:=List.mem_singleton.1 hk;unfold wpOp;simp only [ops_get hj];rw [if_pos (by simp only [Region.wanted,gj])];left;unfold Oper.wp;rw [hcj];exact ⟨hS2,h2⟩
theorem yieldsIf_load_at {o:Oper} (hgd:o.guard=none) (ty:TypeId) (x:Operand) (ho:o.op=.load ty x) (b off:Nat) (hx:a.eval x=.pointer (some ⟨b,off,none⟩)) (cs:Array Value) (d:TypeDesc)
  (hc:∀ w,S w->w.rangeAt b off cs.toList) (hu:P.underlying ty=some d) (hd:d.isRow=true) (hi:(P.info? ty).map (·.size)=some cs.size):YieldsIf P ops S o (.agg cs) a :=
 .inl ⟨by simp only [Region.wanted,hgd],fun w hw=>by
  unfold execOp
  simp only [ho,hx,Instr.loadAt,Instr.sureAddr,Sem.run_bind,Sem.run_pure,Result.andThen_ok,run_loadVar_mid w b off ty cs.toList d (hc w hw) hu hd (by rw [hi];simp)]⟩
theorem run_storeOpT {o:Oper} {w:World} (ty:TypeId) (x y:Operand) (ho:o.op=.store ty x y) (g:Nat) (cells:Array Value) (hx:a.eval x=.pointer (some ⟨g,0,none⟩)) (hy:a.eval y=.agg cells)
  (t:TypeId) (old:Array Value) (hg:w.heap[g]?=some (.cells old t (0,0))) (hi:(P.info? ty).map (·.size)=some cells.size) (hold:old.size=cells.size) (h1:cells.all (·.oneCell')=true) :
  ∃ w1,(execOp a.eval o).run P w=.ok .skip w1/\w1.heap[g]?=some (.cells cells t (0,0))/\Touch g w w1:=by
 refine ⟨_,?_,setRow_heap _ _ _ _ _ _ hg,⟨rfl,rfl,rfl,by rw [setRow_size];exact Nat.le_refl _,fun i _ hne=>setRow_other _ _ _ _ fun e=>hne (by rw [e])⟩⟩;unfold execOp;simp only [ho,hx,hy,Instr.storeAt,Instr.sureAddr,Sem.run_bind,Sem.run_pure,Result.andThen_ok,run_storeVar_row w g t ty old cells hg hi hold h1]
end
theorem FoundR.touch {n0 b6 g:Nat} {s:WSt} {w w':World} {vs:Nat->Value} {us:List Value} (h:FoundR n0 b6 s w vs us) (x:Touch g w w') (hg:g<n0) (hne:g≠b6):FoundR n0 b6 s w' vs us :=
 ⟨(x.block b6 (ltB h.blk) fun e=>hne (Option.some.inj e).symm).trans h.blk,fun j hj=>owns_touch2 (h.row j hj) x hg,h.nd,h.len,fun k y u hy hu=>by
  rcases h.hs k y u hy hu with h1 | ⟨h1,h2,h3,h4⟩
  ·exact .inl h1
  ·exact .inr ⟨h1,h2,owns_touch2 h3 x hg,h4⟩,h.hd,h.lt⟩
theorem wpList_buildOne {P:Program} {ops:Array Oper} {rest:List Oper} {a:Act} {Q:Exit->Act->World->Prop} {w:World} {t e:TypeId} {z:Value} {k bytes:Nat} (el:ElemK P t e z k bytes) (hk:k<=1000) {o:Oper} (hg:o.guard=none) (x:Operand)
  (ho:o.op=.buildSlice t 1 #[(0,x)]) (C:Array Value) (hx:a.eval x=.agg C) (hC:C.size=k) (h:wpList P ops Q rest (a.put o.dst (.slice (some ⟨w.heap.size,0,none⟩) 1 1)) (w.alloc (.cells C e))):wpList P ops Q (o::rest) a w:=by
 obtain ⟨i,hi,hz,hs,_⟩:=info_parts el.info;have hp:=el.pos;refine wpList_buildSlice hg t e 1 #[(0,x)] ho C i z el.ut hi hz (by rw [hs];omega) (by rw [hs];omega) ?_ h;have h1:=Go.Great.fill_whole (s:=i.size) (by rw [hs];exact hp) [.agg C] ((Array.range (1*i.size)).map (z.cells[· % z.cells.size]!)) (fun v hv=>by rw [List.mem_singleton.1 hv,hs];exact hC) (by simp);have h2:((#[(0,x)]:Array (Nat×Operand)).map fun (i,x)=>(i,a.eval x)).toList=(([.agg C]:List Value).zipIdx 0).map fun x=>(x.2,x.1):=by simp [hx]
 rw [h2,h1];simp [Value.cells]
theorem item_row {base:Nat} {w:World} {x:ByteArray×Nd} {C:Array Value} {e:Int} (h:ItemIs base w x.1 x.2 C e) (hb:badN x.2=false):e=0/\∃ u,C=(itemU x u).toArray/\HashU w base [] x u/\∀ b,u.ownBlock=some b->base<=b/\b<w.heap.size:=by
 rcases h with ⟨h1,h2,h3⟩ | ⟨h1,h2,h3,u,h4,h5⟩ | ⟨h1,h2,_,_⟩
 ·exact ⟨h3,_,by rw [h2];unfold itemU;rw [if_neg h1],.inl ⟨h1,rfl⟩,fun b hb=>by simp [Value.ownBlock] at hb⟩
 ·exact ⟨h3,u,by rw [h4];unfold itemU;rw [if_pos h1],.inr ⟨h1,h2,h5,fun b _=>by simp⟩,fun b hb=>⟨own_ge h5 b hb,own_lt h5 b hb⟩⟩
 ·unfold badN at hb;rw [decide_eq_true h1,decide_eq_true h2] at hb
  cases hb
theorem HashU.to {base base':Nat} {w w':World} {x:ByteArray×Nd} {u:Value} (h:HashU w base [] x u) (k:Ext w w') (hb:base'<=base):HashU w' base' [] x u:=by
 rcases h with h1 | ⟨h1,h2,h3,h4⟩
 ·exact .inl h1
 ·exact .inr ⟨h1,h2,owns_down (owns_ext h3 k) hb,h4⟩
theorem HashU.touch {base g:Nat} {w w':World} {x:ByteArray×Nd} {u:Value} (h:HashU w base [] x u) (k:Touch g w w') (hg:g<base):HashU w' base [] x u:=by
 rcases h with h1 | ⟨h1,h2,h3,h4⟩
 ·exact .inl h1
 ·exact .inr ⟨h1,h2,owns_touch2 h3 k hg,h4⟩
theorem HashU.down {base base':Nat} {w:World} {x:ByteArray×Nd} {u:Value} (h:HashU w base [] x u) (hb:base'<=base):HashU w base' [] x u:=h.to (Ext.refl w) hb
theorem run_allocOp {P:Program} {o:Oper} {a:Act} (t:TypeId) (ho:o.op=.alloc t) (w:World) (cells:Array Value) (ie:TypeInfo) (hi:P.info? t=some ie) (hz:ie.zero=some (.agg cells)):(execOp a.eval o).run P w=.ok (.value (.pointer (some ⟨w.heap.size,0,none⟩))) (w.alloc (.cells cells t)):=by
 unfold execOp;simp [ho,Instr.alloc,zeroValue,typeInfo,hi,hz,newVar,newRow,Value.cells]
theorem wpAnyH_storeT {P:Program} {ops:Array Oper} {Q:Exit->Act->World->Prop} {md:Region.Mode} {S:World->Prop} {a:Act} {o:Oper} {i:Nat} {fuel:Nat} {listed:Array Bool} {w:World} {rest:List Oper} (hr:Region.ready md ops listed=[i]) (hi:ops.toList.drop i=o::rest) (hgd:o.guard=none)
  (ty:TypeId) (x y:Operand) (ho:o.op=.store ty x y) (g:Nat) (cells:Array Value) (hx:a.eval x=.pointer (some ⟨g,0,none⟩)) (hy:a.eval y=.agg cells)
  (t:TypeId) (old:Array Value) (hg:w.heap[g]?=some (.cells old t (0,0))) (hif:(P.info? ty).map (·.size)=some cells.size) (hold:old.size=cells.size) (h1:cells.all (·.oneCell')=true)
  (h:∀ w1,w1.heap[g]?=some (.cells cells t (0,0))->Touch g w w1->S w1/\wpAnyH P md ops Q S fuel (listed.setIfInBounds i true) (a.put o.dst undef) w1):wpAnyH P md ops Q S (fuel+1) listed a w:=by
 obtain ⟨w1,h2,h3,h4⟩:=run_storeOpT (P:=P) (a:=a) (o:=o) ty x y ho g cells hx hy t old hg hif hold h1;obtain ⟨h5,h6⟩:=h w1 h3 h4;exact wpAnyH_skip hr hi hgd h2 h5 h6
end
section
open Go.RowKit Go.Shelf
attribute [local go_sem] Oper.semAt_some
end
section
open Go.RowKit Go.Shelf
attribute [local go_sem] Oper.semAt_some
structure Seen (D:Dk) (root:ByteArray) (re:Int) (L:Nodes):Prop where
 ok:re=0->root.size<=160/\rootE D.live root=0/\L=eachL D root
 no:re≠0->L=[]
end
section
open Go.RowKit Go.Shelf
attribute [local go_sem] Oper.semAt_some
end
section
open Go.RowKit
set_option maxRecDepth 100000 in
set_option maxHeartbeats 8000000 in
theorem rwalk17_any {w:World} {r m:Nat} {M I:List Nat} {D:Dk} (h:RkAt w r M I D) (R:DkRun m D) (hl:D.live.length<=16384) (root:ByteArray) (hr:root.size<=100000) {pv:Value} {ig:ByteArray->Bool} (H:RPatAs w pv ig) :
  Calls prog 29 #[.pointer (some ⟨r,0,none⟩),.string root,pv] w fun e w'=>∃ v0 v1 v2 v3,e=.returned (.tuple #[.agg #[v0,v1,v2,v3],.int .i64 (rootE D.live root)])/\Hid (ItemsAt w' v0 (walkS ig (eachL D root)).items/\TextsOwn w' v1 (walkS ig (eachL D root)).temps/\TextsOwn w' v2 (walkS ig (eachL D root)).ign/\TextsOwn w' v3 (walkS ig (eachL D root)).bad/\Ext w w'):=by
 have HX:=lh ((Ext.refl w).alloc (.cells found0 67 (0,0)));have HZ:=lh (block_alloc_new w (.cells found0 67 (0,0)));have HRt:=lh (rroot17_any (h.ext HX.out) R.ok root (by omega));have HA1:=lh (show (prog.info? 67).map (·.size)=some found0.size from by kernel_rfl);have HA3:=lh (show found0.all (·.oneCell')=true from by kernel_rfl);by_cases hroot:rootE D.live root=0
 ·have hel:eachL D root=inRoot root D.live:=by unfold eachL;rw [if_pos hroot]
  have hmay:=mayRoot hroot;have hr160:=mayB_size hmay;have HTd:=lh (inRoot_tidy hmay R.ok.live.sorted);have HNd:=lh (fun w' (x:Ext w w')=>rnodes17_any (h.ext x) (by omega) root hmay hr160 (fun x hx=>mayB_size (R.ok.live.may x hx)))
  have HSm:=lh (show ∀ x∈inRoot root D.live,x.2.data.size<=1048576 from fun x hx=>by
   obtain ⟨y,hy,_,rfl⟩:=inRoot_mem2 hx;have h1:=mem_used hy;have h2:=R.ok.live.used;have h3:=R.ok.r2;have h4:64+y.2.data.size<=usedL D.live:=h1
   show y.2.data.size<=1048576
   omega)
  have HPS:=lh (show ∀ x∈inRoot root D.live,x.1.size<=160 from fun x hx=>mayB_size (HTd.out.may x hx));have HLn:(inRoot root D.live).length<=16384:=Nat.le_trans (by unfold inRoot;rw [List.length_map];exact List.length_filter_le _ _) hl;have HIS:=lh (fndR_is ig HTd.out);rw [hel,hroot];rw [hroot] at HRt;generalize inRoot root D.live=L at *;have HH:=lh H;clear h R H hmay hl hel hroot;unfold found0 at HX HZ HRt;obtain ⟨n,hn⟩:∃ n,n=L.length:=⟨_,rfl⟩;have HN:=lh hn;rw [<-hn] at HLn HNd;clear hn;go_enter func29,ntmps29;go_wp2_with fail;refine HRt.out.mono ?_;rintro e w1 ⟨rfl,x1⟩;have HZ1:=lh ((x1.block (ltB HZ.out)).trans HZ.out);have X1:=lh (HX.out.trans x1);clear x1 HRt;go_wp2_with fail;refine (HNd.out _ X1.out).mono ?_;rintro e w2 ⟨v,rfl,h2⟩;obtain ⟨a,cap,rfl,q1,q2,_,q4⟩:=row_cells h2.out.1
  have HC:=lh (show ∀ k y,L[k]?=some y->∃ g,a=some ⟨g,0,none⟩/\g<w2.heap.size/\w2.rangeAt g (k*5) (cells5 y) from fun k y hy=>by
   obtain ⟨g,e1,_,e3,_⟩:=q4 (k*5+0) _ (rows5_get hy (by decide):_=(cells5 y)[0]?);refine ⟨g,e1,e3,fun j u hj=>?_⟩;have hj5:j<5:=(List.getElem?_eq_some_iff.1 hj).1;obtain ⟨g2,e4,_,_,e5⟩:=q4 (k*5+j) u ((rows5_get hy hj5).trans hj);rw [e1] at e4
   cases e4
   exact e5)
  have HZ2:=lh ((h2.out.2.block (ltB HZ1.out)).trans HZ1.out);have X2:=lh (X1.out.trans h2.out.2);have hlt2:=ltB HZ2.out;clear h2 HNd q4 HZ1;have HX3:=lh ((Ext.refl w2).alloc (.cells #[.slice none 0 0,.slice none 0 0,.slice none 0 0,.slice none 0 0] 67 (0,0)))
  have HF0:=lh (show FoundR (w2.heap.size+1) w2.heap.size (fndR ig L []) (w2.alloc (.cells #[.slice none 0 0,.slice none 0 0,.slice none 0 0,.slice none 0 0] 67 (0,0))) (fun _=>.slice none 0 0) [] from by
   refine ⟨block_alloc_new _ _,fun j hj=>?_,fun i j _ _ _ b hb=>by simp [Value.ownBlock] at hb,rfl,fun k x u hx=>by simp [fndR] at hx,fun k u hu=>by simp at hu,Nat.lt_succ_self _⟩
   match j,hj with
   | 0,_=>exact World.ownsRow_nil _ _ _ _
   | 1,_=>exact World.ownsRow_nil _ _ _ _
   | 2,_=>exact World.ownsRow_nil _ _ _ _
   | 3,_=>exact World.ownsRow_nil _ _ _ _)
  go_wp2_with fail;generalize w2.alloc (.cells #[.slice none 0 0,.slice none 0 0,.slice none 0 0,.slice none 0 0] 67 (0,0))=w3 at *;go_loopw [11] (fun iv wr=>Hid (∃ (k:Nat) (vs:Nat->Value) (us:List Value),k<=n/\iv=.int .i64 k/\FoundR (w2.heap.size+1) w2.heap.size (fndR ig L (L.take k)) wr vs us/\Ext w2 wr)) (fun iv _=>n - (intOf iv).toNat)
  case atStart=>exact ⟨0,_,_,Nat.zero_le _,rfl,HF0.out,HX3.out⟩
  case round =>
   obtain ⟨k,vs,us,hk,rfl,hF,hx⟩:=hrel.out;clear hrel;have HFr:=lh hF;have HXr:=lh hx;clear hF hx;by_cases hlt:k<n
   ·obtain ⟨x,hxk⟩:∃ x,L[k]?=some x:=⟨_,List.getElem?_eq_getElem (by have:=HN.out;omega)⟩;obtain ⟨g,rfl,hgl,hcx⟩:=HC.out k x hxk;have HRX:=lh (fun w' (y:Ext w2 w')=>range_ext hcx y hgl);have HXM:=lh (List.mem_of_getElem? hxk);have HTK:=lh (show L.take (k+1)=L.take k++[x] from by rw [List.take_add_one,hxk];rfl);clear hcx hxk;go_wp2_with fail;obtain ⟨wa,hwa⟩:∃ wa,wa=wr:=⟨_,rfl⟩;rw [<-hwa] at HFr HXr ⊢;clear hwa;go_loopw [12,13] (fun ov jv wq=>Hid (∃ j:Nat,j<=n/\jv=.int .i64 j/\ov=.bool (covB ig (L.take j) x.1)/\Ext wa wq)) (fun _ jv _=>n - (intOf jv).toNat)
    case atStart=>exact ⟨0,Nat.zero_le _,rfl,rfl,Ext.refl _⟩
    case round =>
     obtain ⟨j,hj,rfl,rfl,hxq⟩:=hrel.out;clear hrel;have HXq:=lh hxq;clear hxq;by_cases hjlt:j<n
     ·obtain ⟨y,hyj⟩:∃ y,L[j]?=some y:=⟨_,List.getElem?_eq_getElem (by have:=HN.out;omega)⟩;obtain ⟨g',hge,_,hcy⟩:=HC.out j y hyj
      cases hge
      have HRY:=lh (fun w' (z:Ext w2 w')=>range_ext hcy z hgl)
      have HCO:=lh (show covB ig (L.take (j+1)) x.1=(covB ig (L.take j) x.1||(withinB x.1 y.1&&whyB ig y)) from by
       unfold covB;rw [List.take_add_one,hyj,List.any_append]
       simp)
      have hym:=List.mem_of_getElem? hyj;have hys:=HPS.out y hym;have hxs:=HPS.out x HXM.out;have hyd:=HSm.out y hym;have XQ2:=lh (HXr.out.trans HXq.out);have HWy:=lh (fun (z:After wr)=>rwhy17_any ((HH.out.ext X2.out).ext (XQ2.out.trans z.x)) y hys hyd);have HWi:=lh (fun (z:After wr)=>refWithin_any x.1 y.1 z.v (by omega) (by omega));have b0:∀ z:After wr,z.v.cell? ⟨g,k*5,none⟩=some (.string x.1):=fun z=>(HRX.out _ (XQ2.out.trans z.x)) 0 _ rfl;have d0:∀ z:After wr,z.v.cell? ⟨g,j*5,none⟩=some (.string y.1):=fun z=>(HRY.out _ (XQ2.out.trans z.x)) 0 _ rfl
      have HYC:=lh (show ∀ w',(∃ z:After wr,w'=z.v)->w'.rangeAt g (j*5) (cells5 y).toArray.toList from by
       rintro _ ⟨z,rfl⟩
       exact HRY.out _ (XQ2.out.trans z.x))
      have HWP:=lh (whyZ_pos (ig:=ig) (x:=y));clear hcy hyj;generalize covB ig (L.take j) x.1=cv at *;generalize whyB ig y=wy at *;generalize whyZ ig y=zy at *
      cases hw:withinB x.1 y.1 with
      | false =>
       rw [hw] at HWi HCO;have HC2:=lh (HCO.out.trans (by rw [Bool.false_and,Bool.or_false]));clear HCO;go_wp2_with fail;refine wp_region_after (by kernel_rfl) (by kernel_rfl) ?_
       repeat (go_big_quiet_step (exact After.of (HWi.out _)))
       refine wpQuiet_nil ?_;rintro _ ⟨z,rfl⟩;have HZx:=lh z.x;clear b0 d0;go_wp2_with fail;go_roundw
       case rel=>exact ⟨j+1,by omega,by go_num,by rw [HC2.out],HXq.out.trans HZx.out⟩
       case measure=>simp [intOf] <;> omega
      | true =>
       rw [hw] at HWi HCO;have HC2:=lh (HCO.out.trans (by rw [Bool.true_and]));have gz:decide (0<zy)=wy:=HWP.out;clear HWP
       cases wy with
       | true =>
        have HC3:=lh (HC2.out.trans (by rw [Bool.or_true]));clear HC2 HCO;go_wp2_with fail;refine wp_region_after (by kernel_rfl) (by kernel_rfl) ?_
        iterate 10 go_big_quiet_step (fail)
        go_big_quiet_step (exact After.of (HWi.out _))
        iterate 4 go_big_quiet_step (fail)
        refine wpQuiet_load_ag ?_ 86 (.tmp 53) rfl g (j*5) rfl (cells5 y).toArray _ HYC.out underlying86 rfl (by kernel_rfl) ?_
        ·simp [Region.wanted,yielded]
        go_frame;go_big_quiet_step (fail);go_big_quiet_step (exact After.of (HWy.out _))
        repeat (go_big_quiet_step (fail))
        refine wpQuiet_nil ?_;rintro _ ⟨z,rfl⟩;have HZx:=lh z.x;clear b0 d0;go_wp2_with fail;go_roundw
        case rel=>exact ⟨j+1,by omega,by go_num,by rw [HC3.out],HXq.out.trans HZx.out⟩
        case measure=>simp [intOf] <;> omega
       | false =>
        have HC3:=lh (HC2.out.trans (by rw [Bool.or_false]));clear HC2 HCO;go_wp2_with fail;refine wp_region_after (by kernel_rfl) (by kernel_rfl) ?_
        iterate 10 go_big_quiet_step (fail)
        go_big_quiet_step (exact After.of (HWi.out _))
        iterate 4 go_big_quiet_step (fail)
        refine wpQuiet_load_ag ?_ 86 (.tmp 53) rfl g (j*5) rfl (cells5 y).toArray _ HYC.out underlying86 rfl (by kernel_rfl) ?_
        ·simp [Region.wanted,yielded]
        go_frame;go_big_quiet_step (fail);go_big_quiet_step (exact After.of (HWy.out _))
        repeat (go_big_quiet_step (fail))
        refine wpQuiet_nil ?_;rintro _ ⟨z,rfl⟩;have HZx:=lh z.x;clear b0 d0;go_wp2_with fail;go_roundw
        case rel=>exact ⟨j+1,by omega,by go_num,by rw [HC3.out],HXq.out.trans HZx.out⟩
        case measure=>simp [intOf] <;> omega
     ·obtain rfl:j=n:=by omega
      have HTN:=lh (show L.take j=L from by rw [HN.out,List.take_length]);rw [HTN.out];have nlj:decide ((j:Int)<(j:Int))=false:=by simp
      have XQ2:=lh (HXr.out.trans HXq.out)
      cases hcv:covB ig L x.1 with
      | true =>
       have HNX:=lh (show fndR ig L (L.take (k+1))=fndR ig L (L.take k) from by rw [HTK.out,fndR_cov hcv]);clear hcv;go_wp2_with fail;go_roundw
       case rel=>exact ⟨k+1,vs,us,by omega,by go_num,by rw [HNX.out];exact HFr.out.ext HXq.out,XQ2.out⟩
       case measure=>simp [intOf] <;> omega
      | false =>
       have hxs:=HPS.out x HXM.out;have hxd:=HSm.out x HXM.out;have HWx:=lh (rwhy17_any ((HH.out.ext X2.out).ext XQ2.out) x hxs hxd);have HRX2:=lh (show wr.rangeAt g (k*5) (cells5 x).toArray.toList from HRX.out _ XQ2.out);go_wp2_with (refine wpList_load_at rfl 86 (.tmp 62) rfl g (k*5) rfl (cells5 x).toArray _ HRX2.out underlying86 rfl (by kernel_rfl) ?_;go_frame)
       cases ht:isTempB x.1 with
       | true =>
        have hz:whyZ ig x=1:=by unfold whyZ;simp [ht]
        rw [hz] at HWx;refine HWx.out.mono ?_;rintro e w4 ⟨rfl,x4⟩;have XQ4:=lh (XQ2.out.trans x4);have hF4:=HFr.out.ext (HXq.out.trans x4);clear x4 hz;have hrw:=hF4.row 1 (by decide);obtain ⟨ra,rc,hre⟩:=rowk_shape hrw;have HRE:=lh hre;obtain ⟨S,hS⟩:∃ S,S=fndR ig L (L.take k):=⟨_,rfl⟩;have HLN:=(fndR_len ig L (L.take k));rw [<-hS] at hre HRE hF4 hrw HLN;have hln:S.temps.length<=16384:=by have h1:=HLN.2.1;have h2:=List.length_take_le k L;omega
        have c6:w4.cell? ⟨w2.heap.size,1,none⟩=some (.slice ra S.temps.length rc):=(cellB hF4.blk).trans (by rw [<-show vs 1=.slice ra S.temps.length rc from hre];rfl);have b0:w4.cell? ⟨g,k*5,none⟩=some (.string x.1):=(HRX.out _ XQ4.out) 0 _ rfl;have HOW:=lh (show w4.ownsRow (w2.heap.size+1) 9 1 (.slice ra S.temps.length rc) S.temps.length (S.temps.map Value.string) from (show vs 1=.slice ra S.temps.length rc from hre)▸hrw);have HF4:=lh hF4;have HNX:=lh (show fndR ig L (L.take (k+1))=addT S x.1 1 from by rw [HTK.out,fndR_1 hcv ht,hS]);have hlt6:w2.heap.size<w4.heap.size:=ltB hF4.blk;clear hre hrw hF4 HLN hS;go_wp2_with fail
        go_region_law
         (refine step_append_k elText (w2.heap.size+1) (.slice ra S.temps.length rc) S.temps.length (S.temps.map Value.string) (owns_ext HOW.out ?_) w4.heap.size [.string x.1] rfl (.tmp 69) (.tmp 75) rfl rfl ?_ ?_ ?_ ?_ ?_ ?_ ?_
          ·repeat (first | exact Ext.refl _ | refine Ext.alloc ?_ _ | refine Ext.drew ?_)
          ·simp [Act.eval]
          ·simp [Act.eval]
          ·intro j u hj;exact (cellB (heap_new_drew rfl)).trans (by simpa using hj)
          ·intro u hu;rw [List.mem_singleton.1 hu];rfl
          ·omega
          ·simp;omega
          intro v' w5 hown5 hgr5 hrow5 hwh5;obtain ⟨g5,cap5,rfl,_⟩:=hrow5;have hgr6:=hgr5;have hwh6:=hwh5;have hown6:=hown5;rw [show Value.slice ra S.temps.length rc=vs 1 from HRE.out.symm] at hgr6 hwh6;have hb5:=(hgr6.block w2.heap.size (by simp;omega) (fun e=>by have:=(HF4.out.below 1 (by decide) _ e.symm).1;omega)).trans ((Ext.block (w:=w4) (by repeat (first | exact Ext.refl _ | refine Ext.alloc ?_ _ | refine Ext.drew ?_)) hlt6).trans HF4.out.blk);have k1:w5.cell? ⟨w2.heap.size,1,none⟩=some (.slice ra S.temps.length rc):=(cellB hb5).trans (by rw [HRE.out];rfl);have f1:w5.frozen? ⟨w2.heap.size,1,none⟩=false:=frozenB hb5;have HP:=lh ((HF4.out.ext (by repeat (first | exact Ext.refl _ | refine Ext.alloc ?_ _ | refine Ext.drew ?_))).addText (j:=1) (by decide) (by decide) x.1 hown6 hgr6 hwh6);have HPX:=lh (Ext.setCell (grown_extB (w0:=w2) (by repeat (first | exact XQ4.out | refine Ext.alloc ?_ _ | refine Ext.drew ?_)) (by omega) (owns_ext HOW.out (by repeat (first | exact Ext.refl _ | refine Ext.alloc ?_ _ | refine Ext.drew ?_))) hgr5) (p:=⟨w2.heap.size,1,none⟩) (Nat.le_refl _) (.slice (some ⟨g5,0,none⟩) (S.temps.length+1) cap5))
          clear hown5 hgr5 hwh5 hb5 hgr6 hwh6 hown6)
        all_goals
         go_wp2_with fail;go_roundw
         case rel=>exact ⟨k+1,_,us,by omega,by go_num,by rw [HNX.out];exact HP.out,HPX.out⟩
         case measure=>simp [intOf] <;> omega
       | false =>
        cases hi:ig x.1 with
        | true =>
         have hz:whyZ ig x=2:=by unfold whyZ;simp [ht,hi]
         rw [hz] at HWx;refine HWx.out.mono ?_;rintro e w4 ⟨rfl,x4⟩;have XQ4:=lh (XQ2.out.trans x4);have hF4:=HFr.out.ext (HXq.out.trans x4);clear x4 hz;have hrw:=hF4.row 2 (by decide);obtain ⟨ra,rc,hre⟩:=rowk_shape hrw;have HRE:=lh hre;obtain ⟨S,hS⟩:∃ S,S=fndR ig L (L.take k):=⟨_,rfl⟩;have HLN:=(fndR_len ig L (L.take k));rw [<-hS] at hre HRE hF4 hrw HLN;have hln:S.ign.length<=16384:=by have h1:=HLN.2.2.1;have h2:=List.length_take_le k L;omega
         have c6:w4.cell? ⟨w2.heap.size,2,none⟩=some (.slice ra S.ign.length rc):=(cellB hF4.blk).trans (by rw [<-show vs 2=.slice ra S.ign.length rc from hre];rfl);have b0:w4.cell? ⟨g,k*5,none⟩=some (.string x.1):=(HRX.out _ XQ4.out) 0 _ rfl;have HOW:=lh (show w4.ownsRow (w2.heap.size+1) 9 1 (.slice ra S.ign.length rc) S.ign.length (S.ign.map Value.string) from (show vs 2=.slice ra S.ign.length rc from hre)▸hrw);have HF4:=lh hF4;have HNX:=lh (show fndR ig L (L.take (k+1))=addT S x.1 2 from by rw [HTK.out,fndR_2 hcv ht hi,hS]);have hlt6:w2.heap.size<w4.heap.size:=ltB hF4.blk;clear hre hrw hF4 HLN hS;go_wp2_with fail
         go_region_law
          (refine step_append_k elText (w2.heap.size+1) (.slice ra S.ign.length rc) S.ign.length (S.ign.map Value.string) (owns_ext HOW.out ?_) w4.heap.size [.string x.1] rfl (.tmp 81) (.tmp 87) rfl rfl ?_ ?_ ?_ ?_ ?_ ?_ ?_
           ·repeat (first | exact Ext.refl _ | refine Ext.alloc ?_ _ | refine Ext.drew ?_)
           ·simp [Act.eval]
           ·simp [Act.eval]
           ·intro j u hj;exact (cellB (heap_new_drew rfl)).trans (by simpa using hj)
           ·intro u hu;rw [List.mem_singleton.1 hu];rfl
           ·omega
           ·simp;omega
           intro v' w5 hown5 hgr5 hrow5 hwh5;obtain ⟨g5,cap5,rfl,_⟩:=hrow5;have hgr6:=hgr5;have hwh6:=hwh5;have hown6:=hown5;rw [show Value.slice ra S.ign.length rc=vs 2 from HRE.out.symm] at hgr6 hwh6;have hb5:=(hgr6.block w2.heap.size (by simp;omega) (fun e=>by have:=(HF4.out.below 2 (by decide) _ e.symm).1;omega)).trans ((Ext.block (w:=w4) (by repeat (first | exact Ext.refl _ | refine Ext.alloc ?_ _ | refine Ext.drew ?_)) hlt6).trans HF4.out.blk);have k1:w5.cell? ⟨w2.heap.size,2,none⟩=some (.slice ra S.ign.length rc):=(cellB hb5).trans (by rw [HRE.out];rfl);have f1:w5.frozen? ⟨w2.heap.size,2,none⟩=false:=frozenB hb5;have HP:=lh ((HF4.out.ext (by repeat (first | exact Ext.refl _ | refine Ext.alloc ?_ _ | refine Ext.drew ?_))).addText (j:=2) (by decide) (by decide) x.1 hown6 hgr6 hwh6);have HPX:=lh (Ext.setCell (grown_extB (w0:=w2) (by repeat (first | exact XQ4.out | refine Ext.alloc ?_ _ | refine Ext.drew ?_)) (by omega) (owns_ext HOW.out (by repeat (first | exact Ext.refl _ | refine Ext.alloc ?_ _ | refine Ext.drew ?_))) hgr5) (p:=⟨w2.heap.size,2,none⟩) (Nat.le_refl _) (.slice (some ⟨g5,0,none⟩) (S.ign.length+1) cap5))
           clear hown5 hgr5 hwh5 hb5 hgr6 hwh6 hown6)
         all_goals
          go_wp2_with fail;go_roundw
          case rel=>exact ⟨k+1,_,us,by omega,by go_num,by rw [HNX.out];exact HP.out,HPX.out⟩
          case measure=>simp [intOf] <;> omega
        | false =>
         cases hb:badN x.2 with
         | true =>
          have hz:whyZ ig x=3:=by unfold whyZ;simp [ht,hi,hb]
          rw [hz] at HWx;refine HWx.out.mono ?_;rintro e w4 ⟨rfl,x4⟩;have XQ4:=lh (XQ2.out.trans x4);have hF4:=HFr.out.ext (HXq.out.trans x4);clear x4 hz;have hrw:=hF4.row 3 (by decide);obtain ⟨ra,rc,hre⟩:=rowk_shape hrw;have HRE:=lh hre;obtain ⟨S,hS⟩:∃ S,S=fndR ig L (L.take k):=⟨_,rfl⟩;have HLN:=(fndR_len ig L (L.take k));rw [<-hS] at hre HRE hF4 hrw HLN;have hln:S.bad.length<=16384:=by have h1:=HLN.2.2.2;have h2:=List.length_take_le k L;omega
          have c6:w4.cell? ⟨w2.heap.size,3,none⟩=some (.slice ra S.bad.length rc):=(cellB hF4.blk).trans (by rw [<-show vs 3=.slice ra S.bad.length rc from hre];rfl);have b0:w4.cell? ⟨g,k*5,none⟩=some (.string x.1):=(HRX.out _ XQ4.out) 0 _ rfl;have HOW:=lh (show w4.ownsRow (w2.heap.size+1) 9 1 (.slice ra S.bad.length rc) S.bad.length (S.bad.map Value.string) from (show vs 3=.slice ra S.bad.length rc from hre)▸hrw);have HF4:=lh hF4;have HNX:=lh (show fndR ig L (L.take (k+1))=addT S x.1 3 from by rw [HTK.out,fndR_3 hcv ht hi hb,hS]);have hlt6:w2.heap.size<w4.heap.size:=ltB hF4.blk;clear hre hrw hF4 HLN hS;go_wp2_with fail
          go_region_law
           (refine step_append_k elText (w2.heap.size+1) (.slice ra S.bad.length rc) S.bad.length (S.bad.map Value.string) (owns_ext HOW.out ?_) w4.heap.size [.string x.1] rfl (.tmp 93) (.tmp 99) rfl rfl ?_ ?_ ?_ ?_ ?_ ?_ ?_
            ·repeat (first | exact Ext.refl _ | refine Ext.alloc ?_ _ | refine Ext.drew ?_)
            ·simp [Act.eval]
            ·simp [Act.eval]
            ·intro j u hj;exact (cellB (heap_new_drew rfl)).trans (by simpa using hj)
            ·intro u hu;rw [List.mem_singleton.1 hu];rfl
            ·omega
            ·simp;omega
            intro v' w5 hown5 hgr5 hrow5 hwh5;obtain ⟨g5,cap5,rfl,_⟩:=hrow5;have hgr6:=hgr5;have hwh6:=hwh5;have hown6:=hown5;rw [show Value.slice ra S.bad.length rc=vs 3 from HRE.out.symm] at hgr6 hwh6;have hb5:=(hgr6.block w2.heap.size (by simp;omega) (fun e=>by have:=(HF4.out.below 3 (by decide) _ e.symm).1;omega)).trans ((Ext.block (w:=w4) (by repeat (first | exact Ext.refl _ | refine Ext.alloc ?_ _ | refine Ext.drew ?_)) hlt6).trans HF4.out.blk);have k1:w5.cell? ⟨w2.heap.size,3,none⟩=some (.slice ra S.bad.length rc):=(cellB hb5).trans (by rw [HRE.out];rfl);have f1:w5.frozen? ⟨w2.heap.size,3,none⟩=false:=frozenB hb5;have HP:=lh ((HF4.out.ext (by repeat (first | exact Ext.refl _ | refine Ext.alloc ?_ _ | refine Ext.drew ?_))).addText (j:=3) (by decide) (by decide) x.1 hown6 hgr6 hwh6);have HPX:=lh (Ext.setCell (grown_extB (w0:=w2) (by repeat (first | exact XQ4.out | refine Ext.alloc ?_ _ | refine Ext.drew ?_)) (by omega) (owns_ext HOW.out (by repeat (first | exact Ext.refl _ | refine Ext.alloc ?_ _ | refine Ext.drew ?_))) hgr5) (p:=⟨w2.heap.size,3,none⟩) (Nat.le_refl _) (.slice (some ⟨g5,0,none⟩) (S.bad.length+1) cap5))
            clear hown5 hgr5 hwh5 hb5 hgr6 hwh6 hown6)
          all_goals
           go_wp2_with fail;go_roundw
           case rel=>exact ⟨k+1,_,us,by omega,by go_num,by rw [HNX.out];exact HP.out,HPX.out⟩
           case measure=>simp [intOf] <;> omega
         | false =>
          have hz:whyZ ig x=0:=by unfold whyZ;simp [ht,hi,hb]
          rw [hz] at HWx;refine HWx.out.mono ?_;rintro e w4 ⟨rfl,x4⟩;have XQ4:=lh (XQ2.out.trans x4);have HF4:=lh (HFr.out.ext (HXq.out.trans x4));clear x4 hz;have HIt:=lh (fun w' (y:Ext w4 w')=>ritem17_any x.1 x.2 w' hxd);unfold nv at HIt;have hk5:(k:Int)<(j:Int):=by omega
          have hk0:(0:Int)<=(k:Int):=by omega
          have HBD:=lh hb;have HNX:=lh (show fndR ig L (L.take (k+1))={ fndR ig L (L.take k) with items:=(fndR ig L (L.take k)).items++[x] } from by rw [HTK.out,fndR_0 hcv ht hi hb]);go_wp2_with fail;refine wp_region_held (S:=fun w'=>Ext w4 w') (by kernel_rfl) ?_;change wpAnyH _ _ _ _ _ _ _ _ (World.drew _);have sS:Ext w4 w4.drew:=(Ext.refl w4).drew;refine wpAnyH_takeL (i:=0) (v:=.slice (some ⟨g,0,none⟩) j cap) rfl (by kernel_rfl) (by kernel_rfl) (by kernel_rfl) (fun _ _ _ h=>h) (yieldsIf_move rfl _ rfl rfl) sS ?_;go_frame;refine wpAnyH_takeL (i:=1) (v:=.int .i64 k) rfl (by kernel_rfl) (by kernel_rfl) (by kernel_rfl) (fun _ _ _ h=>h) (yieldsIf_move rfl _ rfl rfl) sS ?_;go_frame;refine wpAnyH_takeL (i:=2) (v:=.pointer (some ⟨g,k*5,none⟩)) rfl (by kernel_rfl) (by kernel_rfl) (by kernel_rfl) (fun _ _ _ h=>h) (Or.inl ⟨rfl,fun w' _=>by go_simp⟩) sS ?_;go_frame;refine wpAnyH_takeL (i:=3) (v:=.pointer (some ⟨g,k*5,none⟩)) rfl (by kernel_rfl) (by kernel_rfl) (by kernel_rfl) (fun _ _ _ h=>h) (Or.inl ⟨rfl,fun w' _=>by go_simp⟩) sS ?_;go_frame
          refine wpAnyH_takeL (i:=4) (v:=.string x.1) rfl (by kernel_rfl) (by kernel_rfl) (by kernel_rfl) (fun _ _ _ h=>h) (Or.inl ⟨rfl,fun w' hw'=>by
           have hc:w'.cell? ⟨g,k*5,none⟩=some (.string x.1):=HRX.out _ (XQ4.out.trans hw') 0 _ rfl
           go_simp⟩) sS ?_
          go_frame;refine wpAnyH_takeL (i:=5) (v:=.slice (some ⟨g,0,none⟩) j cap) rfl (by kernel_rfl) (by kernel_rfl) (by kernel_rfl) (fun _ _ _ h=>h) (yieldsIf_move rfl _ rfl rfl) sS ?_;go_frame;refine wpAnyH_takeL (i:=6) (v:=.int .i64 k) rfl (by kernel_rfl) (by kernel_rfl) (by kernel_rfl) (fun _ _ _ h=>h) (yieldsIf_move rfl _ rfl rfl) sS ?_;go_frame;refine wpAnyH_takeL (i:=7) (v:=.pointer (some ⟨g,k*5,none⟩)) rfl (by kernel_rfl) (by kernel_rfl) (by kernel_rfl) (fun _ _ _ h=>h) (Or.inl ⟨rfl,fun w' _=>by go_simp⟩) sS ?_;go_frame;refine wpAnyH_takeL (i:=8) (v:=.pointer (some ⟨g,k*5+1,none⟩)) rfl (by kernel_rfl) (by kernel_rfl) (by kernel_rfl) (fun _ _ _ h=>h) (Or.inl ⟨rfl,fun w' _=>by go_simp⟩) sS ?_;go_frame;refine wpAnyH_takeL (i:=9) (v:=.agg #[.int .i64 x.2.kind,.string x.2.data,.string x.2.target,.int .i64 x.2.time]) rfl (by kernel_rfl) (by kernel_rfl) (by kernel_rfl) (fun _ _ _ h=>h) (yieldsIf_load_at rfl 84 (.tmp 113) rfl g (k*5+1) rfl #[.int .i64 x.2.kind,.string x.2.data,.string x.2.target,.int .i64 x.2.time] _ (fun w' hw'=>range_tail (HRX.out _ (XQ4.out.trans hw'))) underlying84 rfl (by kernel_rfl)) sS ?_;go_frame;obtain ⟨ie,hie,hiz,_,_⟩:=info_parts elRec.info;have HAL:=lh (fun (W:World)=>block_alloc_new W (.cells rec0 45 (0,0)));have hlt6:w2.heap.size<w4.heap.size:=ltB HF4.out.blk;refine wpAnyH_call_or (i:=10) (j:=14) (F:=86) (args:=#[.string x.1,.agg #[.int .i64 x.2.kind,.string x.2.data,.string x.2.target,.int .i64 x.2.time]]) (by kernel_rfl) rfl rfl rfl rfl (by go_simp) (run_allocOp 45 rfl w4.drew rec0 ie hie hiz) (sS.alloc _) ?hcall ?halloc
          case' hcall =>
           refine (HIt.out _ sS).mono ?_;rintro e w6 ⟨C,er,rfl,h6⟩;have s6:Ext w4 w6:=sS.trans h6.out.2;obtain ⟨rfl,u,hCu,hU,hub⟩:=item_row h6.out.1 HBD.out;obtain ⟨hs1,hs2⟩:=item_shape h6.out.1;have HC1:=lh (show (prog.info? 45).map (·.size)=some C.size from by rw [hs1];kernel_rfl);have HC2:=lh (show rec0.size=C.size from hs1.symm);have HC3:=lh hs2;have HC4:=lh hs1;clear hs1 hs2;refine ⟨_,rfl,s6,?_⟩;go_frame;refine wpAnyH_takeL (i:=11) (v:=.tuple #[.agg C,.int .i64 0]) rfl (by kernel_rfl) (by kernel_rfl) (by kernel_rfl) (fun _ _ _ h=>h) (yieldsIf_move rfl _ rfl rfl) s6 ?_;go_frame;refine wpAnyH_takeL (i:=12) (v:=.agg C) rfl (by kernel_rfl) (by kernel_rfl) (by kernel_rfl) (fun _ _ _ h=>h) (Or.inl ⟨rfl,fun w' _=>by go_simp⟩) s6 ?_;go_frame;refine wpAnyH_takeL (i:=13) (v:=.int .i64 0) rfl (by kernel_rfl) (by kernel_rfl) (by kernel_rfl) (fun _ _ _ h=>h) (Or.inl ⟨rfl,fun w' _=>by go_simp⟩) s6 ?_;go_frame;have s7:Ext w4 (w6.alloc (.cells rec0 45)):=s6.alloc _;refine wpAnyH_one (i:=14) (by kernel_rfl) rfl rfl (run_allocOp 45 rfl w6 rec0 ie hie hiz) s7 ?_;go_frame;refine wpAnyH_storeT (i:=15) (by kernel_rfl) rfl rfl 45 (.tmp 15) (.tmp 116) rfl (w6.heap.size) C rfl rfl 45 rec0 (HAL.out w6) HC1.out HC2.out HC3.out ?_;intro w8 hb8 ht8;have X48:=lh (show Ext w4 w8 from ht8.fresh s7 s6.size);have HU8:=lh (show HashU w8 (w2.heap.size+1) [] x u from (hU.to (ht8.fresh ((Ext.refl w6).alloc _) (Nat.le_refl _)) (show w2.heap.size+1<=w4.drew.heap.size from hlt6)));have HB15:=lh hb8;have HUB:=lh (show ∀ b,u.ownBlock=some b->w4.heap.size<=b from fun b hb=>Nat.le_trans (by first | exact Nat.le_refl _ | (simp only [size_alloc];exact Nat.le_succ _)) (hub b hb).1);have HCU:=lh hCu;refine ⟨X48.out,?_⟩;go_frame;obtain ⟨b15,hb15⟩:∃ b,b=w6.heap.size:=⟨_,rfl⟩;rw [<-hb15] at HB15 ⊢;clear hb8 ht8 hub hU h6 hb15;refine wpAnyH_takeL (i:=16) (v:=.int .i64 0) rfl (by kernel_rfl) (by kernel_rfl) (by kernel_rfl) (fun _ _ _ h=>h) (yieldsIf_assign rfl _ rfl rfl) X48.out ?_;go_frame;refine wpAnyH_done (by kernel_rfl) ?_ _
          case' halloc =>
           have s5:Ext w4 (w4.drew.alloc (.cells rec0 45)):=sS.alloc _;go_frame;refine wpAnyH_call (i:=10) (F:=86) (args:=#[.string x.1,.agg #[.int .i64 x.2.kind,.string x.2.data,.string x.2.target,.int .i64 x.2.time]]) (by kernel_rfl) rfl rfl (by go_simp) ?_;refine (HIt.out _ s5).mono ?_;rintro e w6 ⟨C,er,rfl,h6⟩;have s6:Ext w4 w6:=s5.trans h6.out.2;obtain ⟨rfl,u,hCu,hU,hub⟩:=item_row h6.out.1 HBD.out;obtain ⟨hs1,hs2⟩:=item_shape h6.out.1;have HC1:=lh (show (prog.info? 45).map (·.size)=some C.size from by rw [hs1];kernel_rfl);have HC2:=lh (show rec0.size=C.size from hs1.symm);have HC3:=lh hs2;have HC4:=lh hs1;clear hs1 hs2;refine ⟨_,rfl,s6,?_⟩;go_frame;refine wpAnyH_takeL (i:=11) (v:=.tuple #[.agg C,.int .i64 0]) rfl (by kernel_rfl) (by kernel_rfl) (by kernel_rfl) (fun _ _ _ h=>h) (yieldsIf_move rfl _ rfl rfl) s6 ?_;go_frame;refine wpAnyH_takeL (i:=12) (v:=.agg C) rfl (by kernel_rfl) (by kernel_rfl) (by kernel_rfl) (fun _ _ _ h=>h) (Or.inl ⟨rfl,fun w' _=>by go_simp⟩) s6 ?_;go_frame;refine wpAnyH_takeL (i:=13) (v:=.int .i64 0) rfl (by kernel_rfl) (by kernel_rfl) (by kernel_rfl) (fun _ _ _ h=>h) (Or.inl ⟨rfl,fun w' _=>by go_simp⟩) s6 ?_;go_frame;refine wpAnyH_storeT (i:=15) (by kernel_rfl) rfl rfl 45 (.tmp 15) (.tmp 116) rfl (w4.drew.heap.size) C rfl rfl 45 rec0 ((h6.out.2.block (ltB (HAL.out w4.drew))).trans (HAL.out w4.drew)) HC1.out HC2.out HC3.out ?_;intro w8 hb8 ht8;have X48:=lh (show Ext w4 w8 from ht8.fresh s6 (Nat.le_refl _));have HU8:=lh (show HashU w8 (w2.heap.size+1) [] x u from ((hU.touch ht8 (by rw [size_alloc];exact Nat.lt_succ_self _)).down (by rw [size_alloc];exact Nat.le_succ_of_le hlt6)));have HB15:=lh hb8;have HUB:=lh (show ∀ b,u.ownBlock=some b->w4.heap.size<=b from fun b hb=>Nat.le_trans (by first | exact Nat.le_refl _ | (simp only [size_alloc];exact Nat.le_succ _)) (hub b hb).1);have HCU:=lh hCu;refine ⟨X48.out,?_⟩;go_frame;obtain ⟨b15,hb15⟩:∃ b,b=w4.drew.heap.size:=⟨_,rfl⟩;rw [<-hb15] at HB15 ⊢;clear hb8 ht8 hub hU h6 hb15;refine wpAnyH_takeL (i:=16) (v:=.int .i64 0) rfl (by kernel_rfl) (by kernel_rfl) (by kernel_rfl) (fun _ _ _ h=>h) (yieldsIf_assign rfl _ rfl rfl) X48.out ?_;go_frame;refine wpAnyH_done (by kernel_rfl) ?_ _
          all_goals
           clear sS;have hF4:=HF4.out;have hrw:=hF4.row 0 (by decide);obtain ⟨ra,rc,hre⟩:=rowk_shape hrw;have HRE:=lh hre;obtain ⟨S,hS⟩:∃ S,S=fndR ig L (L.take k):=⟨_,rfl⟩;have HLN:=(fndR_len ig L (L.take k));rw [<-hS] at hre HRE hF4 hrw HLN HNX;have hln:S.items.length<=16384:=by have h1:=HLN.1;have h2:=List.length_take_le k L;omega
           have hF8:=hF4.ext X48.out;have c6:w8.cell? ⟨w2.heap.size,0,none⟩=some (.slice ra S.items.length rc):=(cellB hF8.blk).trans (by rw [<-show vs 0=.slice ra S.items.length rc from hre];rfl);have HOW:=lh (show w8.ownsRow (w2.heap.size+1) 45 27 (.slice ra S.items.length rc) S.items.length (rowsU S.items us) from (show vs 0=.slice ra S.items.length rc from hre)▸hF8.row 0 (by decide));have HF8:=lh hF8;have hlt8:w2.heap.size<w8.heap.size:=ltB hF8.blk;have X28:=lh (XQ4.out.trans X48.out);have HCL:=lh (show ∀ (j:Nat) z,(itemU x u)[j]?=some z->C[j]?=some z from fun j z hz=>by rw [HCU.out];simpa using hz);have HIL:=lh (itemU_len x u)
           have HIO:=lh (show ∀ z∈itemU x u,z.oneCell'=true from fun z hz=>by
            have h1:=HC3.out;rw [HCU.out,Array.all_eq_true_iff_forall_mem] at h1
            exact h1 z (by simpa using hz))
           have HUV:=lh (show ∀ b,u.ownBlock=some b->∀ i,i<4->(vs i).ownBlock≠some b from fun b hb i hi e=>by
            have h1:=HUB.out b hb;have h2:=(HF4.out.below i hi b e).2
            omega)
           have HN8:=lh (block_alloc_new w8 (.cells C 45 (0,0)));clear hre hrw hF4 HLN hS hF8
           go_wp2_with (first
            | (refine wpList_load_row rfl 45 (.tmp 15) rfl b15 rfl 45 C (0,0) _ HB15.out underlying45 rfl HC1.out ?_;go_frame)
            | (refine wpList_buildOne elRec (by decide) rfl (.tmp 120) rfl C rfl HC4.out ?_;go_frame)
            | (at_builtin;refine append_kw elRec (w2.heap.size+1) (.slice ra S.items.length rc) S.items.length (rowsU S.items us) (owns_ext HOW.out ((Ext.refl w8).alloc _)) w8.heap.size (itemU x u) HIL.out (.tmp 119) (.tmp 121) rfl rfl rfl rfl (fun j z hz=>(cellB HN8.out).trans (HCL.out j z hz)) HIO.out (by omega) (by simp only [size_alloc];omega) ?_;intro v9 w9 ho9 hg9 hir9 hv9;obtain ⟨g9,cap9,rfl,_⟩:=hir9;have HO9:=lh ho9;have HG9:=lh hg9;have HV9:=lh hv9;clear ho9 hg9 hv9;go_frame)
            | (refine wpList_store1 rfl _ _ _ rfl w2.heap.size 0 (.slice (some ⟨g9,0,none⟩) (S.items.length+1) cap9) rfl rfl (by kernel_rfl) rfl #[vs 0,vs 1,vs 2,vs 3] 67 ((HG9.out.block w2.heap.size (by simp only [size_alloc];omega) (fun e=>by have h1:=(HF8.out.below 0 (by decide) w2.heap.size (by rw [show vs 0=_ from HRE.out];exact e.symm)).1;omega)).trans ((((Ext.refl w8).alloc _).block hlt8).trans HF8.out.blk)) (by show 0<4;decide) ?_;intro w10 hw10;have HW10:=lh hw10;clear hw10;go_frame))
           have hg9:=HG9.out;have hv9:=HV9.out;rw [show Value.slice ra S.items.length rc=vs 0 from HRE.out.symm] at hg9 hv9;have hF9:=(HF8.out.ext ((Ext.refl w8).alloc (.cells C 45 (0,0)))).addItem x HO9.out hg9 hv9 (HU8.out.to ((Ext.refl w8).alloc _) (Nat.le_refl _)) HUV.out;rw [<-HW10.out] at hF9;have hX9:=Ext.setCell (grown_extB (w0:=w2) ((X28.out).alloc (.cells C 45 (0,0))) (by omega) (owns_ext HOW.out ((Ext.refl w8).alloc _)) HG9.out) (p:=⟨w2.heap.size,0,none⟩) (Nat.le_refl _) (.slice (some ⟨g9,0,none⟩) (S.items.length+1) cap9);rw [<-HW10.out] at hX9;go_roundw
           case rel=>exact ⟨k+1,_,_,by omega,by go_num,by rw [HNX.out];exact hF9,hX9⟩
           case measure=>simp [intOf] <;> omega
   ·obtain rfl:k=n:=by omega
    have nlt:decide ((k:Int)<(k:Int))=false:=by simp
    have HTK:=lh (show L.take k=L from by rw [HN.out,List.take_length]);have hF:=HFr.out;rw [HTK.out] at hF;have HFz:=lh hF;have HZr:=lh ((HXr.out.block hlt2).trans HZ2.out);obtain ⟨a0,k0,e0⟩:=rowk_shape (hF.row 0 (by decide));obtain ⟨a1,k1,e1⟩:=rowk_shape (hF.row 1 (by decide));obtain ⟨a2,k2,e2⟩:=rowk_shape (hF.row 2 (by decide));obtain ⟨a3,k3,e3⟩:=rowk_shape (hF.row 3 (by decide));have HA4:=lh (show (prog.info? 67).map (·.size)=some (#[vs 0,vs 1,vs 2,vs 3]:Array Value).size from by kernel_rfl);have HA5:=lh (show (#[vs 0,vs 1,vs 2,vs 3]:Array Value).all (·.oneCell')=true from by rw [e0,e1,e2,e3];simp [Value.oneCell']);clear hF e0 e1 e2 e3
    go_wp2_with (first
     | (refine wpList_load_row rfl 67 (.tmp 10) rfl w2.heap.size rfl 67 #[vs 0,vs 1,vs 2,vs 3] (0,0) _ HFz.out.blk underlying67 rfl HA4.out ?_;go_frame)
     | (refine wpList_storeT rfl _ _ _ rfl w.heap.size #[vs 0,vs 1,vs 2,vs 3] rfl rfl 67 _ HZr.out HA4.out rfl HA5.out ?_;intro w7 hb7 ht7;have HB7:=lh hb7;have HT7:=lh ht7;clear hb7 ht7;go_frame))
    obtain ⟨z0,z1,z2,z3,hC,k0,k1,k2,k3⟩:=(HFz.out.touch HT7.out (Nat.lt_succ_of_lt hlt2) (Nat.ne_of_lt hlt2)).row_items.items
    cases hC
    obtain ⟨i0,i1,i2,i3⟩:=HIS.out;rw [i0] at k0;rw [i1] at k1;rw [i2] at k2;rw [i3] at k3;exact bodyPost_ret (results_row1 rfl _ _ w.heap.size 67 _ (0,0) _ rfl HB7.out underlying67 rfl HA4.out) rfl ⟨_,_,_,_,rfl,⟨k0,k1,k2,k3,HT7.out.fresh (X2.out.trans HXr.out) (Nat.le_refl _)⟩⟩
 ·have hel:eachL D root=[]:=by unfold eachL;rw [if_neg hroot]
  have hne:decide (rootE D.live root=0)=false:=decide_eq_false hroot;rw [hel];generalize rootE D.live root=RE at *;clear h R H hel;unfold found0 at HX HZ HRt;go_enter func29,ntmps29;go_wp2_with fail;refine HRt.out.mono ?_;rintro e w1 ⟨rfl,x1⟩;have HZ1:=lh ((x1.block (ltB HZ.out)).trans HZ.out);have X1:=lh (HX.out.trans x1)
  go_wp2_with (first
   | (refine wpList_buildAs found0 rfl _ _ rfl (by kernel_rfl) ?_;go_frame)
   | (refine wpList_storeT rfl _ _ _ rfl w.heap.size found0 rfl rfl 67 _ HZ1.out HA1.out rfl HA3.out ?_;intro w7 hb7 ht7;have HB7:=lh hb7;have X7:=lh (ht7.fresh X1.out (Nat.le_refl _));clear hb7 ht7;go_frame))
  obtain ⟨z0,z1,z2,z3,hC,k0,k1,k2,k3⟩:=(FoundC.nothing 0 w7).items;have hC:found0=#[z0,z1,z2,z3]:=hC;refine bodyPost_ret (results_row1 rfl _ _ w.heap.size 67 _ (0,0) _ rfl HB7.out underlying67 rfl HA1.out) rfl ⟨z0,z1,z2,z3,by rw [hC];rfl,⟨k0,k1,k2,k3,X7.out⟩⟩
end
section
open Go.RowKit
def HsCells (w:World) (a:Option Addr) (n:Nat) (f:Nat->Int):Prop:=∀ j,j<n*32->∃ g,a=some ⟨g,0,none⟩/\g<w.heap.size/\w.cell? ⟨g,j,none⟩=some (.int .u8 (f j))
theorem HsCells.ext {w w':World} {a:Option Addr} {n:Nat} {f:Nat->Int} (h:HsCells w a n f) (x:Ext w w'):HsCells w' a n f:=fun j hj=>by
 obtain ⟨g,h1,h2,h3⟩:=h j hj;exact ⟨g,h1,Nat.lt_of_lt_of_le h2 x.size,(x.cell h2).trans h3⟩
set_option maxRecDepth 100000 in
set_option maxHeartbeats 2000000 in
theorem rhashes06_same (a b:Option Addr) (n c1 c2:Nat) (f:Nat->Int) (w:World) (hn:n<=64) (h1:n<=c1) (h2:n<=c2) (hA:HsCells w a n f) (hB:HsCells w b n f) :
  Calls prog 282 #[.slice a n c1,.slice b n c2] w fun e w'=>e=.returned (.int .i64 0)/\Ext w w':=by
 have HA:=lh hA;have HB:=lh hB;clear hA hB;go_enter func282,ntmps282;go_wp2_with fail;go_loopw [5] (fun iv wr=>Hid (∃ i:Nat,i<=n/\iv=.int .i64 i/\Ext w wr)) (fun iv _=>n - (intOf iv).toNat)
 case atStart=>exact ⟨0,Nat.zero_le _,rfl,Ext.refl _⟩
 case round =>
  obtain ⟨i,hi,rfl,hx⟩:=hrel.out;clear hrel;have HX:=lh hx;clear hx;by_cases hlt:i<n
  ·obtain ⟨wa,rfl⟩:∃ x,x=wr:=⟨_,rfl⟩;go_wp2_with fail;go_loopw [6] (fun kv wq=>Hid (∃ k:Nat,k<=32/\kv=.int .i64 k/\Ext wa wq)) (fun kv _=>32 - (intOf kv).toNat)
   case atStart=>exact ⟨0,Nat.zero_le _,rfl,Ext.refl _⟩
   case round =>
    obtain ⟨k,hk,rfl,hxq⟩:=hrel.out;clear hrel;have HXq:=lh hxq;clear hxq;by_cases hklt:k<32
    ·obtain ⟨g,rfl,_,hc⟩:=HA.out (i*32+k) (by omega);obtain ⟨g',rfl,_,hd⟩:=HB.out (i*32+k) (by omega);have X:=lh (HX.out.trans HXq.out);have b0:∀ z:After wr,z.v.cell? ⟨g,i*32+k,none⟩=some (.int .u8 (f (i*32+k))):=fun z=>((X.out.trans z.x).cell (lt_of_cell hc)).trans hc;have d0:∀ z:After wr,z.v.cell? ⟨g',i*32+k,none⟩=some (.int .u8 (f (i*32+k))):=fun z=>((X.out.trans z.x).cell (lt_of_cell hd)).trans hd;clear hc hd;generalize f (i*32+k)=y at *;go_wp2_with fail;refine wp_region_after (by kernel_rfl) (by kernel_rfl) ?_
     repeat (go_big_quiet_step (fail))
     refine wpQuiet_nil ?_;rintro _ ⟨z,rfl⟩;have HZx:=lh z.x;clear b0 d0;go_wp2_with fail;go_roundw
     case rel=>exact ⟨k+1,by omega,by go_num,HXq.out.trans HZx.out⟩
     case measure=>simp [intOf] <;> omega
    ·obtain rfl:k=32:=by omega
     go_wp2_with fail;go_roundw
     case rel=>exact ⟨i+1,by omega,by go_num,HX.out.trans HXq.out⟩
     case measure=>simp [intOf] <;> omega
  ·obtain rfl:i=n:=by omega
   have nlt:decide ((i:Int)<(i:Int))=false:=by simp
   go_wp2_with fail;go_ret;exact ⟨rfl,HX.out⟩
set_option maxRecDepth 100000 in
set_option maxHeartbeats 1000000 in
theorem rblocks06_same (a b:Option Addr) (n c1 c2:Nat) (f:Nat->Int) (w:World) (hn:n<=64) (h1:n<=c1) (h2:n<=c2) (hA:HsCells w a n f) (hB:HsCells w b n f) :
  Calls prog 225 #[.slice a n c1,.slice b n c2] w fun e w'=>e=.returned (.bool true)/\Ext w w':=by
 have H:=lh (rhashes06_same a b n c1 c2 f w hn h1 h2 hA hB);clear hA hB;go_enter func225,ntmps225;go_wp2_with fail;refine H.out.mono ?_;rintro e w1 ⟨rfl,x1⟩;go_wp2_with fail;go_ret;exact ⟨rfl,x1⟩
set_option maxRecDepth 100000 in
set_option maxHeartbeats 2000000 in
theorem rcontent06_same (p:ByteArray) (n:Nd) (sz bs:Int) (a b:Option Addr) (m c1 c2:Nat) (f:Nat->Int) (w:World) (hm:m<=64) (h1:m<=c1) (h2:m<=c2) (hA:HsCells w a m f) (hB:HsCells w b m f) :
  Calls prog 161 #[.agg (itemC p n sz bs (.slice a m c1)),.agg (itemC p n sz bs (.slice b m c2))] w fun e w'=>e=.returned (.bool true)/\Ext w w':=by
 have H:=lh (fun w' (x:Ext w w')=>rblocks06_same a b m c1 c2 f w' hm h1 h2 (hA.ext x) (hB.ext x));clear hA hB;obtain ⟨nk,nd,nt,nm⟩:=n;unfold itemC;dsimp only;go_enter func161,ntmps161;go_wp2_with fail;refine (H.out _ (((Ext.refl w).alloc _).alloc _)).mono ?_;rintro e w1 ⟨rfl,x1⟩;have X1:=lh ((((Ext.refl w).alloc _).alloc _).trans x1);clear x1;go_wp2_with fail;go_ret;exact ⟨rfl,X1.out⟩
theorem eq_vec0 (w:World):(Go.Op.equalIn 10000 42 (.agg #[.int .u32 0,.int .u32 0,.int .u32 0,.int .u32 0,.int .u32 0,.int .u32 0,.int .u32 0,.int .u32 0,.int .u32 0,.int .u32 0,.int .u32 0,.int .u32 0,.int .u32 0,.int .u32 0,.int .u32 0,.int .u32 0]) (.agg #[.int .u32 0,.int .u32 0,.int .u32 0,.int .u32 0,.int .u32 0,.int .u32 0,.int .u32 0,.int .u32 0,.int .u32 0,.int .u32 0,.int .u32 0,.int .u32 0,.int .u32 0,.int .u32 0,.int .u32 0,.int .u32 0])).run prog w=.ok true w:=by kernel_rfl
theorem wpList_box2 {P:Program} {ops:Array Oper} {rest:List Oper} {o1 o2:Oper} {a:Act} {w:World} {Q:Exit->Act->World->Prop} (g1:o1.guard=none) (g2:o2.guard=none) (ty:TypeId) (x y:Operand) (h1:o1.op=.box ty x) (h2:o2.op=.box ty y)
  (C1 C2:Array Value) (hx:a.eval x=.agg C1) (hy:(a.put o1.dst (.pointer (some ⟨w.heap.size,0,none⟩))).eval y=.agg C2) (W:World) (hW:W=(w.alloc (.cells C1 ty (0,0))).alloc (.cells C2 ty (0,0)))
  (h:wpList P ops Q rest ((a.put o1.dst (.pointer (some ⟨w.heap.size,0,none⟩))).put o2.dst (.pointer (some ⟨w.heap.size+1,0,none⟩))) W):wpList P ops Q (o1::o2::rest) a w:=by
 refine wpList_plain g1 fun K hK=>?_;unfold Oper.wp;rw [run_boxOp ty x h1 w C1 (by rw [hx];rfl)];refine hK _ _ (wpList_plain g2 fun K2 hK2=>?_);unfold Oper.wp;rw [run_boxOp ty y h2 _ C2 (by rw [hy];rfl),size_alloc];refine hK2 _ _ ?_;rw [hW] at h;exact h
theorem wpList_load_row_g {P:Program} {ops:Array Oper} {rest:List Oper} {op:Oper} {a:Act} {w:World} {Q:Exit->Act->World->Prop} (hw:Region.wanted op (yielded ops a.tmps)=true) (ty:TypeId) (x:Operand) (ho:op.op=.load ty x)
  (g:Nat) (hx:a.eval x=.pointer (some ⟨g,0,none⟩)) (t:TypeId) (cs:Array Value) (fr:Nat×Nat) (d:TypeDesc) (hg:w.heap[g]?=some (.cells cs t fr))
  (hu:P.underlying ty=some d) (hd:(match d with | .struct _ | .array _ _=>true | _=>false)=true) (hi:(P.info? ty).map (·.size)=some cs.size)
  (h:wpList P ops Q rest (a.put op.dst (.agg cs)) w):wpList P ops Q (op::rest) a w :=
 BigFrame.wpList_want hw fun K hK=>by
  have h2:=hK _ _ h;unfold Oper.wp execOp;simp only [ho,hx,Instr.loadAt,Instr.sureAddr,Sem.run_bind,Sem.run_pure,Result.andThen_ok,run_loadVar_row w g t ty cs fr d hg hu hd hi];exact h2
theorem wpList_load_at_g {P:Program} {ops:Array Oper} {rest:List Oper} {op:Oper} {a:Act} {w:World} {Q:Exit->Act->World->Prop} (hw:Region.wanted op (yielded ops a.tmps)=true) (ty:TypeId) (x:Operand) (ho:op.op=.load ty x)
  (b o:Nat) (hx:a.eval x=.pointer (some ⟨b,o,none⟩)) (cs:Array Value) (d:TypeDesc) (hc:w.rangeAt b o cs.toList)
  (hu:P.underlying ty=some d) (hd:d.isRow=true) (hi:(P.info? ty).map (·.size)=some cs.size)
  (h:wpList P ops Q rest (a.put op.dst (.agg cs)) w):wpList P ops Q (op::rest) a w :=
 BigFrame.wpList_want hw fun K hK=>by
  have h2:=hK _ _ h;unfold Oper.wp execOp;simp only [ho,hx,Instr.loadAt,Instr.sureAddr,Sem.run_bind,Sem.run_pure,Result.andThen_ok,run_loadVar_mid w b o ty cs.toList d hc hu hd (by rw [hi];simp)];exact h2
set_option maxRecDepth 100000 in
set_option maxHeartbeats 2000000 in
theorem rsame06_same (p:ByteArray) (n:Nd) (sz bs:Int) (a b:Option Addr) (m c1 c2:Nat) (f:Nat->Int) (w:World) (hm:m<=64) (h1:m<=c1) (h2:m<=c2) (hA:HsCells w a m f) (hB:HsCells w b m f) :
  Calls prog 90 #[.agg (itemC p n sz bs (.slice a m c1)),.agg (itemC p n sz bs (.slice b m c2))] w fun e w'=>e=.returned (.bool true)/\Ext w w':=by
 have H:=lh (fun w' (x:Ext w w')=>rcontent06_same p n sz bs a b m c1 c2 f w' hm h1 h2 (hA.ext x) (hB.ext x));clear hA hB;obtain ⟨nk,nd,nt,nm⟩:=n;have HS1:=lh (show (prog.info? 45).map (·.size)=some (itemC p ⟨nk,nd,nt,nm⟩ sz bs (.slice a m c1)).size from by kernel_rfl);have HS2:=lh (show (prog.info? 45).map (·.size)=some (itemC p ⟨nk,nd,nt,nm⟩ sz bs (.slice b m c2)).size from by kernel_rfl);generalize hC1:itemC p ⟨nk,nd,nt,nm⟩ sz bs (.slice a m c1)=C1 at *;generalize hC2:itemC p ⟨nk,nd,nt,nm⟩ sz bs (.slice b m c2)=C2 at *;obtain ⟨W,hW⟩:∃ W,W=(w.alloc (.cells C1 45 (0,0))).alloc (.cells C2 45 (0,0)):=⟨_,rfl⟩;have XW:=lh (show Ext w W from hW▸((Ext.refl w).alloc _).alloc _);have HB1:=lh (show W.heap[w.heap.size]?=some (.cells C1 45 (0,0)) from by rw [hW];exact (block_alloc_old (by simp only [size_alloc];omega)).trans (block_alloc_new _ _));have HB2:=lh (show W.heap[w.heap.size+1]?=some (.cells C2 45 (0,0)) from by rw [hW];have:=block_alloc_new (w.alloc (.cells C1 45 (0,0))) (.cells C2 45 (0,0));rwa [size_alloc] at this);have a0:W.cell? ⟨w.heap.size,0,none⟩=some (.string p):=(cellB HB1.out).trans (by rw [<-hC1];rfl);have b0:W.cell? ⟨w.heap.size+1,0,none⟩=some (.string p):=(cellB HB2.out).trans (by rw [<-hC2];rfl);have a4:W.cell? ⟨w.heap.size,4,none⟩=some (.int .i64 nm):=(cellB HB1.out).trans (by rw [<-hC1];rfl);have b4:W.cell? ⟨w.heap.size+1,4,none⟩=some (.int .i64 nm):=(cellB HB2.out).trans (by rw [<-hC2];rfl);have a5:W.cell? ⟨w.heap.size,5,none⟩=some (.int .i64 0):=(cellB HB1.out).trans (by rw [<-hC1];rfl);have b5:W.cell? ⟨w.heap.size+1,5,none⟩=some (.int .i64 0):=(cellB HB2.out).trans (by rw [<-hC2];rfl);have a22:W.cell? ⟨w.heap.size,22,none⟩=some (.int .i64 bs):=(cellB HB1.out).trans (by rw [<-hC1];rfl);have b22:W.cell? ⟨w.heap.size+1,22,none⟩=some (.int .i64 bs):=(cellB HB2.out).trans (by rw [<-hC2];rfl);have a26:W.cell? ⟨w.heap.size,26,none⟩=some (.int .i64 0):=(cellB HB1.out).trans (by rw [<-hC1];rfl);have b26:W.cell? ⟨w.heap.size+1,26,none⟩=some (.int .i64 0):=(cellB HB2.out).trans (by rw [<-hC2];rfl)
 have HV1:=lh (show W.rangeAt w.heap.size 6 (#[.int .u32 0,.int .u32 0,.int .u32 0,.int .u32 0,.int .u32 0,.int .u32 0,.int .u32 0,.int .u32 0,.int .u32 0,.int .u32 0,.int .u32 0,.int .u32 0,.int .u32 0,.int .u32 0,.int .u32 0,.int .u32 0]:Array Value).toList from fun j z hz=>by
  refine (cellB HB1.out).trans ?_;rw [<-hC1];have hj:j<16:=(List.getElem?_eq_some_iff.1 hz).1;obtain rfl | rfl | rfl | rfl | rfl | rfl | rfl | rfl | rfl | rfl | rfl | rfl | rfl | rfl | rfl | rfl:j=0\/j=1\/j=2\/j=3\/j=4\/j=5\/j=6\/j=7\/j=8\/j=9\/j=10\/j=11\/j=12\/j=13\/j=14\/j=15:=by omega
  all_goals exact hz)
 have HV2:=lh (show W.rangeAt (w.heap.size+1) 6 (#[.int .u32 0,.int .u32 0,.int .u32 0,.int .u32 0,.int .u32 0,.int .u32 0,.int .u32 0,.int .u32 0,.int .u32 0,.int .u32 0,.int .u32 0,.int .u32 0,.int .u32 0,.int .u32 0,.int .u32 0,.int .u32 0]:Array Value).toList from fun j z hz=>by
  refine (cellB HB2.out).trans ?_;rw [<-hC2];have hj:j<16:=(List.getElem?_eq_some_iff.1 hz).1;obtain rfl | rfl | rfl | rfl | rfl | rfl | rfl | rfl | rfl | rfl | rfl | rfl | rfl | rfl | rfl | rfl:j=0\/j=1\/j=2\/j=3\/j=4\/j=5\/j=6\/j=7\/j=8\/j=9\/j=10\/j=11\/j=12\/j=13\/j=14\/j=15:=by omega
  all_goals exact hz)
 have HWW:=lh hW;clear hC1 hC2 hW;have HEV:=eq_vec0 W;go_enter func90,ntmps90
 go_wp2_with (first
  | (refine wpList_box2 rfl rfl 45 (.tmp 0) (.tmp 1) rfl rfl C1 C2 rfl rfl W HWW.out ?_;go_frame)
  | (refine wpList_load_at_g ?_ 42 (.tmp 25) rfl (w.heap.size) 6 rfl #[.int .u32 0,.int .u32 0,.int .u32 0,.int .u32 0,.int .u32 0,.int .u32 0,.int .u32 0,.int .u32 0,.int .u32 0,.int .u32 0,.int .u32 0,.int .u32 0,.int .u32 0,.int .u32 0,.int .u32 0,.int .u32 0] _ HV1.out underlying42 rfl (by kernel_rfl) ?_;(focus (simp [Region.wanted,yielded];done));go_frame)
  | (refine wpList_load_at_g ?_ 42 (.tmp 27) rfl (w.heap.size+1) 6 rfl #[.int .u32 0,.int .u32 0,.int .u32 0,.int .u32 0,.int .u32 0,.int .u32 0,.int .u32 0,.int .u32 0,.int .u32 0,.int .u32 0,.int .u32 0,.int .u32 0,.int .u32 0,.int .u32 0,.int .u32 0,.int .u32 0] _ HV2.out underlying42 rfl (by kernel_rfl) ?_;(focus (simp [Region.wanted,yielded];done));go_frame)
  | (refine wpList_load_row_g ?_ 45 (.tmp 2) rfl w.heap.size rfl 45 C1 (0,0) _ HB1.out underlying45 rfl HS1.out ?_;(focus (simp [Region.wanted,yielded];done));go_frame)
  | (refine wpList_load_row_g ?_ 45 (.tmp 3) rfl (w.heap.size+1) rfl 45 C2 (0,0) _ HB2.out underlying45 rfl HS2.out ?_;(focus (simp [Region.wanted,yielded];done));go_frame)
)
 refine (H.out _ XW.out).mono ?_;rintro e w1 ⟨rfl,x1⟩;have X1:=lh (XW.out.trans x1);clear x1;go_wp2_with fail;go_ret;exact ⟨rfl,X1.out⟩
set_option maxRecDepth 100000 in
set_option maxHeartbeats 2000000 in
theorem rwhole06_same (p:ByteArray) (n:Nd) (sz bs:Int) (a b:Option Addr) (m c1 c2:Nat) (f:Nat->Int) (w:World) (hm:m<=64) (h1:m<=c1) (h2:m<=c2) (hA:HsCells w a m f) (hB:HsCells w b m f) :
  Calls prog 36 #[.agg (itemC p n sz bs (.slice a m c1)),.agg (itemC p n sz bs (.slice b m c2))] w fun e w'=>e=.returned (.bool true)/\Ext w w':=by
 have H:=lh (fun w' (x:Ext w w')=>rsame06_same p n sz bs a b m c1 c2 f w' hm h1 h2 (hA.ext x) (hB.ext x));clear hA hB;obtain ⟨nk,nd,nt,nm⟩:=n;have HS1:=lh (show (prog.info? 45).map (·.size)=some (itemC p ⟨nk,nd,nt,nm⟩ sz bs (.slice a m c1)).size from by kernel_rfl);have HS2:=lh (show (prog.info? 45).map (·.size)=some (itemC p ⟨nk,nd,nt,nm⟩ sz bs (.slice b m c2)).size from by kernel_rfl);generalize hC1:itemC p ⟨nk,nd,nt,nm⟩ sz bs (.slice a m c1)=C1 at *;generalize hC2:itemC p ⟨nk,nd,nt,nm⟩ sz bs (.slice b m c2)=C2 at *;obtain ⟨W,hW⟩:∃ W,W=(w.alloc (.cells C1 45 (0,0))).alloc (.cells C2 45 (0,0)):=⟨_,rfl⟩;have XW:=lh (show Ext w W from hW▸((Ext.refl w).alloc _).alloc _);have HB1:=lh (show W.heap[w.heap.size]?=some (.cells C1 45 (0,0)) from by rw [hW];exact (block_alloc_old (by simp only [size_alloc];omega)).trans (block_alloc_new _ _));have HB2:=lh (show W.heap[w.heap.size+1]?=some (.cells C2 45 (0,0)) from by rw [hW];have:=block_alloc_new (w.alloc (.cells C1 45 (0,0))) (.cells C2 45 (0,0));rwa [size_alloc] at this);have a25:W.cell? ⟨w.heap.size,25,none⟩=some (.int .i64 0):=(cellB HB1.out).trans (by rw [<-hC1];rfl);have b25:W.cell? ⟨w.heap.size+1,25,none⟩=some (.int .i64 0):=(cellB HB2.out).trans (by rw [<-hC2];rfl);have HWW:=lh hW;clear hC1 hC2 hW;go_enter func36,ntmps36
 go_wp2_with (first
  | (refine wpList_box2 rfl rfl 45 (.tmp 0) (.tmp 1) rfl rfl C1 C2 rfl rfl W HWW.out ?_;go_frame)
  | (refine wpList_load_row_g ?_ 45 (.tmp 2) rfl w.heap.size rfl 45 C1 (0,0) _ HB1.out underlying45 rfl HS1.out ?_;(focus (simp [Region.wanted,yielded];done));go_frame)
  | (refine wpList_load_row_g ?_ 45 (.tmp 3) rfl (w.heap.size+1) rfl 45 C2 (0,0) _ HB2.out underlying45 rfl HS2.out ?_;(focus (simp [Region.wanted,yielded];done));go_frame)
)
 refine (H.out _ XW.out).mono ?_;rintro e w1 ⟨rfl,x1⟩;have X1:=lh (XW.out.trans x1);clear x1;go_wp2_with fail;go_ret;exact ⟨rfl,X1.out⟩
end
section
open Go.RowKit
def szX (x:ByteArray×Nd):Int:=if x.2.kind=1 then (x.2.data.size:Nat) else 0
def bsX (x:ByteArray×Nd):Int:=if x.2.kind=1 then (sizeN x.2.data.size:Nat) else 0
def mX (x:ByteArray×Nd):Nat:=if x.2.kind=1 then countN x.2.data.size else 0
def fX (x:ByteArray×Nd) (j:Nat):Int:=(((hashesL x.2.data.toList).flatten.getD j 0).toNat:Nat)
theorem hrow_flat (hs:List (List UInt8)):hrow hs=hs.flatten.map bv:=by
 unfold hrow
 induction hs with
 | nil=>rfl
 | cons h t ih=>simp only [List.flatMap_cons,List.flatten_cons,List.map_append,ih]
theorem hs_cells {w:World} {base:Nat} {u:Value} {n:Nat} {hs:List (List UInt8)} (h:w.ownsRow base 54 32 u n (hrow hs)):∃ a c,u=.slice a n c/\n<=c/\HsCells w a n fun j=>((hs.flatten.getD j 0).toNat:Nat):=by
 obtain ⟨a,c,e,h1,_,_,h2⟩:=row_cells h;refine ⟨a,c,e,h1,fun j hj=>?_⟩;have hl:(hrow hs).length=n*32:=h.1;have hj2:j<hs.flatten.length:=by rw [hrow_flat,List.length_map] at hl;omega
 obtain ⟨g,e1,_,e2,e3⟩:=h2 j (bv hs.flatten[j]) (by rw [hrow_flat,List.getElem?_map,List.getElem?_eq_getElem hj2];rfl);exact ⟨g,e1,e2,by rw [e3];show _=some (Value.int .u8 ((hs.flatten.getD j 0).toNat:Nat));rw [List.getD_eq_getElem?_getD,List.getElem?_eq_getElem hj2];rfl⟩
theorem item_cells {w:World} {x:ByteArray×Nd} {u:Value} (h:HashU w 0 [] x u):∃ a c,itemU x u=(itemC x.1 x.2 (szX x) (bsX x) (.slice a (mX x) c)).toList/\mX x<=c/\mX x<=64/\HsCells w a (mX x) (fX x):=by
 rcases h with ⟨h1,rfl⟩ | ⟨h1,h2,h3,_⟩
 ·refine ⟨none,0,?_,?_,?_,?_⟩
  ·unfold itemU szX bsX mX;rw [if_neg h1,if_neg h1,if_neg h1,if_neg h1]
  ·unfold mX;rw [if_neg h1];exact Nat.le_refl _
  ·unfold mX;rw [if_neg h1];omega
  ·intro j hj;unfold mX at hj;rw [if_neg h1] at hj;omega
 ·obtain ⟨a,c,rfl,k1,k2⟩:=hs_cells h3;have hm:mX x=countN x.2.data.size:=by unfold mX;rw [if_pos h1]
  rw [hm];refine ⟨a,c,?_,k1,Nat.le_trans (count_le h2) (by decide),k2⟩;unfold itemU szX bsX;rw [if_pos h1,if_pos h1,if_pos h1]
set_option maxRecDepth 100000 in
set_option maxHeartbeats 2000000 in
theorem rlist06_same {w:World} {v1 v2:Value} {l:Nodes} (h1:ItemsAt w v1 l) (h2:ItemsAt w v2 l) (hl:l.length<=16384) :
  Calls prog 30 #[v1,v2] w fun e w'=>e=.returned (.bool true)/\Ext w w':=by
 obtain ⟨a1,c1,rfl,p1,p2,p3⟩:=h1;obtain ⟨a2,c2,rfl,q1,q2,q3⟩:=h2;have HP:=lh p3;have HQ:=lh q3;obtain ⟨n,hn⟩:∃ n,n=l.length:=⟨_,rfl⟩;have HN:=lh hn;rw [<-hn] at hl p1 q1 ⊢;clear p3 q3 hn;have n0:((n:Int) != (n:Int))=false:=by simp
 go_enter func30,ntmps30;go_wp2_with fail;go_loopw [5] (fun iv wr=>Hid (∃ i:Nat,i<=n/\iv=.int .i64 i/\Ext w wr)) (fun iv _=>n - (intOf iv).toNat)
 case atStart=>exact ⟨0,Nat.zero_le _,rfl,Ext.refl _⟩
 case round =>
  obtain ⟨i,hi,rfl,hx⟩:=hrel.out;clear hrel;have HX:=lh hx;clear hx;by_cases hlt:i<n
  ·obtain ⟨x,hxi⟩:∃ x,l[i]?=some x:=⟨_,List.getElem?_eq_getElem (by have:=HN.out;omega)⟩;obtain ⟨g1,u1,rfl,hu1,hc1⟩:=HP.out i x hxi;obtain ⟨g2,u2,rfl,hu2,hc2⟩:=HQ.out i x hxi;obtain ⟨b1,d1,e1,k1,km,f1⟩:=item_cells hu1;obtain ⟨b2,d2,e2,k2,_,f2⟩:=item_cells hu2;rw [e1] at hc1;rw [e2] at hc2;have HW:=lh (fun w' (y:Ext w w')=>rwhole06_same x.1 x.2 (szX x) (bsX x) b1 b2 (mX x) d1 d2 (fX x) w' km k1 k2 (f1.ext y) (f2.ext y));have HS1:=lh (show (prog.info? 45).map (·.size)=some (itemC x.1 x.2 (szX x) (bsX x) (.slice b1 (mX x) d1)).size from by kernel_rfl);have HS2:=lh (show (prog.info? 45).map (·.size)=some (itemC x.1 x.2 (szX x) (bsX x) (.slice b2 (mX x) d2)).size from by kernel_rfl)
   have HR1:=lh (show ∀ w',(∃ z:After wr,w'=z.v)->w'.rangeAt g1 (i*27) (itemC x.1 x.2 (szX x) (bsX x) (.slice b1 (mX x) d1)).toList from by
    rintro _ ⟨z,rfl⟩ j y hy
    exact ((HX.out.trans z.x).cell (lt_of_cell (hc1 j y hy))).trans (hc1 j y hy))
   have HR2:=lh (show ∀ w',(∃ z:After wr,w'=z.v)->w'.rangeAt g2 (i*27) (itemC x.1 x.2 (szX x) (bsX x) (.slice b2 (mX x) d2)).toList from by
    rintro _ ⟨z,rfl⟩ j y hy
    exact ((HX.out.trans z.x).cell (lt_of_cell (hc2 j y hy))).trans (hc2 j y hy))
   clear hu1 hu2 hc1 hc2 e1 e2 f1 f2 hxi;generalize itemC x.1 x.2 (szX x) (bsX x) (.slice b1 (mX x) d1)=C1 at *;generalize itemC x.1 x.2 (szX x) (bsX x) (.slice b2 (mX x) d2)=C2 at *;go_wp2_with fail;refine wp_region_after (by kernel_rfl) (by kernel_rfl) ?_
   iterate 3 go_big_quiet_step (fail)
   refine wpQuiet_load_at rfl 45 (.tmp 19) rfl g1 (i*27) rfl C1 _ HR1.out underlying45 rfl HS1.out ?_;go_frame
   iterate 3 go_big_quiet_step (fail)
   refine wpQuiet_load_at rfl 45 (.tmp 23) rfl g2 (i*27) rfl C2 _ HR2.out underlying45 rfl HS2.out ?_;go_frame;go_big_quiet_step (exact After.of (HW.out _ (HX.out.trans (After.x _))))
   repeat (go_big_quiet_step (fail))
   refine wpQuiet_nil ?_;rintro _ ⟨z,rfl⟩;have HZx:=lh z.x;go_wp2_with fail;go_roundw
   case rel=>exact ⟨i+1,by omega,by go_num,HX.out.trans HZx.out⟩
   case measure=>simp [intOf] <;> omega
  ·obtain rfl:i=n:=by omega
   have nlt:decide ((i:Int)<(i:Int))=false:=by simp
   go_wp2_with fail;go_ret;exact ⟨rfl,HX.out⟩
set_option maxHeartbeats 1000000 in
theorem same17_true (l:List ByteArray) (a b:Option Addr) (c1 c2:Nat) (w:World) (h1:TextsOwn w (.slice a l.length c1) l) (h2:TextsOwn w (.slice b l.length c2) l) (q1:l.length<=c1) (q2:c1<=9223372036854775807) :
  Calls prog 31 #[.slice a l.length c1,.slice b l.length c2] w fun e w'=>e=.returned (.bool true)/\Ext w w':=by
 have H:=lh (rsame_true l a b c1 c2 w h1 h2 q1 q2);clear h1 h2;go_enter func31,ntmps31;go_wp2_with fail;refine H.out.mono ?_;rintro e w1 ⟨rfl,x1⟩;go_wp2_with fail;go_ret;exact ⟨rfl,x1⟩
end
end Go.Proofs.YtodickpibbbiiaaGreatDoor
