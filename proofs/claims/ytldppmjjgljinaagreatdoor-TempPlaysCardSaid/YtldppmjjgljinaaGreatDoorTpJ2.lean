import Derived.Test.YtldppmjjgljinaaGreatDoorTpJ1
open Go.Proofs.Tryz
namespace Go.Proofs.YtldppmjjgljinaaGreatDoor
open Go.RowKit
section
theorem NextPost.from_ext {w w1 w':World} {room:Nat} {R:Int×Nodes} {e:Ending} (x:Ext w w1) (h:NextPost w1 room R e w'):NextPost w room R e w':=by
 obtain ⟨h1,h2⟩:=h;refine ⟨x.trans h1,h2.imp (fun ⟨a,t,v,b,c,d,f⟩=>⟨a,t,v,b,c,Nat.le_trans x.size d,fun z hz=>Nat.le_trans x.size (f z hz)⟩) id⟩
theorem cutTo_ge {most:Nat} {d:ByteArray} (h:d.size<=most):cutTo most d=d:=by
 apply ba_ext;unfold cutTo;rw [toList_extract,List.drop_zero,List.take_of_length_le (by rw [len_toList];omega)]
def dataC (pk:Bool) (most:Nat) (data:ByteArray):ByteArray:=if pk then cutTo most data else data
theorem dataC_cut {most:Nat} {data:ByteArray} (h:most<data.size):data.extract 0 most=dataC true most data:=by
 unfold dataC cutTo;rw [if_pos rfl,Nat.min_eq_left (by omega)]
theorem dataC_all {pk:Bool} {most:Nat} {data:ByteArray} (h:pk=false\/data.size<=most):dataC pk most data=data:=by
 unfold dataC;rcases h with h | h
 ·rw [h];rfl
 ·split
  ·exact cutTo_ge h
  ·rfl
theorem dataC_le (pk:Bool) (most:Nat) (data:ByteArray):(dataC pk most data).size<=data.size:=by
 unfold dataC;split
 ·unfold cutTo;simp;omega
 ·exact Nat.le_refl _
theorem kind_at {l:Nodes} {room:Nat} (O:TreeOk l room) {p:ByteArray} (hp:mayB p=true):kindAt l p=(match findA l p with | some o=>o.kind | none=>0)/\∀ o,findA l p=some o->o.kind=1\/o.kind=2\/o.kind=3 :=
 ⟨by unfold kindAt;rw [mayB_nonempty hp];rfl,fun _ h=>O.kind _ (findA_mem h)⟩
set_option maxRecDepth 100000 in
set_option maxHeartbeats 8000000 in
theorem rnext_write (t:Nat) (v:Value) (l:Nodes) (room:Nat) (p q data:ByteArray) (tm:Int) (most:Nat) (pk:Bool) (w:World) (T:RTreeAt w t v l room) (O:TreeOk l room) (hr:room<=1048576) (hp:mayB p=true) (hd:data.size<=1048576) :
  Calls prog 102 #[.pointer (some ⟨t,0,none⟩),.agg #[.int .i64 1,.string p,.string q,.string data,.int .i64 tm,.int .i64 most,.bool pk]] w (NextPost w room (writeE l room p (dataC pk most data) tm)):=by
 have hlen:l.length<=16384:=by have:=len_used l;have:=O.used;omega
 have zp:=mayB_size hp;have HT:=lh T;have HOk:=lh O;have HP:=lh hp;obtain ⟨W1,hW1⟩:∃ W1,W1=w.alloc (.cells #[.int .i64 1,.string p,.string q,.string data,.int .i64 tm,.int .i64 most,.bool pk] 163 (0,0)):=⟨_,rfl⟩;have x1:Ext w W1:=hW1▸(Ext.refl w).alloc _;have HX1:=lh x1;have HBX:=lh (show W1.heap[w.heap.size]?=some (.cells #[.int .i64 1,.string p,.string q,.string data,.int .i64 tm,.int .i64 most,.bool pk] 163 (0,0)) from hW1▸block_alloc_new _ _);have HKi:=lh (rkind_any t v l room p W1 (T.ext x1) (by omega));have HKF:=lh (kind_at O hp);have hcl:=dataC_le pk most data;have HCut:=lh (fun (h:most<data.size)=>dataC_cut h);have HAll:=lh (fun (h:pk=false\/data.size<=most)=>dataC_all h);have HR:=lh (show writeE l room p (dataC pk most data) tm=if homeE l p=0 then (if fileE l p=0 then putE l room p ⟨1,dataC pk most data,emp,tm⟩ else (fileE l p,l)) else (homeE l p,l) from rfl);have HFi:=lh (show fileE l p=match findA l p with | some n=>if n.kind=2 then 12 else if n.kind=3 then 11 else 0 | none=>0 from rfl);have HHo:=fun w' (x:Ext w w')=>lh (rhome_any t v l room p w' (T.ext x) (by omega) (by omega));generalize writeE l room p (dataC pk most data) tm=R at *;generalize homeE l p=H at *;obtain ⟨kd,hkd⟩:∃ kd,kd=kindAt l p:=⟨_,rfl⟩;rw [<-hkd] at HKi HKF;clear hkd;subst hW1;clear T O hp x1;go_enter func102,ntmps102;go_wp2_with fail;refine HKi.out.mono ?_;rintro e w1 ⟨rfl,hw⟩;obtain rfl:=hw.symm;clear hw;obtain ⟨c,hc⟩:∃ c,c=dataC pk most data:=⟨_,rfl⟩;rw [<-hc] at hcl HR;have HCC:=lh hc;clear hc;rcases pk with _ | _
 case' false =>
  obtain rfl:c=data:=HCC.out.trans (HAll.out (.inl rfl));clear HCC HAll HCut;go_wp2_with fail
 case' true =>
  by_cases hlt:most<data.size
  case' pos =>
   have hcx:data.extract 0 most=c:=(HCut.out hlt).trans HCC.out.symm;have hd1:decide ((most:Int)<(data.size:Int))=true:=by rw [decide_eq_true_eq];omega
   have hd2:(most:Int)<=(data.size:Int):=by omega
   clear HCC HAll HCut;go_wp2_with fail;clear hcx hd1 hd2 hlt
  case' neg =>
   obtain rfl:c=data:=HCC.out.trans (HAll.out (.inr (by omega)));have hd1:decide ((most:Int)<(c.size:Int))=false:=by rw [decide_eq_false_iff_not];omega
   clear HCC HAll HCut;go_wp2_with fail;clear hd1 hlt
 all_goals
  refine (HHo _ HX1.out).out.mono ?_;rintro e w3 ⟨rfl,x3⟩;have HXc:=lh (HX1.out.trans x3);have hbx:=(x3.block (ltB HBX.out)).trans HBX.out;have cb0:=cellB (k:=0) hbx;have cb1:=cellB (k:=1) hbx;have cb4:=cellB (k:=4) hbx;have hbl:=ltB hbx;clear x3 hbx HHo HKi;by_cases hh:H=0
  ·subst hh;have HR2:=lh (HR.out.trans (if_pos rfl));clear HR
   have HF2:=lh (show fileE l p=if kd=2 then 12 else if kd=3 then 11 else 0 from by
    rw [HFi.out];obtain ⟨h1,_⟩:=HKF.out
    cases hf:findA l p with
    | none=>rw [hf] at h1;simp only at h1;rw [h1];rfl
    | some o=>rw [hf] at h1;simp only at h1;rw [h1])
   by_cases k2:kd=2
   ·subst k2;have HR3:=lh (show R=(12,l) from by rw [HR2.out,HF2.out];rfl);go_wp2_with fail;go_ret2;exact NextPost.err (by rw [HR3.out]) (by decide) HXc.out
   ·by_cases k3:kd=3
    ·subst k3;have HR3:=lh (show R=(11,l) from by rw [HR2.out,HF2.out];rfl);go_wp2_with fail;go_ret2;exact NextPost.err (by rw [HR3.out]) (by decide) HXc.out
    ·have q2:(kd==2)=false:=by rw [beq_eq_false_iff_ne];exact k2
     have q3:(kd==3)=false:=by rw [beq_eq_false_iff_ne];exact k3
     have HPu:=lh (show R=putE l room p ⟨1,c,⟨#[]⟩,tm⟩ from by rw [HR2.out,HF2.out,if_neg k2,if_neg k3,if_pos rfl];rfl);clear HR2 HF2 HFi HKF;have HWt:=fun w' (x:Ext w w')=>lh (rwith_any t v l room p (1) (tm) (c) (⟨#[]⟩) w' (HT.out.ext x) HOk.out.sorted (by omega) (by omega) (fun y hy=>by have:=mayB_size (HOk.out.may y hy);omega));go_wp2_with fail;refine (HWt _ (by repeat (first | exact Ext.refl _ | exact HXc.out | refine Ext.alloc ?_ _ | refine Ext.setCell ?_ HXc.out.size _))).out.mono ?_;rintro e w5 ⟨t5,v5,rfl,ht5,hg5,hv5,x5⟩;have HX5:=lh (show Ext w w5 from Ext.trans (by repeat (first | exact Ext.refl _ | exact HXc.out | refine Ext.alloc ?_ _ | refine Ext.setCell ?_ HXc.out.size _)) x5);have HT5:=lh ht5;have HTw:=lh (HT.out.ext HX5.out);have hg6:=Nat.le_trans (Ext.size (w:=w) (by repeat (first | exact Ext.refl _ | exact HXc.out | refine Ext.alloc ?_ _ | refine Ext.setCell ?_ HXc.out.size _))) hg5;have hv6:=fun z hz=>Nat.le_trans (Ext.size (w:=w) (by repeat (first | exact Ext.refl _ | exact HXc.out | refine Ext.alloc ?_ _ | refine Ext.setCell ?_ HXc.out.size _))) (hv5 z hz);have HUs:=fun w' (x:Ext w5 w')=>lh (rused_any t5 v5 _ room w' (HT5.out.ext x) (by have:=insS_len l p ⟨1,c,⟨#[]⟩,tm⟩;omega) (by have hiu:usedL (insS l p ⟨1,c,⟨#[]⟩,tm⟩)+oldU l p=usedL l+(64+(c:ByteArray).size):=ins_used HOk.out.sorted p _;have hous:=HOk.out.used;have hds:(c:ByteArray).size<=4194304:=(by first | omega | decide);omega));have hcr:=After.cell (w:=w5) (cellB (k:=1) HTw.out.blk);obtain ⟨UU,hUU⟩:∃ UU,UU=usedL (insS l p ⟨1,c,⟨#[]⟩,tm⟩):=⟨_,rfl⟩;have HUU:=lh hUU;rw [<-hUU] at HUs;clear hUU ht5 hg5 hv5 x5;go_wp2_with fail;refine wp_region_after (by kernel_rfl) (by kernel_rfl) ?_
     repeat (go_big_quiet_step (exact After.same (HUs _ (After.x _)).out))
     refine wpQuiet_nil ?_;rintro _ ⟨y,rfl⟩;have HPu2:=lh (HPu.out.trans (show putE l room p ⟨1,c,⟨#[]⟩,tm⟩=if UU<=room then (0,insS l p ⟨1,c,⟨#[]⟩,tm⟩) else (7,l) from by rw [HUU.out];rfl));clear hcr HUs HPu;by_cases hfit:UU<=room
     ·have HR3:=lh (HPu2.out.trans (if_pos hfit));have hb1:decide ((room:Int)<(UU:Int))=false:=by rw [decide_eq_false_iff_not];omega
      have hb2:decide (room<UU)=false:=by rw [decide_eq_false_iff_not];omega
      go_wp2_with fail;go_ret2;exact ⟨HX5.out.trans y.x,.inl ⟨by rw [HR3.out],t5,v5,rfl,by rw [HR3.out];exact HT5.out.ext y.x,hg6,hv6⟩⟩
     ·have HR3:=lh (HPu2.out.trans (if_neg hfit));have hb1:decide ((room:Int)<(UU:Int))=true:=by rw [decide_eq_true_eq];omega
      have hb2:decide (room<UU)=true:=by rw [decide_eq_true_eq];omega
      go_wp2_with fail;go_ret2;exact NextPost.err (by rw [HR3.out]) (by decide) (HX5.out.trans y.x)
  ·have HR3:=lh (HR.out.trans (if_neg hh));have hh1:(H==0)=false:=by rw [beq_eq_false_iff_ne];exact hh
   have hh2:(!(H==0))=true:=by rw [hh1];rfl
   go_wp2_with fail;go_ret2;exact NextPost.err (by rw [HR3.out]) hh HXc.out
end
section
set_option maxRecDepth 100000 in
set_option maxHeartbeats 8000000 in
theorem rnext_mkdir (t:Nat) (v:Value) (l:Nodes) (room:Nat) (p q data:ByteArray) (tm:Int) (most:Nat) (pk:Bool) (w:World) (T:RTreeAt w t v l room) (O:TreeOk l room) (hr:room<=1048576) (hp:mayB p=true) (hd:data.size<=1048576) :
  Calls prog 102 #[.pointer (some ⟨t,0,none⟩),.agg #[.int .i64 3,.string p,.string q,.string data,.int .i64 tm,.int .i64 most,.bool pk]] w (NextPost w room (layE l room p ⟨2,emp,emp,0⟩)):=by
 have hlen:l.length<=16384:=by have:=len_used l;have:=O.used;omega
 have zp:=mayB_size hp;have HT:=lh T;have HOk:=lh O;have HP:=lh hp;obtain ⟨W1,hW1⟩:∃ W1,W1=w.alloc (.cells #[.int .i64 3,.string p,.string q,.string data,.int .i64 tm,.int .i64 most,.bool pk] 163 (0,0)):=⟨_,rfl⟩;have x1:Ext w W1:=hW1▸(Ext.refl w).alloc _;have HX1:=lh x1;have HBX:=lh (show W1.heap[w.heap.size]?=some (.cells #[.int .i64 3,.string p,.string q,.string data,.int .i64 tm,.int .i64 most,.bool pk] 163 (0,0)) from hW1▸block_alloc_new _ _);have HKi:=lh (rkind_any t v l room p W1 (T.ext x1) (by omega));have HKF:=lh (kind_at O hp);have hcl:=dataC_le pk most data;have HCut:=lh (fun (h:most<data.size)=>dataC_cut h);have HAll:=lh (fun (h:pk=false\/data.size<=most)=>dataC_all h)
 have HR:=lh (show layE l room p ⟨2,emp,emp,0⟩=if homeE l p=0 then (if kindAt l p=0 then putE l room p ⟨2,⟨#[]⟩,⟨#[]⟩,0⟩ else (6,l)) else (homeE l p,l) from by
  obtain ⟨h1,h2⟩:=kind_at O hp;unfold layE;by_cases hh:homeE l p=0
  ·rw [if_pos hh,if_pos hh]
   cases hf:findA l p with
   | none=>rw [hf] at h1;simp only at h1;rw [h1];rfl
   | some o =>
    have:=h2 o hf;rw [hf] at h1;simp only at h1;rw [if_pos (by rfl),if_neg (by rw [h1];omega)]
  ·rw [if_neg hh,if_neg hh])
 have HHo:=fun w' (x:Ext w w')=>lh (rhome_any t v l room p w' (T.ext x) (by omega) (by omega));generalize layE l room p ⟨2,emp,emp,0⟩=R at *;generalize homeE l p=H at *;obtain ⟨kd,hkd⟩:∃ kd,kd=kindAt l p:=⟨_,rfl⟩;rw [<-hkd] at HKi HKF HR;clear hkd HKF;subst hW1;clear T O hp x1;go_enter func102,ntmps102;go_wp2_with fail;refine HKi.out.mono ?_;rintro e w1 ⟨rfl,hw⟩;obtain rfl:=hw.symm;clear hw;obtain ⟨c,hc⟩:∃ c,c=dataC pk most data:=⟨_,rfl⟩;rw [<-hc] at hcl;have HCC:=lh hc;clear hc;rcases pk with _ | _
 case' false =>
  obtain rfl:c=data:=HCC.out.trans (HAll.out (.inl rfl));clear HCC HAll HCut;go_wp2_with fail
 case' true =>
  by_cases hlt:most<data.size
  case' pos =>
   have hcx:data.extract 0 most=c:=(HCut.out hlt).trans HCC.out.symm;have hd1:decide ((most:Int)<(data.size:Int))=true:=by rw [decide_eq_true_eq];omega
   have hd2:(most:Int)<=(data.size:Int):=by omega
   clear HCC HAll HCut;go_wp2_with fail;clear hcx hd1 hd2 hlt
  case' neg =>
   obtain rfl:c=data:=HCC.out.trans (HAll.out (.inr (by omega)));have hd1:decide ((most:Int)<(c.size:Int))=false:=by rw [decide_eq_false_iff_not];omega
   clear HCC HAll HCut;go_wp2_with fail;clear hd1 hlt
 all_goals
  refine (HHo _ HX1.out).out.mono ?_;rintro e w3 ⟨rfl,x3⟩;have HXc:=lh (HX1.out.trans x3);have hbx:=(x3.block (ltB HBX.out)).trans HBX.out;have cb0:=cellB (k:=0) hbx;have cb1:=cellB (k:=1) hbx;have cb3:=cellB (k:=3) hbx;have cb4:=cellB (k:=4) hbx;have hbl:=ltB hbx;clear x3 hbx HHo HKi;by_cases hh:H=0
  ·subst hh;have HR2:=lh (HR.out.trans (if_pos rfl));clear HR;by_cases k0:kd=0
   ·subst k0;have HPu:=lh (HR2.out.trans (if_pos rfl));clear HR2;have HWt:=fun w' (x:Ext w w')=>lh (rwith_any t v l room p (2) (0) (⟨#[]⟩) (⟨#[]⟩) w' (HT.out.ext x) HOk.out.sorted (by omega) (by omega) (fun y hy=>by have:=mayB_size (HOk.out.may y hy);omega));go_wp2_with fail;refine (HWt _ (by repeat (first | exact Ext.refl _ | exact HXc.out | refine Ext.alloc ?_ _ | refine Ext.setCell ?_ HXc.out.size _))).out.mono ?_;rintro e w5 ⟨t5,v5,rfl,ht5,hg5,hv5,x5⟩;have HX5:=lh (show Ext w w5 from Ext.trans (by repeat (first | exact Ext.refl _ | exact HXc.out | refine Ext.alloc ?_ _ | refine Ext.setCell ?_ HXc.out.size _)) x5);have HT5:=lh ht5;have HTw:=lh (HT.out.ext HX5.out);have hg6:=Nat.le_trans (Ext.size (w:=w) (by repeat (first | exact Ext.refl _ | exact HXc.out | refine Ext.alloc ?_ _ | refine Ext.setCell ?_ HXc.out.size _))) hg5;have hv6:=fun z hz=>Nat.le_trans (Ext.size (w:=w) (by repeat (first | exact Ext.refl _ | exact HXc.out | refine Ext.alloc ?_ _ | refine Ext.setCell ?_ HXc.out.size _))) (hv5 z hz);have HUs:=fun w' (x:Ext w5 w')=>lh (rused_any t5 v5 _ room w' (HT5.out.ext x) (by have:=insS_len l p ⟨2,⟨#[]⟩,⟨#[]⟩,0⟩;omega) (by have hiu:usedL (insS l p ⟨2,⟨#[]⟩,⟨#[]⟩,0⟩)+oldU l p=usedL l+(64+(⟨#[]⟩:ByteArray).size):=ins_used HOk.out.sorted p _;have hous:=HOk.out.used;have hds:(⟨#[]⟩:ByteArray).size<=4194304:=(by first | omega | decide);omega));have hcr:=After.cell (w:=w5) (cellB (k:=1) HTw.out.blk);obtain ⟨UU,hUU⟩:∃ UU,UU=usedL (insS l p ⟨2,⟨#[]⟩,⟨#[]⟩,0⟩):=⟨_,rfl⟩;have HUU:=lh hUU;rw [<-hUU] at HUs;clear hUU ht5 hg5 hv5 x5;go_wp2_with fail;refine wp_region_after (by kernel_rfl) (by kernel_rfl) ?_
    repeat (go_big_quiet_step (exact After.same (HUs _ (After.x _)).out))
    refine wpQuiet_nil ?_;rintro _ ⟨y,rfl⟩;have HPu2:=lh (HPu.out.trans (show putE l room p ⟨2,⟨#[]⟩,⟨#[]⟩,0⟩=if UU<=room then (0,insS l p ⟨2,⟨#[]⟩,⟨#[]⟩,0⟩) else (7,l) from by rw [HUU.out];rfl));clear hcr HUs HPu;by_cases hfit:UU<=room
    ·have HR3:=lh (HPu2.out.trans (if_pos hfit));have hb1:decide ((room:Int)<(UU:Int))=false:=by rw [decide_eq_false_iff_not];omega
     have hb2:decide (room<UU)=false:=by rw [decide_eq_false_iff_not];omega
     go_wp2_with fail;go_ret2;exact ⟨HX5.out.trans y.x,.inl ⟨by rw [HR3.out],t5,v5,rfl,by rw [HR3.out];exact HT5.out.ext y.x,hg6,hv6⟩⟩
    ·have HR3:=lh (HPu2.out.trans (if_neg hfit));have hb1:decide ((room:Int)<(UU:Int))=true:=by rw [decide_eq_true_eq];omega
     have hb2:decide (room<UU)=true:=by rw [decide_eq_true_eq];omega
     go_wp2_with fail;go_ret2;exact NextPost.err (by rw [HR3.out]) (by decide) (HX5.out.trans y.x)
   ·have q0:(kd==0)=false:=by rw [beq_eq_false_iff_ne];exact k0
    have q1:(!(kd==0))=true:=by rw [q0];rfl
    have HR3:=lh (HR2.out.trans (if_neg k0));go_wp2_with fail;go_ret2;exact NextPost.err (by rw [HR3.out]) (by decide) HXc.out
  ·have HR3:=lh (HR.out.trans (if_neg hh));have hh1:(H==0)=false:=by rw [beq_eq_false_iff_ne];exact hh
   have hh2:(!(H==0))=true:=by rw [hh1];rfl
   go_wp2_with fail;go_ret2;exact NextPost.err (by rw [HR3.out]) hh HXc.out
end
section
set_option maxRecDepth 100000 in
set_option maxHeartbeats 8000000 in
theorem rnext_link (t:Nat) (v:Value) (l:Nodes) (room:Nat) (p q data:ByteArray) (tm:Int) (most:Nat) (pk:Bool) (w:World) (T:RTreeAt w t v l room) (O:TreeOk l room) (hr:room<=1048576) (hp:mayB p=true) :
  Calls prog 102 #[.pointer (some ⟨t,0,none⟩),.agg #[.int .i64 4,.string p,.string q,.string data,.int .i64 tm,.int .i64 most,.bool pk]] w (NextPost w room (layE l room p ⟨3,emp,data,tm⟩)):=by
 have hlen:l.length<=16384:=by have:=len_used l;have:=O.used;omega
 have zp:=mayB_size hp;have HT:=lh T;have HOk:=lh O;have HP:=lh hp;obtain ⟨W1,hW1⟩:∃ W1,W1=w.alloc (.cells #[.int .i64 4,.string p,.string q,.string data,.int .i64 tm,.int .i64 most,.bool pk] 163 (0,0)):=⟨_,rfl⟩;have x1:Ext w W1:=hW1▸(Ext.refl w).alloc _;have HX1:=lh x1;have HBX:=lh (show W1.heap[w.heap.size]?=some (.cells #[.int .i64 4,.string p,.string q,.string data,.int .i64 tm,.int .i64 most,.bool pk] 163 (0,0)) from hW1▸block_alloc_new _ _);have HKi:=lh (rkind_any t v l room p W1 (T.ext x1) (by omega));have HKF:=lh (kind_at O hp);have hcl:=dataC_le pk most data;have HCut:=lh (fun (h:most<data.size)=>dataC_cut h);have HAll:=lh (fun (h:pk=false\/data.size<=most)=>dataC_all h)
 have HR:=lh (show layE l room p ⟨3,emp,data,tm⟩=if homeE l p=0 then (if kindAt l p=0 then putE l room p ⟨3,⟨#[]⟩,data,tm⟩ else (6,l)) else (homeE l p,l) from by
  obtain ⟨h1,h2⟩:=kind_at O hp;unfold layE;by_cases hh:homeE l p=0
  ·rw [if_pos hh,if_pos hh]
   cases hf:findA l p with
   | none=>rw [hf] at h1;simp only at h1;rw [h1];rfl
   | some o =>
    have:=h2 o hf;rw [hf] at h1;simp only at h1;rw [if_pos (by rfl),if_neg (by rw [h1];omega)]
  ·rw [if_neg hh,if_neg hh])
 have HHo:=fun w' (x:Ext w w')=>lh (rhome_any t v l room p w' (T.ext x) (by omega) (by omega));generalize layE l room p ⟨3,emp,data,tm⟩=R at *;generalize homeE l p=H at *;obtain ⟨kd,hkd⟩:∃ kd,kd=kindAt l p:=⟨_,rfl⟩;rw [<-hkd] at HKi HKF HR;clear hkd HKF;subst hW1;clear T O hp x1;go_enter func102,ntmps102;go_wp2_with fail;refine HKi.out.mono ?_;rintro e w1 ⟨rfl,hw⟩;obtain rfl:=hw.symm;clear hw;obtain ⟨c,hc⟩:∃ c,c=dataC pk most data:=⟨_,rfl⟩;rw [<-hc] at hcl;have HCC:=lh hc;clear hc;rcases pk with _ | _
 case' false =>
  obtain rfl:data=c:=(HCC.out.trans (HAll.out (.inl rfl))).symm;clear HCC HAll HCut;go_wp2_with fail
 case' true =>
  by_cases hlt:most<data.size
  case' pos =>
   have hcx:data.extract 0 most=c:=(HCut.out hlt).trans HCC.out.symm;have hd1:decide ((most:Int)<(data.size:Int))=true:=by rw [decide_eq_true_eq];omega
   have hd2:(most:Int)<=(data.size:Int):=by omega
   clear HCC HAll HCut;go_wp2_with fail;clear hcx hd1 hd2 hlt
  case' neg =>
   obtain rfl:data=c:=(HCC.out.trans (HAll.out (.inr (by omega)))).symm;have hd1:decide ((most:Int)<(data.size:Int))=false:=by rw [decide_eq_false_iff_not];omega
   clear HCC HAll HCut;go_wp2_with fail;clear hd1 hlt
 all_goals
  refine (HHo _ HX1.out).out.mono ?_;rintro e w3 ⟨rfl,x3⟩;have HXc:=lh (HX1.out.trans x3);have hbx:=(x3.block (ltB HBX.out)).trans HBX.out;have cb0:=cellB (k:=0) hbx;have cb1:=cellB (k:=1) hbx;have cb3:=cellB (k:=3) hbx;have cb4:=cellB (k:=4) hbx;have hbl:=ltB hbx;clear x3 hbx HHo HKi;by_cases hh:H=0
  ·subst hh;have HR2:=lh (HR.out.trans (if_pos rfl));clear HR;by_cases k0:kd=0
   ·subst k0;have HPu:=lh (HR2.out.trans (if_pos rfl));clear HR2;have HWt:=fun w' (x:Ext w w')=>lh (rwith_any t v l room p (3) (tm) (⟨#[]⟩) (data) w' (HT.out.ext x) HOk.out.sorted (by omega) (by omega) (fun y hy=>by have:=mayB_size (HOk.out.may y hy);omega));go_wp2_with fail;refine (HWt _ (by repeat (first | exact Ext.refl _ | exact HXc.out | refine Ext.alloc ?_ _ | refine Ext.setCell ?_ HXc.out.size _))).out.mono ?_;rintro e w5 ⟨t5,v5,rfl,ht5,hg5,hv5,x5⟩;have HX5:=lh (show Ext w w5 from Ext.trans (by repeat (first | exact Ext.refl _ | exact HXc.out | refine Ext.alloc ?_ _ | refine Ext.setCell ?_ HXc.out.size _)) x5);have HT5:=lh ht5;have HTw:=lh (HT.out.ext HX5.out);have hg6:=Nat.le_trans (Ext.size (w:=w) (by repeat (first | exact Ext.refl _ | exact HXc.out | refine Ext.alloc ?_ _ | refine Ext.setCell ?_ HXc.out.size _))) hg5;have hv6:=fun z hz=>Nat.le_trans (Ext.size (w:=w) (by repeat (first | exact Ext.refl _ | exact HXc.out | refine Ext.alloc ?_ _ | refine Ext.setCell ?_ HXc.out.size _))) (hv5 z hz);have HUs:=fun w' (x:Ext w5 w')=>lh (rused_any t5 v5 _ room w' (HT5.out.ext x) (by have:=insS_len l p ⟨3,⟨#[]⟩,data,tm⟩;omega) (by have hiu:usedL (insS l p ⟨3,⟨#[]⟩,data,tm⟩)+oldU l p=usedL l+(64+(⟨#[]⟩:ByteArray).size):=ins_used HOk.out.sorted p _;have hous:=HOk.out.used;have hds:(⟨#[]⟩:ByteArray).size<=4194304:=(by first | omega | decide);omega));have hcr:=After.cell (w:=w5) (cellB (k:=1) HTw.out.blk);obtain ⟨UU,hUU⟩:∃ UU,UU=usedL (insS l p ⟨3,⟨#[]⟩,data,tm⟩):=⟨_,rfl⟩;have HUU:=lh hUU;rw [<-hUU] at HUs;clear hUU ht5 hg5 hv5 x5;go_wp2_with fail;refine wp_region_after (by kernel_rfl) (by kernel_rfl) ?_
    repeat (go_big_quiet_step (exact After.same (HUs _ (After.x _)).out))
    refine wpQuiet_nil ?_;rintro _ ⟨y,rfl⟩;have HPu2:=lh (HPu.out.trans (show putE l room p ⟨3,⟨#[]⟩,data,tm⟩=if UU<=room then (0,insS l p ⟨3,⟨#[]⟩,data,tm⟩) else (7,l) from by rw [HUU.out];rfl));clear hcr HUs HPu;by_cases hfit:UU<=room
    ·have HR3:=lh (HPu2.out.trans (if_pos hfit));have hb1:decide ((room:Int)<(UU:Int))=false:=by rw [decide_eq_false_iff_not];omega
     have hb2:decide (room<UU)=false:=by rw [decide_eq_false_iff_not];omega
     go_wp2_with fail;go_ret2;exact ⟨HX5.out.trans y.x,.inl ⟨by rw [HR3.out],t5,v5,rfl,by rw [HR3.out];exact HT5.out.ext y.x,hg6,hv6⟩⟩
    ·have HR3:=lh (HPu2.out.trans (if_neg hfit));have hb1:decide ((room:Int)<(UU:Int))=true:=by rw [decide_eq_true_eq];omega
     have hb2:decide (room<UU)=true:=by rw [decide_eq_true_eq];omega
     go_wp2_with fail;go_ret2;exact NextPost.err (by rw [HR3.out]) (by decide) (HX5.out.trans y.x)
   ·have q0:(kd==0)=false:=by rw [beq_eq_false_iff_ne];exact k0
    have q1:(!(kd==0))=true:=by rw [q0];rfl
    have HR3:=lh (HR2.out.trans (if_neg k0));go_wp2_with fail;go_ret2;exact NextPost.err (by rw [HR3.out]) (by decide) HXc.out
  ·have HR3:=lh (HR.out.trans (if_neg hh));have hh1:(H==0)=false:=by rw [beq_eq_false_iff_ne];exact hh
   have hh2:(!(H==0))=true:=by rw [hh1];rfl
   go_wp2_with fail;go_ret2;exact NextPost.err (by rw [HR3.out]) hh HXc.out
end
section
set_option maxRecDepth 100000 in
set_option maxHeartbeats 8000000 in
theorem rnext_rename (t:Nat) (v:Value) (l:Nodes) (room:Nat) (p q data:ByteArray) (tm:Int) (most:Nat) (pk:Bool) (w:World) (T:RTreeAt w t v l room) (O:TreeOk l room) (hr:room<=1048576) (hp:mayB p=true) (hq:mayB q=true) (hd:data.size<=1048576) :
  Calls prog 102 #[.pointer (some ⟨t,0,none⟩),.agg #[.int .i64 5,.string p,.string q,.string data,.int .i64 tm,.int .i64 most,.bool pk]] w (NextPost w room (renameE l p q)):=by
 have hlen:l.length<=16384:=by have:=len_used l;have:=O.used;omega
 have zp:=mayB_size hp;have HT:=lh T;have HOk:=lh O;have HP:=lh hp;obtain ⟨W1,hW1⟩:∃ W1,W1=w.alloc (.cells #[.int .i64 5,.string p,.string q,.string data,.int .i64 tm,.int .i64 most,.bool pk] 163 (0,0)):=⟨_,rfl⟩;have x1:Ext w W1:=hW1▸(Ext.refl w).alloc _;have HX1:=lh x1;have HBX:=lh (show W1.heap[w.heap.size]?=some (.cells #[.int .i64 5,.string p,.string q,.string data,.int .i64 tm,.int .i64 most,.bool pk] 163 (0,0)) from hW1▸block_alloc_new _ _);have HKi:=lh (rkind_any t v l room p W1 (T.ext x1) (by omega));have HKF:=lh (kind_at O hp);have hcl:=dataC_le pk most data;have HCut:=lh (fun (h:most<data.size)=>dataC_cut h);have HAll:=lh (fun (h:pk=false\/data.size<=most)=>dataC_all h);have HMv:=lh (fun w' (x:Ext w w')=>lh (rmoved_any t v l room p q w' (T.ext x) O hr hp hq));generalize renameE l p q=R at *;subst hW1;clear T O hp x1;go_enter func102,ntmps102;go_wp2_with fail;refine HKi.out.mono ?_;rintro e w1 ⟨rfl,hw⟩;obtain rfl:=hw.symm;clear hw;have hcl':=hcl;clear HKF;obtain ⟨c,hc⟩:∃ c,c=dataC pk most data:=⟨_,rfl⟩;rw [<-hc] at hcl;have HCC:=lh hc;clear hc;rcases pk with _ | _
 case' false =>
  obtain rfl:c=data:=HCC.out.trans (HAll.out (.inl rfl));clear HCC HAll HCut;go_wp2_with fail
 case' true =>
  by_cases hlt:most<data.size
  case' pos =>
   have hcx:data.extract 0 most=c:=(HCut.out hlt).trans HCC.out.symm;have hd1:decide ((most:Int)<(data.size:Int))=true:=by rw [decide_eq_true_eq];omega
   have hd2:(most:Int)<=(data.size:Int):=by omega
   clear HCC HAll HCut;go_wp2_with fail;clear hcx hd1 hd2 hlt
  case' neg =>
   obtain rfl:c=data:=HCC.out.trans (HAll.out (.inr (by omega)));have hd1:decide ((most:Int)<(c.size:Int))=false:=by rw [decide_eq_false_iff_not];omega
   clear HCC HAll HCut;go_wp2_with fail;clear hd1 hlt
 all_goals
  refine (HMv.out _ HX1.out).out.mono ?_;intro e w3 h3;have h4:=NextPost.from_ext HX1.out h3;have HP4:=lh h4;clear h3 h4 HMv;rcases HP4.out.2 with ⟨a,t5,v5,rfl,_⟩ | ⟨a,rfl⟩
  all_goals
   have HP5:=HP4;go_wp2_with fail;go_ret2;exact HP5.out
end
section
set_option maxRecDepth 100000 in
set_option maxHeartbeats 8000000 in
theorem rnext_remove (t:Nat) (v:Value) (l:Nodes) (room:Nat) (p q data:ByteArray) (tm:Int) (most:Nat) (pk:Bool) (w:World) (T:RTreeAt w t v l room) (O:TreeOk l room) (hr:room<=1048576) (hp:mayB p=true) :
  Calls prog 102 #[.pointer (some ⟨t,0,none⟩),.agg #[.int .i64 6,.string p,.string q,.string data,.int .i64 tm,.int .i64 most,.bool pk]] w (NextPost w room (removeE l p)):=by
 have hlen:l.length<=16384:=by have:=len_used l;have:=O.used;omega
 have zp:=mayB_size hp;have HT:=lh T;have HOk:=lh O;have HP:=lh hp;obtain ⟨W1,hW1⟩:∃ W1,W1=w.alloc (.cells #[.int .i64 6,.string p,.string q,.string data,.int .i64 tm,.int .i64 most,.bool pk] 163 (0,0)):=⟨_,rfl⟩;have x1:Ext w W1:=hW1▸(Ext.refl w).alloc _;have HX1:=lh x1;have HBX:=lh (show W1.heap[w.heap.size]?=some (.cells #[.int .i64 6,.string p,.string q,.string data,.int .i64 tm,.int .i64 most,.bool pk] 163 (0,0)) from hW1▸block_alloc_new _ _);have HKi:=lh (rkind_any t v l room p W1 (T.ext x1) (by omega));have HKF:=lh (kind_at O hp);have hcl:=dataC_le pk most data;have HCut:=lh (fun (h:most<data.size)=>dataC_cut h);have HAll:=lh (fun (h:pk=false\/data.size<=most)=>dataC_all h)
 have HRE:=lh (show removeE l p=if kindAt l p=0 then (5,l) else (if l.any fun x=>withinB x.1 p then (22,l) else (0,dropA l p)) from by
  obtain ⟨h1,h2⟩:=kind_at O hp;unfold removeE
  cases hf:findA l p with
  | none=>rw [hf] at h1;simp only at h1;rw [h1];rfl
  | some o =>
   have:=h2 o hf;rw [hf] at h1;simp only at h1
   rw [if_pos (show (some o).isSome=true from rfl),if_neg (show ¬ kindAt l p=0 from by rw [h1];omega)])
 have HWo:=fun w' (x:Ext w w')=>lh (rwithout_any t v l room p w' (T.ext x) (by omega));have HMay:=lh (fun x (h:x∈l)=>mayB_size (O.may x h));obtain ⟨n,hn⟩:∃ n,n=l.length:=⟨_,rfl⟩;have HL:=lh hn;have hnn:n<=16384:=by omega
 have HPz:=lh zp;generalize removeE l p=R at *;obtain ⟨kd,hkd⟩:∃ kd,kd=kindAt l p:=⟨_,rfl⟩;rw [<-hkd] at HKi HKF HRE;clear hkd HKF hn;obtain ⟨BB,HB1,HBY⟩:∃ BB:Array Value,Hid (BB[1]?=some (.string p))/\Hid (W1.heap[w.heap.size]?=some (.cells BB 163 (0,0))):=⟨_,lh rfl,HBX⟩;subst hW1;clear T O hp x1;go_enter func102,ntmps102;go_wp2_with fail;refine HKi.out.mono ?_;rintro e w1 ⟨rfl,hw⟩;obtain rfl:=hw.symm;clear hw;clear HKi;by_cases k0:kd=0
 ·subst k0;have HR:=lh (HRE.out.trans (if_pos rfl));obtain ⟨c,hc⟩:∃ c,c=dataC pk most data:=⟨_,rfl⟩;rw [<-hc] at hcl;have HCC:=lh hc;clear hc;rcases pk with _ | _
  case' false =>
   obtain rfl:data=c:=(HCC.out.trans (HAll.out (.inl rfl))).symm;clear HCC HAll HCut;go_wp2_with fail
  case' true =>
   by_cases hlt:most<data.size
   case' pos =>
    have hcx:data.extract 0 most=c:=(HCut.out hlt).trans HCC.out.symm;have hd1:decide ((most:Int)<(data.size:Int))=true:=by rw [decide_eq_true_eq];omega
    have hd2:(most:Int)<=(data.size:Int):=by omega
    clear HCC HAll HCut;go_wp2_with fail;clear hcx hd1 hd2 hlt
   case' neg =>
    obtain rfl:data=c:=(HCC.out.trans (HAll.out (.inr (by omega)))).symm;have hd1:decide ((most:Int)<(data.size:Int))=false:=by rw [decide_eq_false_iff_not];omega
    clear HCC HAll HCut;go_wp2_with fail;clear hd1 hlt
  all_goals
   go_ret2;exact NextPost.err (by rw [HR.out]) (by decide) HX1.out
 ·have HR2:=lh (HRE.out.trans (if_neg k0));have q0:(kd==0)=false:=by rw [beq_eq_false_iff_ne];exact k0
  clear HRE;obtain ⟨c,hc⟩:∃ c,c=dataC pk most data:=⟨_,rfl⟩;rw [<-hc] at hcl;have HCC:=lh hc;clear hc;rcases pk with _ | _
  case' false =>
   obtain rfl:data=c:=(HCC.out.trans (HAll.out (.inl rfl))).symm;clear HCC HAll HCut;go_wp2_with fail
  case' true =>
   by_cases hlt:most<data.size
   case' pos =>
    have hcx:data.extract 0 most=c:=(HCut.out hlt).trans HCC.out.symm;have hd1:decide ((most:Int)<(data.size:Int))=true:=by rw [decide_eq_true_eq];omega
    have hd2:(most:Int)<=(data.size:Int):=by omega
    clear HCC HAll HCut;go_wp2_with fail;clear hcx hd1 hd2 hlt
   case' neg =>
    obtain rfl:data=c:=(HCC.out.trans (HAll.out (.inr (by omega)))).symm;have hd1:decide ((most:Int)<(data.size:Int))=false:=by rw [decide_eq_false_iff_not];omega
    clear HCC HAll HCut;go_wp2_with fail;clear hd1 hlt
  all_goals
   go_loopw [8] (fun iv wr=>Hid (∃ k:Nat,k<=n/\iv=.int .i64 k/\Ext w wr/\wr.heap[w.heap.size]?=some (.cells BB 163 (0,0))/\∀ y∈l.take k,withinB y.1 p=false)) (fun iv _=>n - (intOf iv).toNat)
   case atStart=>exact ⟨0,Nat.zero_le _,rfl,HX1.out,HBY.out,by intro y hy;simp at hy⟩
   case round =>
    obtain ⟨k,hk,rfl,x2,hbx,hno⟩:=hrel.out;clear hrel;have HX2:=lh x2;have HBX2:=lh hbx;have HNo:=lh hno;have HTr:=lh (HT.out.ext x2);have ct:wr.cell? ⟨t,0,none⟩=some v:=cellB HTr.out.blk;have cb1:=(cellB (k:=1) hbx).trans HB1.out;have hcb:=After.cell (w:=wr) cb1;obtain ⟨av,cap,rfl,hv1,hv2,hv3⟩:=HTr.out.shape;have HV:=lh hv3;rw [<-HL.out] at ct hv1;have hct:=After.cell (w:=wr) ct;clear x2 hbx hno hv3;by_cases hlt:k<n
    ·obtain ⟨x,hx⟩:∃ x,l[k]?=some x:=⟨_,List.getElem?_eq_getElem (by have:=HL.out;omega)⟩;obtain ⟨g,rfl,hgl,hc⟩:=HV.out k x hx;have c0:wr.cell? ⟨g,k*5,none⟩=some (.string x.1):=hc 0 _ rfl;have hxz:=HMay.out x (List.mem_of_getElem? hx);have HX:=lh hx;have HTK:=lh (take_next hx);have HWi:=fun w'=>lh (refWithin_any x.1 p w' (by omega) (by have:=HPz.out;omega));obtain ⟨xp,xn⟩:=x;simp only at c0 hxz HWi;have hc0:=After.cell (w:=wr) c0;clear hc hx HV
     cases hwi:withinB xp p with
     | false =>
      rw [hwi] at HWi
      have HNo2:=lh (show ∀ y∈l.take (k+1),withinB y.1 p=false from fun y hy=>by
       rw [HTK.out] at hy;rcases List.mem_append.1 hy with hy | hy
       ·exact HNo.out y hy
       ·rw [List.mem_singleton.1 hy];exact hwi)
      clear hwi;go_wp2_with fail;refine wp_region_after (by kernel_rfl) (by kernel_rfl) ?_
      repeat (go_big_quiet_step (exact After.of (HWi _).out))
      refine wpQuiet_nil ?_;rintro _ ⟨y,rfl⟩;clear hcb hct hc0;go_wp2_with fail;go_roundw
      case rel=>exact ⟨k+1,by omega,by go_num,HX2.out.trans y.x,(y.x.block (ltB HBX2.out)).trans HBX2.out,HNo2.out⟩
      case measure=>simp [intOf] <;> omega
     | true =>
      rw [hwi] at HWi;have HR:=lh (show R=(22,l) from HR2.out.trans (if_pos (List.any_eq_true.2 ⟨_,List.mem_of_getElem? HX.out,hwi⟩)));clear hwi;go_wp2_with fail;refine wp_region_after (by kernel_rfl) (by kernel_rfl) ?_
      repeat (go_big_quiet_step (exact After.of (HWi _).out))
      refine wpQuiet_nil ?_;rintro _ ⟨y,rfl⟩;clear hcb hct hc0;go_wp2_with fail;go_ret2;exact NextPost.err (by rw [HR.out]) (by decide) (HX2.out.trans y.x)
    ·obtain rfl:k=n:=by omega
     have nlt:decide ((k:Int)<(k:Int))=false:=by simp
     have HR:=lh (show R=(0,dropA l p) from HR2.out.trans (if_neg (by
      have:=HNo.out;rw [HL.out,List.take_length] at this;intro h;obtain ⟨y,hy,hw⟩:=List.any_eq_true.1 h;rw [this y hy] at hw
      cases hw)))
     have HW1:=HWo _ HX2.out;go_wp2_with fail;refine HW1.out.mono ?_;rintro e w4 hfr;obtain ⟨t0,rfl,hm⟩:=Made.of HX2.out hfr;have HM:=lh (show Made w w4 t0 R.2 room from by rw [HR.out];exact hm);clear hfr hm;go_wp2_with fail;go_ret2;exact HM.out.next (by rw [HR.out])
end
section
theorem region_named {P:Program} {C:Code} {Q:Exit->Act->World->Prop} {a:Act} {W:World} (h:∀ w,w=W->C.wp P Q a w):C.wp P Q a W:=h W rfl
theorem home_of {l:Nodes} {room:Nat} (O:TreeOk l room) {p:ByteArray} {o:Nd} (hp:mayB p=true) (h:(p,o)∈l):homeE l p=0:=by
 have:=O.home _ h;unfold homeE dirE;rw [parentR_may hp,this];rfl
set_option maxRecDepth 100000 in
set_option maxHeartbeats 8000000 in
theorem rnext_add (t:Nat) (v:Value) (l:Nodes) (room:Nat) (p q data:ByteArray) (tm:Int) (most:Nat) (pk:Bool) (w:World) (T:RTreeAt w t v l room) (O:TreeOk l room) (hr:room<=1048576) (hp:mayB p=true) (hfo:∀ x∈l,x.2.kind=1->x.2.target=emp) (hd:data.size<=1048576) :
  Calls prog 102 #[.pointer (some ⟨t,0,none⟩),.agg #[.int .i64 2,.string p,.string q,.string data,.int .i64 tm,.int .i64 most,.bool pk]] w (NextPost w room (addE l room p (dataC pk most data))):=by
 have hlen:l.length<=16384:=by have:=len_used l;have:=O.used;omega
 have zp:=mayB_size hp;have HT:=lh T;have HOk:=lh O;have HP:=lh hp;obtain ⟨W1,hW1⟩:∃ W1,W1=w.alloc (.cells #[.int .i64 2,.string p,.string q,.string data,.int .i64 tm,.int .i64 most,.bool pk] 163 (0,0)):=⟨_,rfl⟩;have x1:Ext w W1:=hW1▸(Ext.refl w).alloc _;have HX1:=lh x1;have HBX:=lh (show W1.heap[w.heap.size]?=some (.cells #[.int .i64 2,.string p,.string q,.string data,.int .i64 tm,.int .i64 most,.bool pk] 163 (0,0)) from hW1▸block_alloc_new _ _);have HKi:=lh (rkind_any t v l room p W1 (T.ext x1) (by omega));have HKF:=lh (kind_at O hp);have hcl:=dataC_le pk most data;have HCut:=lh (fun (h:most<data.size)=>dataC_cut h);have HAll:=lh (fun (h:pk=false\/data.size<=most)=>dataC_all h);have HRE:=lh (show addE l room p (dataC pk most data)=match findA l p with | none=>(5,l) | some n=>if fileE l p=0 then putE l room p ⟨n.kind,n.data++dataC pk most data,n.target,n.time⟩ else (fileE l p,l) from rfl);have HFi:=lh (show fileE l p=match findA l p with | some n=>if n.kind=2 then 12 else if n.kind=3 then 11 else 0 | none=>0 from rfl);have HHo:=fun w' (x:Ext w w')=>lh (rhome_any t v l room p w' (T.ext x) (by omega) (by omega));generalize addE l room p (dataC pk most data)=R at *
 cases hf:findA l p with
 | none =>
  rw [hf] at HRE HKF;have HR:Hid (R=(5,l)):=HRE;have hk0:kindAt l p=0:=HKF.out.1;rw [hk0] at HKi;clear HRE HKF HFi HHo hk0 hf;subst hW1;clear T O hp x1;go_enter func102,ntmps102;go_wp2_with fail;refine HKi.out.mono ?_;rintro e w1 ⟨rfl,hw⟩;obtain rfl:=hw.symm;clear hw;obtain ⟨c,hc⟩:∃ c,c=dataC pk most data:=⟨_,rfl⟩;rw [<-hc] at hcl;have HCC:=lh hc;clear hc;rcases pk with _ | _
  case' false =>
   obtain rfl:data=c:=(HCC.out.trans (HAll.out (.inl rfl))).symm;clear HCC HAll HCut;go_wp2_with fail
  case' true =>
   by_cases hlt:most<data.size
   case' pos =>
    have hcx:data.extract 0 most=c:=(HCut.out hlt).trans HCC.out.symm;have hd1:decide ((most:Int)<(data.size:Int))=true:=by rw [decide_eq_true_eq];omega
    have hd2:(most:Int)<=(data.size:Int):=by omega
    clear HCC HAll HCut;go_wp2_with fail;clear hcx hd1 hd2 hlt
   case' neg =>
    obtain rfl:data=c:=(HCC.out.trans (HAll.out (.inr (by omega)))).symm;have hd1:decide ((most:Int)<(data.size:Int))=false:=by rw [decide_eq_false_iff_not];omega
    clear HCC HAll HCut;go_wp2_with fail;clear hd1 hlt
  all_goals
   go_ret2;exact NextPost.err (by rw [HR.out]) (by decide) HX1.out
 | some o =>
  rw [hf] at HRE HKF HFi;have hko:kindAt l p=o.kind:=HKF.out.1;have hk3:=HKF.out.2 o rfl;have hmem:(p,o)∈l:=findA_mem hf;have hh:=home_of O hp hmem;rw [hko] at HKi;rw [hh] at HHo;have hod:o.data.size<=1048576:=by have:64+o.data.size<=usedL l:=mem_used hmem;have:=O.used;omega
  have hot:o.kind=1->o.target=emp:=hfo _ hmem;have HG:=lh (show l[idxA l p]?=some (p,o) from idx_some hf);have HFd:=fun w' (x:Ext w w')=>lh (rfind_any t v l room p w' (T.ext x) (by omega) (idxA l p:Int) (by rw [hf]));obtain ⟨ia,hia⟩:∃ ia,ia=idxA l p:=⟨_,rfl⟩;rw [<-hia] at HG HFd;obtain ⟨ok,od,og,om⟩:=o;dsimp only at HRE HFi HKi hk3 hod hot;clear hfo hko hmem hh HKF hf hia;by_cases k2:ok=2
  ·subst k2;have HR:=lh (show R=(12,l) from by rw [HRE.out,HFi.out];rfl);clear HRE HFi HFd;subst hW1;clear T O hp x1;go_enter func102,ntmps102;go_wp2_with fail;refine HKi.out.mono ?_;rintro e w1 ⟨rfl,hw⟩;obtain rfl:=hw.symm;clear hw;obtain ⟨c,hc⟩:∃ c,c=dataC pk most data:=⟨_,rfl⟩;rw [<-hc] at hcl;have HCC:=lh hc;clear hc;rcases pk with _ | _
   case' false =>
    obtain rfl:data=c:=(HCC.out.trans (HAll.out (.inl rfl))).symm;clear HCC HAll HCut;go_wp2_with fail
   case' true =>
    by_cases hlt:most<data.size
    case' pos =>
     have hcx:data.extract 0 most=c:=(HCut.out hlt).trans HCC.out.symm;have hd1:decide ((most:Int)<(data.size:Int))=true:=by rw [decide_eq_true_eq];omega
     have hd2:(most:Int)<=(data.size:Int):=by omega
     clear HCC HAll HCut;go_wp2_with fail;clear hcx hd1 hd2 hlt
    case' neg =>
     obtain rfl:data=c:=(HCC.out.trans (HAll.out (.inr (by omega)))).symm;have hd1:decide ((most:Int)<(data.size:Int))=false:=by rw [decide_eq_false_iff_not];omega
     clear HCC HAll HCut;go_wp2_with fail;clear hd1 hlt
   all_goals
    refine (HHo _ HX1.out).out.mono ?_;rintro e w3 ⟨rfl,x3⟩;have HXc:=lh (HX1.out.trans x3);have hbx:=(x3.block (ltB HBX.out)).trans HBX.out;have cb0:=cellB (k:=0) hbx;clear x3 hbx HHo;go_wp2_with fail;go_ret2;exact NextPost.err (by rw [HR.out]) (by decide) HXc.out
  by_cases k3:ok=3
  ·subst k3;have HR:=lh (show R=(11,l) from by rw [HRE.out,HFi.out];rfl);clear HRE HFi HFd;subst hW1;clear T O hp x1;go_enter func102,ntmps102;go_wp2_with fail;refine HKi.out.mono ?_;rintro e w1 ⟨rfl,hw⟩;obtain rfl:=hw.symm;clear hw;obtain ⟨c,hc⟩:∃ c,c=dataC pk most data:=⟨_,rfl⟩;rw [<-hc] at hcl;have HCC:=lh hc;clear hc;rcases pk with _ | _
   case' false =>
    obtain rfl:data=c:=(HCC.out.trans (HAll.out (.inl rfl))).symm;clear HCC HAll HCut;go_wp2_with fail
   case' true =>
    by_cases hlt:most<data.size
    case' pos =>
     have hcx:data.extract 0 most=c:=(HCut.out hlt).trans HCC.out.symm;have hd1:decide ((most:Int)<(data.size:Int))=true:=by rw [decide_eq_true_eq];omega
     have hd2:(most:Int)<=(data.size:Int):=by omega
     clear HCC HAll HCut;go_wp2_with fail;clear hcx hd1 hd2 hlt
    case' neg =>
     obtain rfl:data=c:=(HCC.out.trans (HAll.out (.inr (by omega)))).symm;have hd1:decide ((most:Int)<(data.size:Int))=false:=by rw [decide_eq_false_iff_not];omega
     clear HCC HAll HCut;go_wp2_with fail;clear hd1 hlt
   all_goals
    refine (HHo _ HX1.out).out.mono ?_;rintro e w3 ⟨rfl,x3⟩;have HXc:=lh (HX1.out.trans x3);have hbx:=(x3.block (ltB HBX.out)).trans HBX.out;have cb0:=cellB (k:=0) hbx;clear x3 hbx HHo;go_wp2_with fail;go_ret2;exact NextPost.err (by rw [HR.out]) (by decide) HXc.out
  obtain rfl:ok=1:=by omega
  obtain rfl:og=emp:=hot rfl;have HR:=lh (show R=putE l room p ⟨1,od++dataC pk most data,⟨#[]⟩,om⟩ from by rw [HRE.out,HFi.out];rfl);clear HRE HFi hot k2 k3 hk3;subst hW1;clear T O hp x1;go_enter func102,ntmps102;go_wp2_with fail;refine HKi.out.mono ?_;rintro e w1 ⟨rfl,hw⟩;obtain rfl:=hw.symm;clear hw;obtain ⟨c,hc⟩:∃ c,c=dataC pk most data:=⟨_,rfl⟩;rw [<-hc] at hcl HR;have HCC:=lh hc;clear hc;rcases pk with _ | _
  case' false =>
   obtain rfl:c=data:=HCC.out.trans (HAll.out (.inl rfl));clear HCC HAll HCut;go_wp2_with fail
  case' true =>
   by_cases hlt:most<data.size
   case' pos =>
    have hcx:data.extract 0 most=c:=(HCut.out hlt).trans HCC.out.symm;have hd1:decide ((most:Int)<(data.size:Int))=true:=by rw [decide_eq_true_eq];omega
    have hd2:(most:Int)<=(data.size:Int):=by omega
    clear HCC HAll HCut;go_wp2_with fail;clear hcx hd1 hd2 hlt
   case' neg =>
    obtain rfl:c=data:=HCC.out.trans (HAll.out (.inr (by omega)));have hd1:decide ((most:Int)<(c.size:Int))=false:=by rw [decide_eq_false_iff_not];omega
    clear HCC HAll HCut;go_wp2_with fail;clear hd1 hlt
  all_goals
   refine (HHo _ HX1.out).out.mono ?_;rintro e w3 ⟨rfl,x3⟩;have HXc:=lh (HX1.out.trans x3);have hbx:=(x3.block (ltB HBX.out)).trans HBX.out;have HBX3:=lh hbx;have cb0:=cellB (k:=0) hbx;have cb1:=cellB (k:=1) hbx;have cb4:=cellB (k:=4) hbx;have hbl:=ltB hbx;clear x3 hbx HHo HKi;have HPu:=HR;clear HR;go_wp2_with fail;refine region_named ?_;intro w4 hw4;have HX4:=lh (show Ext w3 w4 from by rw [hw4];repeat (first | exact Ext.refl _ | refine Ext.alloc ?_ _));have HXY:=lh (HXc.out.trans HX4.out);have hnb:w4.heap[w3.heap.size]?=some (.cells #[.int .i64 1,.string c,.string ⟨#[]⟩,.int .i64 tm] 57 (0,0)):=hw4▸block_alloc_new _ _;clear hw4;have HT4:=lh (HT.out.ext HXY.out);have ct:=cellB (k:=0) HT4.out.blk;have hbx:=(HX4.out.block (ltB HBX3.out)).trans HBX3.out;clear cb0 cb1 cb4;have cb0:=cellB (k:=0) hbx;have cb1:=cellB (k:=1) hbx;have hbl':=ltB hbx;have htl:=ltB HT4.out.blk;obtain ⟨av,cap,hve,hv1,hv2,hv3⟩:=HT4.out.shape;obtain ⟨g,hae,hgl,hc⟩:=hv3 ia _ HG.out;have hial:ia<l.length:=(List.getElem?_eq_some_iff.1 HG.out).1;have c1:w4.cell? ⟨g,ia*5+1,none⟩=some (.int .i64 1):=hc 1 _ rfl;have c2:w4.cell? ⟨g,ia*5+2,none⟩=some (.string od):=hc 2 _ rfl;have c3:w4.cell? ⟨g,ia*5+3,none⟩=some (.string ⟨#[]⟩):=hc 3 _ rfl;have c4:w4.cell? ⟨g,ia*5+4,none⟩=some (.int .i64 om):=hc 4 _ rfl;have cn0:=cellB (k:=0) hnb;have cn1:=cellB (k:=1) hnb;have cn2:=cellB (k:=2) hnb;have cn3:=cellB (k:=3) hnb;have fn1:=frozenB (k:=1) hnb;have fn3:=frozenB (k:=3) hnb;have hnl:=ltB hnb;have hsz:(od++c).size<=4194304:=by rw [ByteArray.size_append];omega
   clear hc hv3 hnb hbx;subst hae;have ct2:=ct.trans (congrArg some hve);clear ct
   go_region_held (fun w'=>w'.cell? ⟨t,0,none⟩=some (.slice (some ⟨g,0,none⟩) l.length cap)/\w'.cell? ⟨w.heap.size,1,none⟩=some (.string p)/\w'.cell? ⟨g,ia*5+1,none⟩=some (.int .i64 1)/\w'.cell? ⟨g,ia*5+2,none⟩=some (.string od)/\w'.cell? ⟨g,ia*5+3,none⟩=some (.string ⟨#[]⟩)/\w'.cell? ⟨g,ia*5+4,none⟩=some (.int .i64 om)) (go_keep) (first
    | (go_at_call 165;refine (HFd _ (by repeat (first | exact HXY.out | refine Ext.alloc ?_ _ | refine Ext.drew ?_))).out.mono ?_;rintro e w' ⟨rfl,rfl⟩))
   all_goals
    have HWt:=fun w' (x:Ext w w')=>lh (rwith_any t v l room p (1) (om) (od++c) (⟨#[]⟩) w' (HT.out.ext x) HOk.out.sorted (by omega) (by omega) (fun y hy=>by have:=mayB_size (HOk.out.may y hy);omega));go_wp2_with fail;refine (HWt _ (by repeat (first | exact Ext.refl _ | exact HXY.out | refine Ext.drew ?_ | refine Ext.alloc ?_ _ | refine Ext.setCell ?_ HXc.out.size _))).out.mono ?_;rintro e w5 ⟨t5,v5,rfl,ht5,hg5,hv5,x5⟩;have HX5:=lh (show Ext w w5 from Ext.trans (by repeat (first | exact Ext.refl _ | exact HXY.out | refine Ext.drew ?_ | refine Ext.alloc ?_ _ | refine Ext.setCell ?_ HXc.out.size _)) x5);have HT5:=lh ht5;have HTw:=lh (HT.out.ext HX5.out);have hg6:=Nat.le_trans (Ext.size (w:=w) (by repeat (first | exact Ext.refl _ | exact HXY.out | refine Ext.drew ?_ | refine Ext.alloc ?_ _ | refine Ext.setCell ?_ HXc.out.size _))) hg5;have hv6:=fun z hz=>Nat.le_trans (Ext.size (w:=w) (by repeat (first | exact Ext.refl _ | exact HXY.out | refine Ext.drew ?_ | refine Ext.alloc ?_ _ | refine Ext.setCell ?_ HXc.out.size _))) (hv5 z hz);have HUs:=fun w' (x:Ext w5 w')=>lh (rused_any t5 v5 _ room w' (HT5.out.ext x) (by have:=insS_len l p ⟨1,od++c,⟨#[]⟩,om⟩;omega) (by have hiu:usedL (insS l p ⟨1,od++c,⟨#[]⟩,om⟩)+oldU l p=usedL l+(64+(od++c:ByteArray).size):=ins_used HOk.out.sorted p _;have hous:=HOk.out.used;have hds:(od++c:ByteArray).size<=4194304:=(by first | omega | decide);omega));have hcr:=After.cell (w:=w5) (cellB (k:=1) HTw.out.blk);obtain ⟨UU,hUU⟩:∃ UU,UU=usedL (insS l p ⟨1,od++c,⟨#[]⟩,om⟩):=⟨_,rfl⟩;have HUU:=lh hUU;rw [<-hUU] at HUs;clear hUU ht5 hg5 hv5 x5;go_wp2_with fail;refine wp_region_after (by kernel_rfl) (by kernel_rfl) ?_
    repeat (go_big_quiet_step (exact After.same (HUs _ (After.x _)).out))
    refine wpQuiet_nil ?_;rintro _ ⟨y,rfl⟩;have HPu2:=lh (HPu.out.trans (show putE l room p ⟨1,od++c,⟨#[]⟩,om⟩=if UU<=room then (0,insS l p ⟨1,od++c,⟨#[]⟩,om⟩) else (7,l) from by rw [HUU.out];rfl));clear hcr HUs HPu;by_cases hfit:UU<=room
    ·have HR3:=lh (HPu2.out.trans (if_pos hfit));have hb1:decide ((room:Int)<(UU:Int))=false:=by rw [decide_eq_false_iff_not];omega
     have hb2:decide (room<UU)=false:=by rw [decide_eq_false_iff_not];omega
     go_wp2_with fail;go_ret2;exact ⟨HX5.out.trans y.x,.inl ⟨by rw [HR3.out],t5,v5,rfl,by rw [HR3.out];exact HT5.out.ext y.x,hg6,hv6⟩⟩
    ·have HR3:=lh (HPu2.out.trans (if_neg hfit));have hb1:decide ((room:Int)<(UU:Int))=true:=by rw [decide_eq_true_eq];omega
     have hb2:decide (room<UU)=true:=by rw [decide_eq_true_eq];omega
     go_wp2_with fail;go_ret2;exact NextPost.err (by rw [HR3.out]) (by decide) (HX5.out.trans y.x)
end
section
def FileOk (l:Nodes):Prop:=∀ x∈l,x.2.kind=1->x.2.target=emp
theorem FileOk.nil:FileOk []:=fun _ h=>by cases h
theorem FileOk.put {l:Nodes} (F:FileOk l) (room:Nat) (p:ByteArray) {n:Nd} (h:n.kind=1->n.target=emp):FileOk (putE l room p n).2:=by
 unfold putE;split
 ·intro x hx hk;rcases ins_mem hx with rfl | hx
  ·exact h hk
  ·exact F x hx hk
 ·exact F
theorem FileOk.drop {l:Nodes} (F:FileOk l) (p:ByteArray):FileOk (dropA l p):=fun x hx=>F x (List.mem_filter.1 hx).1
theorem FileOk.move {l:Nodes} (F:FileOk l) (a b:ByteArray):FileOk (moveL l a b):=by
 intro x hx hk;unfold moveL at hx;rcases foldl_ins_mem _ _ _ hx with hx | hx
 ·obtain ⟨y,hy,rfl⟩:=List.mem_map.1 hx;unfold movL at hy;exact F y (List.mem_filter.1 hy).1 hk
 ·unfold restL at hx;exact F.drop b x (List.mem_filter.1 hx).1 hk
theorem FileOk.eff {l:Nodes} (F:FileOk l) (room m:Nat) (x:Eff):FileOk (effE l room m x).2:=by
 cases x with
 | write p d t =>
  show FileOk (writeE l room p _ t).2
  unfold writeE;split
  ·split
   ·exact F.put room p fun _=>rfl
   ·exact F
  ·exact F
 | add p d =>
  show FileOk (addE l room p _).2
  unfold addE;split
  ·exact F
  ·rename_i n hn;split
   ·exact F.put room p fun h=>F _ (findA_mem hn) h
   ·exact F
 | mkdir p =>
  show FileOk (layE l room p _).2
  unfold layE;split
  ·split
   ·exact F
   ·exact F.put room p fun h=>by cases h
  ·exact F
 | link p g t =>
  show FileOk (layE l room p _).2
  unfold layE;split
  ·split
   ·exact F
   ·exact F.put room p fun h=>by cases h
  ·exact F
 | rename p q =>
  show FileOk (renameE l p q).2
  unfold renameE
  repeat (first | exact F | exact F.move p q | split)
 | remove p =>
  show FileOk (removeE l p).2
  unfold removeE
  repeat (first | exact F | exact F.drop p | split)
end
section
theorem rnext_k1 (t:Nat) (v:Value) (l:Nodes) (room:Nat) (p q d:ByteArray) (tm:Int) (most:Nat) (pk:Bool) (m:Nat) (w:World) (T:RTreeAt w t v l room) (O:TreeOk l room) (hr:room<=1048576) (hp:mayB p=true) (hd:d.size<=1048576) (hm:dataC pk most d=cutTo m d) :
  Calls prog 102 #[.pointer (some ⟨t,0,none⟩),.agg #[.int .i64 1,.string p,.string q,.string d,.int .i64 tm,.int .i64 most,.bool pk]] w (NextPost w room (effE l room m (RE.eff ⟨1,p,q,d,tm⟩))):=by
 show Calls _ _ _ _ (NextPost w room (writeE l room p (cutTo m d) tm))
 rw [<-hm];exact rnext_write t v l room p q d tm most pk w T O hr hp hd
theorem rnext_k3 (t:Nat) (v:Value) (l:Nodes) (room:Nat) (p q d:ByteArray) (tm:Int) (most:Nat) (pk:Bool) (m:Nat) (w:World) (T:RTreeAt w t v l room) (O:TreeOk l room) (hr:room<=1048576) (hp:mayB p=true) (hd:d.size<=1048576) :
  Calls prog 102 #[.pointer (some ⟨t,0,none⟩),.agg #[.int .i64 3,.string p,.string q,.string d,.int .i64 tm,.int .i64 most,.bool pk]] w (NextPost w room (effE l room m (RE.eff ⟨3,p,q,d,tm⟩))):=by
 exact rnext_mkdir t v l room p q d tm most pk w T O hr hp hd
theorem rnext_k4 (t:Nat) (v:Value) (l:Nodes) (room:Nat) (p q d:ByteArray) (tm:Int) (most:Nat) (pk:Bool) (m:Nat) (w:World) (T:RTreeAt w t v l room) (O:TreeOk l room) (hr:room<=1048576) (hp:mayB p=true) :
  Calls prog 102 #[.pointer (some ⟨t,0,none⟩),.agg #[.int .i64 4,.string p,.string q,.string d,.int .i64 tm,.int .i64 most,.bool pk]] w (NextPost w room (effE l room m (RE.eff ⟨4,p,q,d,tm⟩))):=by
 exact rnext_link t v l room p q d tm most pk w T O hr hp
theorem rnext_any (t:Nat) (v:Value) (l:Nodes) (room:Nat) (x:RE) (most:Nat) (pk:Bool) (m:Nat) (w:World) (T:RTreeAt w t v l room) (O:TreeOk l room) (F:FileOk l) (hr:room<=1048576)
  (hk:1<=x.k/\x.k<=6) (hp:mayB x.p=true) (hq:x.k=5->mayB x.q=true) (hd:x.data.size<=1048576) (hm:dataC pk most x.data=cutTo m x.data) :
  Calls prog 102 #[.pointer (some ⟨t,0,none⟩),.agg #[.int .i64 x.k,.string x.p,.string x.q,.string x.data,.int .i64 x.time,.int .i64 most,.bool pk]] w (NextPost w room (effE l room m x.eff)):=by
 obtain ⟨k,p,q,d,tm⟩:=x;dsimp only at hk hp hq hd hm ⊢;have h:k=1\/k=2\/k=3\/k=4\/k=5\/k=6:=by omega
 rcases h with rfl | rfl | rfl | rfl | rfl | rfl
 ·exact rnext_k1 t v l room p q d tm most pk m w T O hr hp hd hm
 ·show Calls _ _ _ _ (NextPost w room (addE l room p (cutTo m d)))
  rw [<-hm];exact rnext_add t v l room p q d tm most pk w T O hr hp F hd
 ·exact rnext_k3 t v l room p q d tm most pk m w T O hr hp hd
 ·exact rnext_k4 t v l room p q d tm most pk m w T O hr hp
 ·exact rnext_rename t v l room p q d tm most pk w T O hr hp (hq rfl) hd
 ·exact rnext_remove t v l room p q d tm most pk w T O hr hp
end
end Go.Proofs.YtldppmjjgljinaaGreatDoor
