import Derived.Test.YtodickpibbbiiaaGreatDoorAkG2
import Derived.Deep.CutRange
open Go.Proofs.Tryz
namespace Go.Proofs.YtodickpibbbiiaaGreatDoor
section
open Go.RowKit
attribute [local go_sem] Oper.semAt_some
set_option maxRecDepth 100000 in
set_option maxHeartbeats 8000000 in
theorem asymF_any {w:World} {g cap n a b:Nat} {l:List Ent} (h:RowE w g l) (hn:n=l.length) (hl:l.length<=100000) (_hcap:n<=cap) (hab:a+1<b) (hb:b<=l.length) (hs:SoOn keyE l (a+1) b) :
  Calls prog 228 #[.slice (some ⟨g,0,none⟩) n cap,.int .i64 a,.int .i64 ((a+1:Nat):Int),.int .i64 b,.func (.func 96) #[] #[]] w fun e w'=>e=.returned (.tuple #[])/\Hid (∃ l',Mg keyE l l' a b/\RowE w' g l'/\Touch g w w'):=by
 have HR:=lh h;have HN:=lh hn;have HS:=lh hs;rw [<-hn] at hl hb;obtain ⟨x,hxa⟩:∃ x,l[a]?=some x:=⟨_,List.getElem?_eq_getElem (by omega)⟩;have HXA:=lh hxa;have q1:IntKind.i64.wrap (((a+1:Nat):Int) - (a:Int))=1:=by rw [IntWalk.i64_in _ (by omega)];omega
 clear h hn hs hxa;go_enter func228,ntmps228;go_wp2_with fail;go_loopw [10,11] (fun iv jv wr=>Hid (∃ i j:Nat,a+1<=i/\i<=j/\j<=b/\iv=.int .i64 i/\jv=.int .i64 j/\(∀ t,a+1<=t->t<i->∀ z,l[t]?=some z->keyE z<keyE x)/\(∀ t,j<=t->t<b->∀ z,l[t]?=some z->¬ keyE z<keyE x)/\Ext w wr)) (fun iv jv _=>(intOf jv).toNat - (intOf iv).toNat)
 case atStart=>exact ⟨a+1,b,Nat.le_refl _,by omega,Nat.le_refl _,by go_num,rfl,fun t h1 h2=>by omega,fun t h1 h2=>by omega,Ext.refl _⟩
 case round =>
  obtain ⟨i,j,hi,hij,hj,rfl,rfl,hlo,hhi,hx⟩:=hrel.out;clear hrel;have HLo:=lh hlo;have HHi:=lh hhi;have HX:=lh hx;clear hlo hhi hx;by_cases hlt:i<j
  ·obtain ⟨c,hc⟩:∃ c,c=(i+j) / 2:=⟨_,rfl⟩;have hc1:i<=c:=by omega
   have hc2:c<j:=by omega
   have q2:IntKind.i64.wrap ((i:Int)+(j:Int))=((i+j:Nat):Int):=by rw [IntWalk.i64_in _ (by omega)];omega
   have q3:((i:Int)+(j:Int)) / 2=(c:Int):=by rw [hc];omega
   obtain ⟨y,hyc⟩:∃ y,l[c]?=some y:=⟨_,List.getElem?_eq_getElem (by have:=HN.out;omega)⟩;have HYC:=lh hyc;have r1:=lh (fun (z:After wr)=>(HR.out.ext (HX.out.trans z.x)).ent HXA.out:∀ z:After wr,z.v.rangeAt g (a*4) (entV x));have r2:=lh (fun (z:After wr)=>(HR.out.ext (HX.out.trans z.x)).ent hyc:∀ z:After wr,z.v.rangeAt g (c*4) (entV y));have HC:=lh (fun w1=>acmpE_any y x w1);unfold entA at HC;clear hyc hc;by_cases hk:keyE y<keyE x
   ·rw [cmpI_lt hk] at HC;have HK:=lh hk;clear hk;go_upto_region 5 with (fail)
    refine wp_region_after (by kernel_rfl) (by kernel_rfl) ?_
    iterate 4 go_big_quiet_step (fail)
    refine wpQuiet_load_ag rfl _ _ rfl g (c*4) rfl (entV y).toArray _ (by rintro _ ⟨z,rfl⟩;exact r2.out z) underlying93 rfl (by kernel_rfl) ?_;go_frame
    iterate 3 go_big_quiet_step (fail)
    refine wpQuiet_load_ag rfl _ _ rfl g (a*4) rfl (entV x).toArray _ (by rintro _ ⟨z,rfl⟩;exact r1.out z) underlying93 rfl (by kernel_rfl) ?_;go_frame
    iterate 2 go_big_quiet_step (exact After.of (HC.out _))
    refine wpQuiet_nil ?_;rintro _ ⟨z,rfl⟩;have XZ:=lh (HX.out.trans z.x);clear r1 r2 HC;go_wp2;go_roundw
    case rel=>exact ⟨c+1,j,by omega,by omega,hj,by go_num,rfl,fun t t1 t2 u hu=>by
     by_cases e:t=c
     ·subst e;rw [HYC.out] at hu
      cases hu
      exact HK.out
     ·exact kl_le_lt (HS.out t c t1 (by omega) (by omega) u y hu HYC.out) HK.out,HHi.out,XZ.out⟩
    case measure=>simp [intOf] <;> omega
   ·have hge:=cmpI_ge hk;have HK:=lh hk;generalize cmpI (keyE y) (keyE x)=d at *;have gd:decide (d<0)=false:=decide_eq_false (by omega);clear hk;go_upto_region 5 with (fail)
    refine wp_region_after (by kernel_rfl) (by kernel_rfl) ?_
    iterate 4 go_big_quiet_step (fail)
    refine wpQuiet_load_ag rfl _ _ rfl g (c*4) rfl (entV y).toArray _ (by rintro _ ⟨z,rfl⟩;exact r2.out z) underlying93 rfl (by kernel_rfl) ?_;go_frame
    iterate 3 go_big_quiet_step (fail)
    refine wpQuiet_load_ag rfl _ _ rfl g (a*4) rfl (entV x).toArray _ (by rintro _ ⟨z,rfl⟩;exact r1.out z) underlying93 rfl (by kernel_rfl) ?_;go_frame
    iterate 2 go_big_quiet_step (exact After.of (HC.out _))
    refine wpQuiet_nil ?_;rintro _ ⟨z,rfl⟩;have XZ:=lh (HX.out.trans z.x);clear r1 r2 HC;go_wp2;go_roundw
    case rel=>exact ⟨i,c,hi,hc1,by omega,rfl,rfl,HLo.out,fun t t1 t2 u hu=>by
     by_cases e:t=c
     ·subst e;rw [HYC.out] at hu
      cases hu
      exact HK.out
     ·exact kl_le HK.out (HS.out c t (by omega) (by omega) t2 y u HYC.out hu),XZ.out⟩
    case measure=>simp [intOf] <;> omega
  ·obtain rfl:i=j:=by omega
   have HMg:=lh (Mg.first (key:=keyE) (l:=l) (a:=a) (b:=b) (i:=i) hi hj (by have:=HN.out;omega) HS.out (fun t t1 t2 u v hu hv=>by
    rw [HXA.out] at hu
    cases hu
    exact HLo.out t t1 t2 v hv) (fun t t1 t2 u v hu hv=>by
    rw [HXA.out] at hu
    cases hu
    exact HHi.out t t1 t2 v hv))
   obtain ⟨wo,hwo⟩:∃ wo,wo=wr:=⟨_,rfl⟩;have HT0:=lh (show Touch g w wo from hwo▸Touch.of HX.out);have HR0:=lh (show RowE wo g l from hwo▸HR.out.ext HX.out);obtain ⟨i1,hi1⟩:∃ i1,i1=i - 1:=⟨_,rfl⟩;have hii:i1+1=i:=by omega
   have q4:IntKind.i64.wrap ((i:Int) - 1)=(i1:Int):=by rw [IntWalk.i64_in _ (by omega)];omega
   rw [<-hwo];clear hwo HX HLo HHi HR hi1;go_wp2_with fail;go_loopw [13] (fun kv wr=>Hid (∃ k:Nat,a<=k/\k<=i1/\kv=.int .i64 k/\RowE wr g (plF l (rotF a (a+1) (k+1)))/\Touch g wo wr)) (fun kv _=>i1 - (intOf kv).toNat)
   case atStart=>exact ⟨a,Nat.le_refl _,by omega,rfl,by rw [rot_none (.inr rfl) (by omega) (by omega)];exact HR0.out,Touch.of (Ext.refl _)⟩
   case round =>
    obtain ⟨k,hk1,hk2,rfl,hr,hx⟩:=hrel.out;clear hrel;have HR1:=lh hr;have HT:=lh hx;clear hr hx;by_cases hlt:k<i1
    ·have hlen:(plF l (rotF a (a+1) (k+1))).length=n:=(plF_len fun t ht=>rotF_lt (a:=a) (m:=a+1) (b:=k+1) (by omega) (by omega) (by have:=HN.out;omega) ht).trans HN.out.symm;have HS:=lh (rot_up (l:=l) (a:=a) (k:=k) hk1 (by have:=HN.out;omega));generalize plF l (rotF a (a+1) (k+1))=l1 at *;obtain ⟨q,hq⟩:∃ q,q=k+1:=⟨_,rfl⟩;obtain ⟨p,hp⟩:∃ p,p=k:=⟨_,rfl⟩;obtain ⟨x,hx⟩:∃ x,l1[p]?=some x:=⟨_,List.getElem?_eq_getElem (by omega)⟩;obtain ⟨y,hy⟩:∃ y,l1[q]?=some y:=⟨_,List.getElem?_eq_getElem (by omega)⟩;have hpn:p<n:=by omega
     have hqn:q<n:=by omega
     have q5:IntKind.i64.wrap ((p:Int)+1)=(q:Int):=by rw [IntWalk.i64_in _ (by omega)];omega
     have q6:IntKind.i64.wrap ((k:Int)+1)=(q:Int):=by rw [IntWalk.i64_in _ (by omega)];omega
     have HX:=lh (show wr.drew.rangeAt g (p*4) (entV x) from (HR1.out.ext (Ext.refl wr).drew).ent hx);have HY:=lh (show wr.drew.rangeAt g (q*4) (entV y) from (HR1.out.ext (Ext.refl wr).drew).ent hy);have HD:=lh (HR1.out.ext (Ext.refl wr).drew);have HS1:=lh (show wr.drew.there g (p*4) (entV y).toArray.size from HD.out.room (by omega));obtain ⟨k1,k2⟩:=HD.out.store (show p<l1.length by omega) y;have HS2:=lh (show (wr.drew.setCells g (p*4) (entV y)).there g (q*4) (entV x).toArray.size from k1.room (by rw [List.length_set];omega));obtain ⟨k3,k4⟩:=k1.store (show q<(l1.set p y).length by rw [List.length_set];omega) x;rw [swap_set hx hy] at k3;have HW:=lh k3;have HT3:=lh (show Touch g wo _ from HT.out.trans ((Touch.of (Ext.refl wr).drew).trans (k2.trans k4)));clear k1 k2 k3 k4 hx hy;rw [show k+2=q+1 from by omega,<-hq] at HS;subst hp;rw [HS.out] at HW;have HQ:=lh (show q=p+1 from hq);have hq1:a<=q:=by omega
     have hq2:q<=i1:=by omega
     clear hq hlen HS HR1 HD;go_upto_region 11 with (fail)
     refine wp_region_held (S:=fun _=>True) (by kernel_rfl) ?_;refine wpAnyH_takeL (i:=0) (v:=.slice (some ⟨g,0,none⟩) n cap) rfl (by kernel_rfl) (by kernel_rfl) (by kernel_rfl) (fun _ _ _ h=>h) (yieldsIf_move rfl _ rfl rfl) trivial ?_;go_frame;refine wpAnyH_takeL (i:=1) (v:=.int .i64 (p:Nat)) rfl (by kernel_rfl) (by kernel_rfl) (by kernel_rfl) (fun _ _ _ h=>h) (yieldsIf_move rfl _ rfl rfl) trivial ?_;go_frame;refine wpAnyH_takeL (i:=2) (v:=.slice (some ⟨g,0,none⟩) n cap) rfl (by kernel_rfl) (by kernel_rfl) (by kernel_rfl) (fun _ _ _ h=>h) (yieldsIf_move rfl _ rfl rfl) trivial ?_;go_frame;refine wpAnyH_takeL (i:=3) (v:=.int .i64 (p:Nat)) rfl (by kernel_rfl) (by kernel_rfl) (by kernel_rfl) (fun _ _ _ h=>h) (yieldsIf_move rfl _ rfl rfl) trivial ?_;go_frame;refine wpAnyH_takeL (i:=4) (v:=.int .i64 (q:Nat)) rfl (by kernel_rfl) (by kernel_rfl) (by kernel_rfl) (fun _ _ _ h=>h) (Or.inl ⟨rfl,fun w' _=>by go_simp⟩) trivial ?_;go_frame;refine wpAnyH_takeL (i:=5) (v:=.slice (some ⟨g,0,none⟩) n cap) rfl (by kernel_rfl) (by kernel_rfl) (by kernel_rfl) (fun _ _ _ h=>h) (yieldsIf_move rfl _ rfl rfl) trivial ?_;go_frame;refine wpAnyH_takeL (i:=6) (v:=.int .i64 (p:Nat)) rfl (by kernel_rfl) (by kernel_rfl) (by kernel_rfl) (fun _ _ _ h=>h) (yieldsIf_move rfl _ rfl rfl) trivial ?_;go_frame;refine wpAnyH_takeL (i:=7) (v:=.int .i64 (q:Nat)) rfl (by kernel_rfl) (by kernel_rfl) (by kernel_rfl) (fun _ _ _ h=>h) (Or.inl ⟨rfl,fun w' _=>by go_simp⟩) trivial ?_;go_frame;refine wpAnyH_takeL (i:=8) (v:=.pointer (some ⟨g,q*4,none⟩)) rfl (by kernel_rfl) (by kernel_rfl) (by kernel_rfl) (fun _ _ _ h=>h) (Or.inl ⟨rfl,fun w' _=>by go_simp⟩) trivial ?_;go_frame;refine wpAnyH_takeL (i:=10) (v:=.slice (some ⟨g,0,none⟩) n cap) rfl (by kernel_rfl) (by kernel_rfl) (by kernel_rfl) (fun _ _ _ h=>h) (yieldsIf_move rfl _ rfl rfl) trivial ?_;go_frame;refine wpAnyH_takeL (i:=11) (v:=.int .i64 (p:Nat)) rfl (by kernel_rfl) (by kernel_rfl) (by kernel_rfl) (fun _ _ _ h=>h) (yieldsIf_move rfl _ rfl rfl) trivial ?_;go_frame;refine wpAnyH_takeL (i:=12) (v:=.pointer (some ⟨g,p*4,none⟩)) rfl (by kernel_rfl) (by kernel_rfl) (by kernel_rfl) (fun _ _ _ h=>h) (Or.inl ⟨rfl,fun w' _=>by go_simp⟩) trivial ?_;go_frame;refine wpAnyH_or2 (i:=9) (j:=13) (vi:=.agg (entV y).toArray) (vj:=.agg (entV x).toArray) (by kernel_rfl) rfl rfl rfl rfl (run_loadOpM 93 _ rfl g (q*4) rfl (entV y) HY.out underlying93 rfl (by kernel_rfl)) (run_loadOpM 93 _ rfl g (p*4) rfl (entV x) HX.out underlying93 rfl (by kernel_rfl)) trivial ?_ ?_
     ·go_frame;refine wpAnyH_one (i:=13) (v:=.agg (entV x).toArray) (by kernel_rfl) rfl rfl (run_loadOpM 93 _ rfl g (p*4) rfl (entV x) HX.out underlying93 rfl (by kernel_rfl)) trivial ?_;go_frame;refine wpAnyH_one (i:=14) (v:=.pointer (some ⟨g,p*4,none⟩)) (by kernel_rfl) rfl rfl (by go_simp <;> rfl) trivial ?_;go_frame;refine wpAnyH_skip (i:=15) (by kernel_rfl) rfl rfl (run_storeOpM 93 _ _ rfl g (p*4) (entV y) rfl rfl HS1.out (by kernel_rfl) (by kernel_rfl)) trivial ?_;go_frame;refine wpAnyH_one (i:=16) (v:=.pointer (some ⟨g,q*4,none⟩)) (by kernel_rfl) rfl rfl (by go_simp <;> rfl) trivial ?_;go_frame;refine wpAnyH_skip (i:=17) (by kernel_rfl) rfl rfl (run_storeOpM 93 _ _ rfl g (q*4) (entV x) rfl rfl HS2.out (by kernel_rfl) (by kernel_rfl)) trivial ?_;go_frame;refine wpAnyH_done (by kernel_rfl) ?_ _;go_wp2;go_roundw
      case rel=>exact ⟨q,hq1,hq2,by go_num,HW.out,HT3.out⟩
      case measure=>have:=HQ.out;simp [intOf] <;> omega
     ·go_frame;refine wpAnyH_one (i:=9) (v:=.agg (entV y).toArray) (by kernel_rfl) rfl rfl (run_loadOpM 93 _ rfl g (q*4) rfl (entV y) HY.out underlying93 rfl (by kernel_rfl)) trivial ?_;go_frame;refine wpAnyH_one (i:=14) (v:=.pointer (some ⟨g,p*4,none⟩)) (by kernel_rfl) rfl rfl (by go_simp <;> rfl) trivial ?_;go_frame;refine wpAnyH_skip (i:=15) (by kernel_rfl) rfl rfl (run_storeOpM 93 _ _ rfl g (p*4) (entV y) rfl rfl HS1.out (by kernel_rfl) (by kernel_rfl)) trivial ?_;go_frame;refine wpAnyH_one (i:=16) (v:=.pointer (some ⟨g,q*4,none⟩)) (by kernel_rfl) rfl rfl (by go_simp <;> rfl) trivial ?_;go_frame;refine wpAnyH_skip (i:=17) (by kernel_rfl) rfl rfl (run_storeOpM 93 _ _ rfl g (q*4) (entV x) rfl rfl HS2.out (by kernel_rfl) (by kernel_rfl)) trivial ?_;go_frame;refine wpAnyH_done (by kernel_rfl) ?_ _;go_wp2;go_roundw
      case rel=>exact ⟨q,hq1,hq2,by go_num,HW.out,HT3.out⟩
      case measure=>have:=HQ.out;simp [intOf] <;> omega
    ·obtain rfl:k=i1:=by omega
     rw [hii] at HR1;go_wp2_with fail;exact bodyPost_ret (results_none rfl _ _ _) rfl ⟨rfl,_,HMg.out,HR1.out,HT0.out.trans HT.out⟩
set_option maxRecDepth 100000 in
set_option maxHeartbeats 8000000 in
theorem asymL_any {w:World} {g cap n a m:Nat} {l:List Ent} (h:RowE w g l) (hn:n=l.length) (hl:l.length<=100000) (_hcap:n<=cap) (ham:a+1<m) (hb:m<l.length) (hs:SoOn keyE l a m) :
  Calls prog 228 #[.slice (some ⟨g,0,none⟩) n cap,.int .i64 a,.int .i64 m,.int .i64 ((m+1:Nat):Int),.func (.func 96) #[] #[]] w fun e w'=>e=.returned (.tuple #[])/\Hid (∃ l',Mg keyE l l' a (m+1)/\RowE w' g l'/\Touch g w w'):=by
 have HR:=lh h;have HN:=lh hn;have HS:=lh hs;rw [<-hn] at hl hb;obtain ⟨y,hym⟩:∃ y,l[m]?=some y:=⟨_,List.getElem?_eq_getElem (by omega)⟩;have HYM:=lh hym;have q0:IntKind.i64.wrap ((m:Int) - (a:Int))=((m - a:Nat):Int):=by rw [IntWalk.i64_in _ (by omega)];omega
 have g0:(((m - a:Nat):Int)==1)=false:=by rw [beq_eq_false_iff_ne];omega
 have q1:IntKind.i64.wrap (((m+1:Nat):Int) - (m:Int))=1:=by rw [IntWalk.i64_in _ (by omega)];omega
 clear h hn hs hym;go_enter func228,ntmps228;go_wp2_with fail;go_loopw [14,15] (fun iv jv wr=>Hid (∃ i j:Nat,a<=i/\i<=j/\j<=m/\iv=.int .i64 i/\jv=.int .i64 j/\(∀ t,a<=t->t<i->∀ z,l[t]?=some z->¬ keyE y<keyE z)/\(∀ t,j<=t->t<m->∀ z,l[t]?=some z->keyE y<keyE z)/\Ext w wr)) (fun iv jv _=>(intOf jv).toNat - (intOf iv).toNat)
 case atStart=>exact ⟨a,m,Nat.le_refl _,by omega,Nat.le_refl _,rfl,rfl,fun t h1 h2=>by omega,fun t h1 h2=>by omega,Ext.refl _⟩
 case round =>
  obtain ⟨i,j,hi,hij,hj,rfl,rfl,hlo,hhi,hx⟩:=hrel.out;clear hrel;have HLo:=lh hlo;have HHi:=lh hhi;have HX:=lh hx;clear hlo hhi hx;by_cases hlt:i<j
  ·obtain ⟨c,hc⟩:∃ c,c=(i+j) / 2:=⟨_,rfl⟩;have hc1:i<=c:=by omega
   have hc2:c<j:=by omega
   have q2:IntKind.i64.wrap ((i:Int)+(j:Int))=((i+j:Nat):Int):=by rw [IntWalk.i64_in _ (by omega)];omega
   have q3:((i:Int)+(j:Int)) / 2=(c:Int):=by rw [hc];omega
   obtain ⟨x,hxc⟩:∃ x,l[c]?=some x:=⟨_,List.getElem?_eq_getElem (by have:=HN.out;omega)⟩;have HXC:=lh hxc;have r1:=lh (fun (z:After wr)=>(HR.out.ext (HX.out.trans z.x)).ent hxc:∀ z:After wr,z.v.rangeAt g (c*4) (entV x));have r2:=lh (fun (z:After wr)=>(HR.out.ext (HX.out.trans z.x)).ent HYM.out:∀ z:After wr,z.v.rangeAt g (m*4) (entV y));have HC:=lh (fun w1=>acmpE_any y x w1);unfold entA at HC;clear hxc hc;by_cases hk:keyE y<keyE x
   ·rw [cmpI_lt hk] at HC;have HK:=lh hk;clear hk;go_upto_region 17 with (fail)
    refine wp_region_after (by kernel_rfl) (by kernel_rfl) ?_
    iterate 4 go_big_quiet_step (fail)
    refine wpQuiet_load_ag rfl _ _ rfl g (m*4) rfl (entV y).toArray _ (by rintro _ ⟨z,rfl⟩;exact r2.out z) underlying93 rfl (by kernel_rfl) ?_;go_frame
    iterate 3 go_big_quiet_step (fail)
    refine wpQuiet_load_ag rfl _ _ rfl g (c*4) rfl (entV x).toArray _ (by rintro _ ⟨z,rfl⟩;exact r1.out z) underlying93 rfl (by kernel_rfl) ?_;go_frame
    iterate 3 go_big_quiet_step (exact After.of (HC.out _))
    refine wpQuiet_nil ?_;rintro _ ⟨z,rfl⟩;have XZ:=lh (HX.out.trans z.x);clear r1 r2 HC;go_wp2;go_roundw
    case rel=>exact ⟨i,c,hi,hc1,by omega,rfl,rfl,HLo.out,fun t t1 t2 u hu=>by
     by_cases e:t=c
     ·subst e;rw [HXC.out] at hu
      cases hu
      exact HK.out
     ·exact kl_lt_le HK.out (HS.out c t (by omega) (by omega) t2 x u HXC.out hu),XZ.out⟩
    case measure=>simp [intOf] <;> omega
   ·have hge:=cmpI_ge hk;have HK:=lh hk;generalize cmpI (keyE y) (keyE x)=d at *;have gd:decide (d<0)=false:=decide_eq_false (by omega);clear hk;go_upto_region 17 with (fail)
    refine wp_region_after (by kernel_rfl) (by kernel_rfl) ?_
    iterate 4 go_big_quiet_step (fail)
    refine wpQuiet_load_ag rfl _ _ rfl g (m*4) rfl (entV y).toArray _ (by rintro _ ⟨z,rfl⟩;exact r2.out z) underlying93 rfl (by kernel_rfl) ?_;go_frame
    iterate 3 go_big_quiet_step (fail)
    refine wpQuiet_load_ag rfl _ _ rfl g (c*4) rfl (entV x).toArray _ (by rintro _ ⟨z,rfl⟩;exact r1.out z) underlying93 rfl (by kernel_rfl) ?_;go_frame
    iterate 3 go_big_quiet_step (exact After.of (HC.out _))
    refine wpQuiet_nil ?_;rintro _ ⟨z,rfl⟩;have XZ:=lh (HX.out.trans z.x);clear r1 r2 HC;go_wp2;go_roundw
    case rel=>exact ⟨c+1,j,by omega,by omega,hj,by go_num,rfl,fun t t1 t2 u hu=>by
     by_cases e:t=c
     ·subst e;rw [HXC.out] at hu
      cases hu
      exact HK.out
     ·exact kl_le (HS.out t c t1 (by omega) (by omega) u x hu HXC.out) HK.out,HHi.out,XZ.out⟩
    case measure=>simp [intOf] <;> omega
  ·obtain rfl:i=j:=by omega
   have HMg:=lh (Mg.last (key:=keyE) (l:=l) (a:=a) (i:=i) (m:=m) hi hj (by have:=HN.out;omega) HS.out (fun t t1 t2 u v hu hv=>by
    rw [HYM.out] at hv
    cases hv
    exact HLo.out t t1 t2 u hu) (fun t t1 t2 u v hu hv=>by
    rw [HYM.out] at hv
    cases hv
    exact HHi.out t t1 t2 u hu))
   obtain ⟨wo,hwo⟩:∃ wo,wo=wr:=⟨_,rfl⟩;have HT0:=lh (show Touch g w wo from hwo▸Touch.of HX.out);have HR0:=lh (show RowE wo g l from hwo▸HR.out.ext HX.out);rw [<-hwo];clear hwo HX HLo HHi HR;go_wp2_with fail;go_loopw [17] (fun kv wr=>Hid (∃ k:Nat,i<=k/\k<=m/\kv=.int .i64 k/\RowE wr g (plF l (rotF k m (m+1)))/\Touch g wo wr)) (fun kv _=>(intOf kv).toNat)
   case atStart=>exact ⟨m,hj,Nat.le_refl _,rfl,by rw [rot_none (.inl rfl) (Nat.le_refl _) (by omega)];exact HR0.out,Touch.of (Ext.refl _)⟩
   case round =>
    obtain ⟨k,hk1,hk2,rfl,hr,hx⟩:=hrel.out;clear hrel;have HR1:=lh hr;have HT:=lh hx;clear hr hx;by_cases hlt:i<k
    ·have hlen:(plF l (rotF k m (m+1))).length=n:=(plF_len fun t ht=>rotF_lt (a:=k) (m:=m) (b:=m+1) hk2 (by omega) (by have:=HN.out;omega) ht).trans HN.out.symm;have HDn:=lh (rot_down (l:=l) (k:=k) (m:=m) (by omega) hk2 (by have:=HN.out;omega));generalize plF l (rotF k m (m+1))=l1 at *;obtain ⟨q,hq⟩:∃ q,q=k - 1:=⟨_,rfl⟩;obtain ⟨p,hp⟩:∃ p,p=k:=⟨_,rfl⟩;obtain ⟨x,hx⟩:∃ x,l1[p]?=some x:=⟨_,List.getElem?_eq_getElem (by omega)⟩;obtain ⟨y,hy⟩:∃ y,l1[q]?=some y:=⟨_,List.getElem?_eq_getElem (by omega)⟩;have hpn:p<n:=by omega
     have hqn:q<n:=by omega
     have hqp:q<p:=by omega
     have hqi:i<=q:=by omega
     have hqm:q<=m:=by omega
     have q5:IntKind.i64.wrap ((p:Int) - 1)=(q:Int):=by rw [IntWalk.i64_in _ (by omega)];omega
     rw [<-hq] at HDn;subst hp;have HX:=lh (show wr.drew.rangeAt g (p*4) (entV x) from (HR1.out.ext (Ext.refl wr).drew).ent hx);have HY:=lh (show wr.drew.rangeAt g (q*4) (entV y) from (HR1.out.ext (Ext.refl wr).drew).ent hy);have HD:=lh (HR1.out.ext (Ext.refl wr).drew);have HS1:=lh (show wr.drew.there g (p*4) (entV y).toArray.size from HD.out.room (by omega));obtain ⟨k1,k2⟩:=HD.out.store (show p<l1.length by omega) y;have HS2:=lh (show (wr.drew.setCells g (p*4) (entV y)).there g (q*4) (entV x).toArray.size from k1.room (by rw [List.length_set];omega));obtain ⟨k3,k4⟩:=k1.store (show q<(l1.set p y).length by rw [List.length_set];omega) x;rw [swap_set hx hy] at k3;have HW:=lh k3;have HT3:=lh (show Touch g wo _ from HT.out.trans ((Touch.of (Ext.refl wr).drew).trans (k2.trans k4)));clear k1 k2 k3 k4 hx hy;rw [HDn.out] at HW;clear hq hlen HDn HR1 HD;go_upto_region 23 with (fail)
     refine wp_region_held (S:=fun _=>True) (by kernel_rfl) ?_;refine wpAnyH_takeL (i:=0) (v:=.slice (some ⟨g,0,none⟩) n cap) rfl (by kernel_rfl) (by kernel_rfl) (by kernel_rfl) (fun _ _ _ h=>h) (yieldsIf_move rfl _ rfl rfl) trivial ?_;go_frame;refine wpAnyH_takeL (i:=1) (v:=.int .i64 (p:Nat)) rfl (by kernel_rfl) (by kernel_rfl) (by kernel_rfl) (fun _ _ _ h=>h) (yieldsIf_move rfl _ rfl rfl) trivial ?_;go_frame;refine wpAnyH_takeL (i:=2) (v:=.slice (some ⟨g,0,none⟩) n cap) rfl (by kernel_rfl) (by kernel_rfl) (by kernel_rfl) (fun _ _ _ h=>h) (yieldsIf_move rfl _ rfl rfl) trivial ?_;go_frame;refine wpAnyH_takeL (i:=3) (v:=.int .i64 (p:Nat)) rfl (by kernel_rfl) (by kernel_rfl) (by kernel_rfl) (fun _ _ _ h=>h) (yieldsIf_move rfl _ rfl rfl) trivial ?_;go_frame;refine wpAnyH_takeL (i:=4) (v:=.int .i64 (q:Nat)) rfl (by kernel_rfl) (by kernel_rfl) (by kernel_rfl) (fun _ _ _ h=>h) (Or.inl ⟨rfl,fun w' _=>by go_simp⟩) trivial ?_;go_frame;refine wpAnyH_takeL (i:=5) (v:=.slice (some ⟨g,0,none⟩) n cap) rfl (by kernel_rfl) (by kernel_rfl) (by kernel_rfl) (fun _ _ _ h=>h) (yieldsIf_move rfl _ rfl rfl) trivial ?_;go_frame;refine wpAnyH_takeL (i:=6) (v:=.int .i64 (p:Nat)) rfl (by kernel_rfl) (by kernel_rfl) (by kernel_rfl) (fun _ _ _ h=>h) (yieldsIf_move rfl _ rfl rfl) trivial ?_;go_frame;refine wpAnyH_takeL (i:=7) (v:=.int .i64 (q:Nat)) rfl (by kernel_rfl) (by kernel_rfl) (by kernel_rfl) (fun _ _ _ h=>h) (Or.inl ⟨rfl,fun w' _=>by go_simp⟩) trivial ?_;go_frame;refine wpAnyH_takeL (i:=8) (v:=.pointer (some ⟨g,q*4,none⟩)) rfl (by kernel_rfl) (by kernel_rfl) (by kernel_rfl) (fun _ _ _ h=>h) (Or.inl ⟨rfl,fun w' _=>by go_simp⟩) trivial ?_;go_frame;refine wpAnyH_takeL (i:=10) (v:=.slice (some ⟨g,0,none⟩) n cap) rfl (by kernel_rfl) (by kernel_rfl) (by kernel_rfl) (fun _ _ _ h=>h) (yieldsIf_move rfl _ rfl rfl) trivial ?_;go_frame;refine wpAnyH_takeL (i:=11) (v:=.int .i64 (p:Nat)) rfl (by kernel_rfl) (by kernel_rfl) (by kernel_rfl) (fun _ _ _ h=>h) (yieldsIf_move rfl _ rfl rfl) trivial ?_;go_frame;refine wpAnyH_takeL (i:=12) (v:=.pointer (some ⟨g,p*4,none⟩)) rfl (by kernel_rfl) (by kernel_rfl) (by kernel_rfl) (fun _ _ _ h=>h) (Or.inl ⟨rfl,fun w' _=>by go_simp⟩) trivial ?_;go_frame;refine wpAnyH_or2 (i:=9) (j:=13) (vi:=.agg (entV y).toArray) (vj:=.agg (entV x).toArray) (by kernel_rfl) rfl rfl rfl rfl (run_loadOpM 93 _ rfl g (q*4) rfl (entV y) HY.out underlying93 rfl (by kernel_rfl)) (run_loadOpM 93 _ rfl g (p*4) rfl (entV x) HX.out underlying93 rfl (by kernel_rfl)) trivial ?_ ?_
     ·go_frame;refine wpAnyH_one (i:=13) (v:=.agg (entV x).toArray) (by kernel_rfl) rfl rfl (run_loadOpM 93 _ rfl g (p*4) rfl (entV x) HX.out underlying93 rfl (by kernel_rfl)) trivial ?_;go_frame;refine wpAnyH_one (i:=14) (v:=.pointer (some ⟨g,p*4,none⟩)) (by kernel_rfl) rfl rfl (by go_simp <;> rfl) trivial ?_;go_frame;refine wpAnyH_skip (i:=15) (by kernel_rfl) rfl rfl (run_storeOpM 93 _ _ rfl g (p*4) (entV y) rfl rfl HS1.out (by kernel_rfl) (by kernel_rfl)) trivial ?_;go_frame;refine wpAnyH_one (i:=16) (v:=.pointer (some ⟨g,q*4,none⟩)) (by kernel_rfl) rfl rfl (by go_simp <;> rfl) trivial ?_;go_frame;refine wpAnyH_skip (i:=17) (by kernel_rfl) rfl rfl (run_storeOpM 93 _ _ rfl g (q*4) (entV x) rfl rfl HS2.out (by kernel_rfl) (by kernel_rfl)) trivial ?_;go_frame;refine wpAnyH_done (by kernel_rfl) ?_ _;go_wp2;go_roundw
      case rel=>exact ⟨q,hqi,hqm,by go_num,HW.out,HT3.out⟩
      case measure=>simp [intOf] <;> omega
     ·go_frame;refine wpAnyH_one (i:=9) (v:=.agg (entV y).toArray) (by kernel_rfl) rfl rfl (run_loadOpM 93 _ rfl g (q*4) rfl (entV y) HY.out underlying93 rfl (by kernel_rfl)) trivial ?_;go_frame;refine wpAnyH_one (i:=14) (v:=.pointer (some ⟨g,p*4,none⟩)) (by kernel_rfl) rfl rfl (by go_simp <;> rfl) trivial ?_;go_frame;refine wpAnyH_skip (i:=15) (by kernel_rfl) rfl rfl (run_storeOpM 93 _ _ rfl g (p*4) (entV y) rfl rfl HS1.out (by kernel_rfl) (by kernel_rfl)) trivial ?_;go_frame;refine wpAnyH_one (i:=16) (v:=.pointer (some ⟨g,q*4,none⟩)) (by kernel_rfl) rfl rfl (by go_simp <;> rfl) trivial ?_;go_frame;refine wpAnyH_skip (i:=17) (by kernel_rfl) rfl rfl (run_storeOpM 93 _ _ rfl g (q*4) (entV x) rfl rfl HS2.out (by kernel_rfl) (by kernel_rfl)) trivial ?_;go_frame;refine wpAnyH_done (by kernel_rfl) ?_ _;go_wp2;go_roundw
      case rel=>exact ⟨q,hqi,hqm,by go_num,HW.out,HT3.out⟩
      case measure=>simp [intOf] <;> omega
    ·obtain rfl:i=k:=by omega
     go_wp2_with fail;exact bodyPost_ret (results_none rfl _ _ _) rfl ⟨rfl,_,HMg.out,HR1.out,HT0.out.trans HT.out⟩
end
section
open Go.RowKit
attribute [local go_sem] Oper.semAt_some
set_option maxRecDepth 100000 in
set_option maxHeartbeats 16000000 in
theorem asymM_any {w:World} {g cap n a m b:Nat} {l:List Ent} (h:RowE w g l) (hn:n=l.length) (hl:l.length<=100000) (hcap:n<=cap) (ham:a+1<m) (hmb:m+1<b) (hb:b<=l.length) (hs1:SoOn keyE l a m) (hs2:SoOn keyE l m b)
  (IH:∀ a' m' b' w1 (l1:List Ent),a'<m'->m'<b'->b' - a'<b - a->b'<=n->RowE w1 g l1->n=l1.length->SoOn keyE l1 a' m'->SoOn keyE l1 m' b'->Calls prog 228 #[.slice (some ⟨g,0,none⟩) n cap,.int .i64 a',.int .i64 m',.int .i64 b',.func (.func 96) #[] #[]] w1 fun e w'=>e=.returned (.tuple #[])/\Hid (∃ l',Mg keyE l1 l' a' b'/\RowE w' g l'/\Touch g w1 w')) :
  Calls prog 228 #[.slice (some ⟨g,0,none⟩) n cap,.int .i64 a,.int .i64 m,.int .i64 b,.func (.func 96) #[] #[]] w fun e w'=>e=.returned (.tuple #[])/\Hid (∃ l',Mg keyE l l' a b/\RowE w' g l'/\Touch g w w'):=by
 have HR:=lh h;have HN:=lh hn;have HS1:=lh hs1;have HS2:=lh hs2;have HIH:=lh IH;have HRot:=lh (fun w1 (l1:List Ent) x y z (h1:RowE w1 g l1) (h2:n=l1.length) (h3:l1.length<=100000) (h4:x<y) (h5:y<z) (h6:z<=l1.length)=>arot_any h1 h2 h3 hcap h4 h5 h6 (.func (.func 96) #[] #[]));rw [<-hn] at hl hb;have q0:IntKind.i64.wrap ((m:Int) - (a:Int))=((m - a:Nat):Int):=by rw [IntWalk.i64_in _ (by omega)];omega
 have g0:(((m - a:Nat):Int)==1)=false:=by rw [beq_eq_false_iff_ne];omega
 have q1:IntKind.i64.wrap ((b:Int) - (m:Int))=((b - m:Nat):Int):=by rw [IntWalk.i64_in _ (by omega)];omega
 have g1:(((b - m:Nat):Int)==1)=false:=by rw [beq_eq_false_iff_ne];omega
 obtain ⟨md,hmd⟩:∃ md,md=(a+b) / 2:=⟨_,rfl⟩;obtain ⟨N,hN⟩:∃ N,N=md+m:=⟨_,rfl⟩;obtain ⟨p,hp⟩:∃ p,p=N - 1:=⟨_,rfl⟩;obtain ⟨nb,hnb⟩:∃ nb,nb=N - b:=⟨_,rfl⟩;have q6:IntKind.i64.wrap ((a:Int)+(b:Int))=((a+b:Nat):Int):=by rw [IntWalk.i64_in _ (by omega)];omega
 have q7:((a:Int)+(b:Int)) / 2=(md:Int):=by rw [hmd];omega
 have q8:IntKind.i64.wrap ((md:Int)+(m:Int))=(N:Int):=by rw [IntWalk.i64_in _ (by omega)];omega
 have q9:IntKind.i64.wrap ((N:Int) - 1)=(p:Int):=by rw [IntWalk.i64_in _ (by omega)];omega
 obtain ⟨s0,r0,hsr⟩:∃ s0 r0:Nat,(md<m/\s0=nb/\r0=md)\/(m<=md/\s0=a/\r0=m):=by
  by_cases hc:md<m
  ·exact ⟨nb,md,.inl ⟨hc,rfl,rfl⟩⟩
  ·exact ⟨a,m,.inr ⟨by omega,rfl,rfl⟩⟩
 have f1:a<md:=by omega
 have f2:md<b:=by omega
 have f3:s0<=r0:=by omega
 have f4:r0<=md:=by omega
 have f5:r0<=m:=by omega
 have f6:a<=s0:=by omega
 have f7:N<=s0+b:=by omega
 have HE0:=lh (show s0=a\/N=s0+b by omega);have HE1:=lh (show r0=md\/r0=m by omega);have HNN:=lh hN;have HPP:=lh (show p+1=N by omega);have HSR:=lh hsr;have HNB:=lh (show md<m->nb+b=N by omega);clear h hn hs1 hs2 IH hmd hN hp hsr hnb;go_enter func228,ntmps228;go_upto_if 140 with (fail)
 go_cut [20,21] from 138 to 146 (fun s20 s21 wx=>s20=.int .i64 s0/\s21=.int .i64 r0/\wx=w)
 case first =>
  by_cases hc:md<m
  ·have e1:s0=nb:=by rcases HSR.out with ⟨_,e,_⟩ | ⟨e,_⟩;exact e;omega
   have e2:r0=md:=by rcases HSR.out with ⟨_,_,e⟩ | ⟨e,_⟩;exact e;omega
   have q10:IntKind.i64.wrap ((N:Int) - (b:Int))=(nb:Int):=by have:=HNB.out hc;rw [IntWalk.i64_in _ (by omega)];omega
   go_wp2;go_meet
   case rel=>exact ⟨by rw [e1],by rw [e2],rfl⟩
  ·have e1:s0=a:=by rcases HSR.out with ⟨e,_⟩ | ⟨_,e,_⟩;omega;exact e
   have e2:r0=m:=by rcases HSR.out with ⟨e,_⟩ | ⟨_,_,e⟩;omega;exact e
   go_wp2;go_meet
   case rel=>exact ⟨by rw [e1],by rw [e2],rfl⟩
 case rest =>
  obtain ⟨rfl,rfl,hw⟩:=hcut;have hw':=hw.symm;clear hw;subst hw';clear HSR HNB;have f8:md<=N:=by have:=HNN.out;omega
  have f9:s0<=N:=by omega
  go_wp2_with fail;go_loopw [20,21] (fun iv jv wr=>Hid (∃ i r:Nat,s0<=i/\i<=r/\r<=r0/\iv=.int .i64 i/\jv=.int .i64 r/\(∀ t,s0<=t->t<i->NG keyE l t (p - t))/\(∀ t,r<=t->t<r0->∀ x y,l[t]?=some x->l[p - t]?=some y->keyE y<keyE x)/\Ext w wr)) (fun iv jv _=>(intOf jv).toNat - (intOf iv).toNat)
  case atStart=>exact ⟨s0,r0,Nat.le_refl _,f3,Nat.le_refl _,rfl,rfl,fun t h1 h2=>by omega,fun t h1 h2=>by omega,Ext.refl _⟩
  case round =>
   obtain ⟨i,r,hi,hir,hr,rfl,rfl,hlo,hhi,hx⟩:=hrel.out;clear hrel;have HLo:=lh hlo;have HHi:=lh hhi;have HX:=lh hx;clear hlo hhi hx;by_cases hlt:i<r
   ·obtain ⟨c,hc⟩:∃ c,c=(i+r) / 2:=⟨_,rfl⟩;have hc1:i<=c:=by omega
    have hc2:c<r:=by omega
    obtain ⟨e,he⟩:∃ e,e=p - c:=⟨_,rfl⟩;have he1:m<=e:=by have:=HNN.out;have:=HPP.out;omega
    have he2:e<b:=by have:=HNN.out;have:=HPP.out;omega
    have hen:e<n:=by omega
    have hcn:c<n:=by omega
    have q2:IntKind.i64.wrap ((i:Int)+(r:Int))=((i+r:Nat):Int):=by rw [IntWalk.i64_in _ (by omega)];omega
    have q3:((i:Int)+(r:Int)) / 2=(c:Int):=by rw [hc];omega
    have q5:IntKind.i64.wrap ((p:Int) - (c:Int))=(e:Int):=by rw [IntWalk.i64_in _ (by omega)];omega
    obtain ⟨x,hxc⟩:∃ x,l[c]?=some x:=⟨_,List.getElem?_eq_getElem (by have:=HN.out;omega)⟩;obtain ⟨y,hye⟩:∃ y,l[e]?=some y:=⟨_,List.getElem?_eq_getElem (by have:=HN.out;omega)⟩;have HXC:=lh hxc;have HYE:=lh hye;have HEE:=lh he;have r1:=lh (fun (z:After wr)=>(HR.out.ext (HX.out.trans z.x)).ent hxc:∀ z:After wr,z.v.rangeAt g (c*4) (entV x));have r2:=lh (fun (z:After wr)=>(HR.out.ext (HX.out.trans z.x)).ent hye:∀ z:After wr,z.v.rangeAt g (e*4) (entV y));have HC:=lh (fun w1=>acmpE_any y x w1);unfold entA at HC;clear hxc hye hc he;by_cases hk:keyE y<keyE x
    ·rw [cmpI_lt hk] at HC;have HK:=lh hk;clear hk;go_upto_region 35 with (fail)
     refine wp_region_after (by kernel_rfl) (by kernel_rfl) ?_
     iterate 6 go_big_quiet_step (fail)
     refine wpQuiet_load_ag rfl _ _ rfl g (e*4) rfl (entV y).toArray _ (by rintro _ ⟨z,rfl⟩;exact r2.out z) underlying93 rfl (by kernel_rfl) ?_;go_frame
     iterate 3 go_big_quiet_step (fail)
     refine wpQuiet_load_ag rfl _ _ rfl g (c*4) rfl (entV x).toArray _ (by rintro _ ⟨z,rfl⟩;exact r1.out z) underlying93 rfl (by kernel_rfl) ?_;go_frame
     iterate 3 go_big_quiet_step (exact After.of (HC.out _))
     refine wpQuiet_nil ?_;rintro _ ⟨z,rfl⟩;have XZ:=lh (HX.out.trans z.x);clear r1 r2 HC;go_wp2;go_roundw
     case rel=>exact ⟨i,c,hi,hc1,by omega,rfl,rfl,HLo.out,fun t t1 t2 u v hu hv=>by
      by_cases et:t=c
      ·subst et;rw [HXC.out] at hu;rw [<-HEE.out,HYE.out] at hv
       cases hu
       cases hv
       exact HK.out
      ·have h1:=HS1.out c t (by omega) (by omega) (by omega) x u HXC.out hu;have h2:=HS2.out (p - t) e (by have:=HNN.out;have:=HPP.out;omega) (by have:=HEE.out;have:=HPP.out;omega) he2 v y hv HYE.out
       exact kl_lt_le (kl_le_lt h2 HK.out) h1,XZ.out⟩
     case measure=>simp [intOf] <;> omega
    ·have hge:=cmpI_ge hk;have HK:=lh hk;generalize cmpI (keyE y) (keyE x)=d at *;have gd:decide (d<0)=false:=decide_eq_false (by omega);clear hk;go_upto_region 35 with (fail)
     refine wp_region_after (by kernel_rfl) (by kernel_rfl) ?_
     iterate 6 go_big_quiet_step (fail)
     refine wpQuiet_load_ag rfl _ _ rfl g (e*4) rfl (entV y).toArray _ (by rintro _ ⟨z,rfl⟩;exact r2.out z) underlying93 rfl (by kernel_rfl) ?_;go_frame
     iterate 3 go_big_quiet_step (fail)
     refine wpQuiet_load_ag rfl _ _ rfl g (c*4) rfl (entV x).toArray _ (by rintro _ ⟨z,rfl⟩;exact r1.out z) underlying93 rfl (by kernel_rfl) ?_;go_frame
     iterate 3 go_big_quiet_step (exact After.of (HC.out _))
     refine wpQuiet_nil ?_;rintro _ ⟨z,rfl⟩;have XZ:=lh (HX.out.trans z.x);clear r1 r2 HC;go_wp2;go_roundw
     case rel=>exact ⟨c+1,r,by omega,by omega,hr,by go_num,rfl,fun t t1 t2 u v hu hv=>by
      by_cases et:t=c
      ·subst et;rw [HXC.out] at hu;rw [<-HEE.out,HYE.out] at hv
       cases hu
       cases hv
       exact HK.out
      ·have h1:=HS1.out t c (by omega) (by omega) (by omega) u x hu HXC.out;have h2:=HS2.out e (p - t) he1 (by have:=HEE.out;have:=HPP.out;omega) (by have:=HPP.out;omega) y v HYE.out hv
       exact kl_le (kl_le h1 HK.out) h2,HHi.out,XZ.out⟩
     case measure=>simp [intOf] <;> omega
   ·obtain rfl:i=r:=by omega
    obtain ⟨E,hE⟩:∃ E,E=N - i:=⟨_,rfl⟩;have q10:IntKind.i64.wrap ((N:Int) - (i:Int))=(E:Int):=by rw [IntWalk.i64_in _ (by omega)];omega
    have e1:i<=m:=by omega
    have e2:m<=E:=by have:=HNN.out;omega
    have e3:E<=b:=by omega
    have e4:i+(E - m)=md:=by have:=HNN.out;omega
    have e5:a<=i:=by omega
    have e6:i<=md:=by omega
    have e7:md<=E:=by have:=HNN.out;omega
    have ha':i=a\/i=s0\/s0<i:=by omega
    have HJ:=lh (fun l2 l3 (m2:Mg keyE (plF l (rotF i m E)) l2 a md) (m3:Mg keyE l2 l3 md b)=>Mg.join (key:=keyE) (l:=l) (a:=a) (s:=i) (m:=m) (e:=E) (b:=b) e5 e1 e2 e3 (by have:=HN.out;omega) HS1.out HS2.out (fun h1 h2 x y hx hy=>by
     have hlt:i<r0:=by
      rcases HE1.out with e | e
      ·by_cases q:i<r0
       ·exact q
       ·have:=HNN.out;omega
      ·omega
     refine HHi.out i (Nat.le_refl _) hlt x y hx ?_;rw [show p - i=E - 1 from by have:=HPP.out;omega];exact hy) (fun h1 h2=>by
     have hlt:s0<i:=by
      rcases HE0.out with e | e
      ·omega
      ·by_cases q:s0<i
       ·exact q
       ·omega
     have:=HLo.out (i - 1) (by omega) (by omega);rw [show p - (i - 1)=E from by have:=HPP.out;omega] at this
     exact this) (by rw [e4];exact m2) (by rw [e4];exact m3))
    have hrr:=rot_runs (key:=keyE) (l:=l) (a:=a) (s:=i) (m:=m) (e:=E) (b:=b) e5 e1 e2 e3 (by have:=HN.out;omega) HS1.out HS2.out;rw [e4] at hrr;have HRR:=lh hrr;have HLn:=lh ((plF_len (l:=l) fun t ht=>rotF_lt (a:=i) (m:=m) (b:=E) e1 e2 (by have:=HN.out;omega) ht).trans HN.out.symm);have HC1:=lh (fun (c1:i<m) (c2:m<E)=>HRot.out wr l i m E (HR.out.ext HX.out) HN.out (by have:=HN.out;omega) c1 c2 (by have:=HN.out;omega));have HNo:=lh (fun (c1:¬ (i<m/\m<E))=>rot_none (l:=l) (a:=i) (m:=m) (b:=E) (by omega) e1 e2);have HRx:=lh (HR.out.ext HX.out);have HT0:=lh (show Touch g w wr from Touch.of HX.out);clear hE hrr HR HX HLo HHi HS1 HS2 HE0 HE1 ha' HRot;generalize plF l (rotF i m E)=l1 at *;have hwr:RowE wr g l/\Touch g w wr:=⟨HRx.out,HT0.out⟩;obtain ⟨v0,hv0⟩:∃ v0,v0=wr:=⟨_,rfl⟩;rw [<-hv0] at HC1 HRx HT0 ⊢;clear hwr hv0;obtain ⟨tb,htb⟩:∃ tb:Bool,(tb=true↔i<m/\m<E):=⟨decide (i<m/\m<E),by simp⟩;have HTB:=lh htb;clear htb;go_upto_region 39 with (fail)
    go_cut [185] from 178 to 185 (fun sx wx=>sx=.bool tb/\wx=v0)
    case first =>
     by_cases c1:i<m
     ·by_cases c2:m<E
      ·have ht:tb=true:=HTB.out.2 ⟨c1,c2⟩;subst ht;go_wp2;go_meet
       case rel=>exact ⟨rfl,rfl⟩
      ·have ht:tb=false:=by
        cases tb with
        | false=>rfl
        | true=>exact absurd (HTB.out.1 rfl).2 c2
       subst ht;go_wp2;go_meet
       case rel=>exact ⟨rfl,rfl⟩
     ·have ht:tb=false:=by
       cases tb with
       | false=>rfl
       | true=>exact absurd (HTB.out.1 rfl).1 c1
      subst ht;go_wp2;go_meet
      case rel=>exact ⟨rfl,rfl⟩
    case rest =>
     obtain ⟨hs,hw⟩:=hcut;have hw':=hw.symm;subst hs;clear hw;subst hw';go_upto_if 185 with (fail)
     go_cut [] from 186 to 191 (fun wx=>Hid (RowE wx g l1/\Touch g w wx))
     case first =>
      cases tb with
      | true =>
       obtain ⟨c1,c2⟩:=HTB.out.1 rfl;have HC2:=lh (HC1.out c1 c2);go_wp2_with fail;refine HC2.out.mono ?_;rintro e w1 ⟨rfl,h1⟩;have H1:=lh h1.out;clear h1 HC1 HC2;go_wp2;go_meet
       case rel=>exact ⟨H1.out.1,HT0.out.trans H1.out.2⟩
      | false =>
       have hno:¬ (i<m/\m<E):=fun q=>by have:=HTB.out.2 q;cases this
       have e0:=HNo.out hno;go_wp2;go_meet
       case rel=>exact ⟨by rw [e0];exact HRx.out,HT0.out⟩
     case rest =>
      have HC3:=lh hcut.out;clear hcut HC1 HNo HRx HT0 HTB;obtain ⟨v1,rfl⟩:∃ x,x=wc:=⟨_,rfl⟩;obtain ⟨tb,htb⟩:∃ tb:Bool,(tb=true↔a<i/\i<md):=⟨decide (a<i/\i<md),by simp⟩;have HTB:=lh htb;clear htb;go_upto_region 41 with (fail)
      go_cut [199] from 192 to 199 (fun sx wx=>sx=.bool tb/\wx=v1)
      case first =>
       by_cases c1:a<i
       ·by_cases c2:i<md
        ·have ht:tb=true:=HTB.out.2 ⟨c1,c2⟩;subst ht;go_wp2;go_meet
         case rel=>exact ⟨rfl,rfl⟩
        ·have ht:tb=false:=by
          cases tb with
          | false=>rfl
          | true=>exact absurd (HTB.out.1 rfl).2 c2
         subst ht;go_wp2;go_meet
         case rel=>exact ⟨rfl,rfl⟩
       ·have ht:tb=false:=by
         cases tb with
         | false=>rfl
         | true=>exact absurd (HTB.out.1 rfl).1 c1
        subst ht;go_wp2;go_meet
        case rel=>exact ⟨rfl,rfl⟩
      case rest =>
       obtain ⟨hs,hw⟩:=hcut;have hw':=hw.symm;subst hs;clear hw;subst hw';go_upto_if 199 with (fail)
       go_cut [] from 200 to 205 (fun wx=>Hid (∃ l2,Mg keyE l1 l2 a md/\RowE wx g l2/\Touch g w wx))
       case first =>
        cases tb with
        | true =>
         obtain ⟨c1,c2⟩:=HTB.out.1 rfl;have HC2:=lh (HIH.out a i md v1 l1 c1 c2 (by omega) (by omega) HC3.out.1 HLn.out.symm HRR.out.1 HRR.out.2.1);go_wp2_with fail;refine HC2.out.mono ?_;rintro e w1 ⟨rfl,h1⟩;have H1:=lh h1.out;clear h1 HC2;go_wp2;go_meet
         case rel =>
          obtain ⟨l2,k1,k2,k3⟩:=H1.out;exact ⟨l2,k1,k2,HC3.out.2.trans k3⟩
        | false =>
         have hno:¬ (a<i/\i<md):=fun q=>by have:=HTB.out.2 q;cases this
         have H1:=lh (show SoOn keyE l1 a md from by
          by_cases q:a<i
          ·have hid:i=md:=by omega
           exact hid▸HRR.out.1
          ·have hia:i=a:=by omega
           have:=HRR.out.2.1
           rwa [hia] at this)
         go_wp2;go_meet
         case rel=>exact ⟨l1,Mg.refl H1.out,HC3.out.1,HC3.out.2⟩
       case rest =>
        obtain ⟨l2,k1,k2,k3⟩:=hcut.out;clear hcut HTB;have HM2:=lh k1;have HR2:=lh k2;have HT2:=lh k3;have r1:=lh (show SoOn keyE l2 md E from HRR.out.2.2.1.same fun t t1 t2=>k1.out t (.inr t1));have r2:=lh (show SoOn keyE l2 E b from HRR.out.2.2.2.same fun t t1 t2=>k1.out t (.inr (by omega)));have HL2:=lh (k1.len.trans HLn.out);clear k1 k2 k3 HC3 HRR HLn;obtain ⟨v2,rfl⟩:∃ x,x=wc:=⟨_,rfl⟩;by_cases c1:md<E
        ·by_cases c2:E<b
         ·have HC2:=lh (HIH.out md E b v2 l2 c1 c2 (by omega) hb HR2.out HL2.out.symm r1.out r2.out);go_wp2_with fail;refine HC2.out.mono ?_;rintro e w1 ⟨rfl,h1⟩;obtain ⟨l3,k1,k2,k3⟩:=h1.out;have H1:=lh (HJ.out l2 l3 HM2.out k1);have H2:=lh k2;have H3:=lh (HT2.out.trans k3);clear h1 HC2 k1 k2 k3;go_wp2;go_end0;exact ⟨rfl,l3,H1.out,H2.out,H3.out⟩
         ·have hid:E=b:=by omega
          have H1:=lh (HJ.out l2 l2 HM2.out (Mg.refl (hid▸r1.out)));go_wp2;go_end0;exact ⟨rfl,l2,H1.out,HR2.out,HT2.out⟩
        ·have hid:md=E:=by omega
         have H1:=lh (HJ.out l2 l2 HM2.out (Mg.refl (by have:=r2.out;rwa [<-hid] at this)));go_wp2;go_end0;exact ⟨rfl,l2,H1.out,HR2.out,HT2.out⟩
theorem asym_any {g cap n:Nat} (hcap:n<=cap) (hn1:n<=100000):∀ (d a m b:Nat) (w:World) (l:List Ent),b - a<=d->RowE w g l->n=l.length->a<m->m<b->b<=n->SoOn keyE l a m->SoOn keyE l m b ->
  Calls prog 228 #[.slice (some ⟨g,0,none⟩) n cap,.int .i64 a,.int .i64 m,.int .i64 b,.func (.func 96) #[] #[]] w fun e w'=>e=.returned (.tuple #[])/\Hid (∃ l',Mg keyE l l' a b/\RowE w' g l'/\Touch g w w')
 | 0,a,m,b,w,l,hd,_,_,h1,h2,_,_,_=>by omega
 | d+1,a,m,b,w,l,hd,hr,hn,h1,h2,h3,s1,s2=>by
  by_cases c1:a+1=m
  ·subst c1;exact asymF_any hr hn (by omega) hcap h2 (by omega) s2
  ·by_cases c2:m+1=b
   ·subst c2;exact asymL_any hr hn (by omega) hcap (by omega) (by omega) s1
   ·exact asymM_any hr hn (by omega) hcap (by omega) (by omega) (by omega) s1 s2 fun a' m' b' w1 l1 k1 k2 k3 k4 k5 k6 k7 k8=>asym_any hcap hn1 d a' m' b' w1 l1 (by omega) k5 k6 k1 k2 k4 k7 k8
end
section
open Go.RowKit
attribute [local go_sem] Oper.semAt_some
theorem dvd_gap {s p a:Nat} (h1:s∣p) (h2:s∣a) (h:p<a):p+s<=a:=by
 have:=Nat.le_of_dvd (by omega) (Nat.dvd_sub h2 h1);omega
section
variable {α:Type} {key:α->List UInt8}
def Runs (key:α->List UInt8) (l:List α) (s n:Nat):Prop:=∀ p,s∣p->SoOn key l p (min (p+s) n)
structure Half (key:α->List UInt8) (l:List α) (s d n a:Nat):Prop where
 lo:∀ p,p<a->d∣p->SoOn key l p (min (p+d) n)
 hi:∀ p,a<=p->s∣p->SoOn key l p (min (p+s) n)
theorem Runs.half {l:List α} {s n d:Nat} (h:Runs key l s n):Half key l s d n 0:=⟨fun _ hp=>absurd hp (Nat.not_lt_zero _),fun p _=>h p⟩
theorem Half.step {l l2:List α} {s d n a b:Nat} (h:Half key l s d n a) (hd:d=2*s) (ha:d∣a) (hb:b=a+d) (hbn:b<=n) (hm:Mg key l l2 a b):Half key l2 s d n b:=by
 refine ⟨fun p hp q=>?_,fun p hp q=>?_⟩
 ·by_cases hpa:p<a
  ·have:=dvd_gap q ha hpa;exact (h.lo p hpa q).same fun i _ h2=>hm.out i (.inl (by omega))
  ·by_cases e:p=a
   ·subst e;exact hm.so.sub (Nat.le_refl _) (by omega)
   ·have:=dvd_gap ha q (by omega);omega
 ·exact (h.hi p (by omega) q).same fun i h1 _=>hm.out i (.inr (by omega))
theorem Half.last {l l2:List α} {s d n a:Nat} (h:Half key l s d n a) (hd:d=2*s) (ha:d∣a) (hn:n<a+d) (hm:Mg key l l2 a n):Runs key l2 d n:=by
 intro p q;by_cases hpa:p<a
 ·have:=dvd_gap q ha hpa;exact (h.lo p hpa q).same fun i _ h2=>hm.out i (.inl (by omega))
 ·by_cases e:p=a
  ·subst e;exact hm.so.sub (Nat.le_refl _) (by omega)
  ·have:=dvd_gap ha q (by omega);exact SoOn.small (by omega)
theorem Half.none {l:List α} {s d n a:Nat} (h:Half key l s d n a) (hs:s∣a) (hn:n<=a+s):Mg key l l a n:=Mg.refl ((h.hi a (Nat.le_refl _) hs).sub (Nat.le_refl _) (by omega))
end
set_option maxRecDepth 100000 in
set_option maxHeartbeats 16000000 in
theorem astable_any {w:World} {g cap n:Nat} {l:List Ent} (h:RowE w g l) (hn:n=l.length) (hl:n<=100000) (hcap:n<=cap) :
  Calls prog 164 #[.slice (some ⟨g,0,none⟩) n cap,.int .i64 n,.func (.func 96) #[] #[]] w fun e w'=>e=.returned (.tuple #[])/\Hid (∃ l',l'.length=n/\Stab keyE l l'/\SoOn keyE l' 0 n/\RowE w' g l'/\Touch g w w'):=by
 have HR:=lh h;have HN:=lh hn;have HI:=lh (fun w1 (l1:List Ent) a b (h1:RowE w1 g l1) (h2:n=l1.length) (h3:a<=b) (h4:b<=n)=>ains_any (cap:=cap) h1 h2 (by omega) hcap h3 (by omega));have HY:=lh (fun w1 (l1:List Ent) a m b (h1:RowE w1 g l1) (h2:n=l1.length) (h3:a<m) (h4:m<b) (h5:b<=n) (h6:SoOn keyE l1 a m) (h7:SoOn keyE l1 m b)=>asym_any hcap hl (b - a) a m b w1 l1 (Nat.le_refl _) h1 h2 h3 h4 h5 h6 h7);clear h hn;go_enter func164,ntmps164;go_wp2_with fail;go_loopw [7,8] (fun av bv wr=>Hid (∃ (a:Nat) (l1:List Ent),20∣a/\a<=n/\av=.int .i64 a/\bv=.int .i64 ((a+20:Nat):Int)/\l1.length=n/\Stab keyE l l1/\(∀ p,p<a->20∣p->SoOn keyE l1 p (p+20))/\RowE wr g l1/\Touch g w wr)) (fun av _ _=>n - (intOf av).toNat)
 case atStart=>exact ⟨0,l,Nat.dvd_zero _,Nat.zero_le _,rfl,by go_num,HN.out.symm,Stab.refl l,fun p hp=>absurd hp (Nat.not_lt_zero _),HR.out,Touch.of (Ext.refl _)⟩
 case round =>
  obtain ⟨a,l1,hda,han,rfl,rfl,hlen,hst,hso,hr,hx⟩:=hrel.out;clear hrel HR HN;have HD:=lh hda;have HL:=lh hlen;have HSt:=lh hst;have HSo:=lh hso;have HT:=lh hx;have HR1:=lh hr;clear hda hlen hst hso hr hx;by_cases hle:a+20<=n
  ·have HC:=lh (HI.out wr l1 a (a+20) HR1.out HL.out.symm (by omega) hle);go_wp2_with fail;refine HC.out.mono ?_;rintro e w1 ⟨rfl,h1⟩;obtain ⟨l2,hm,hr2,hx2⟩:=h1.out;have HM:=lh hm;have HR2:=lh hr2;have HT2:=lh (HT.out.trans hx2);clear h1 HC hm hr2 hx2 HR1 HT;go_wp2;go_roundw
   case rel =>
    refine ⟨a+20,l2,by have:=HD.out;omega,hle,by go_num,by go_num,HM.out.len.trans HL.out,HSt.out.trans HM.out.st,fun p hp hd=>?_,HR2.out,HT2.out⟩;by_cases hpa:p<a
    ·exact (HSo.out p hpa hd).same fun i _ h2=>HM.out.out i (.inl (by have:=HD.out;omega))
    ·obtain rfl:p=a:=by have:=HD.out;omega
     exact HM.out.so
   case measure=>simp [intOf] <;> omega
  ·have HC:=lh (HI.out wr l1 a n HR1.out HL.out.symm han (Nat.le_refl _));go_wp2_with fail;refine HC.out.mono ?_;rintro e w1 ⟨rfl,h1⟩;obtain ⟨l2,hm,hr2,hx2⟩:=h1.out
   have hru:Runs keyE l2 20 n:=fun p hd=>by
    by_cases hpa:p<a
    ·exact ((HSo.out p hpa hd).same fun i _ h2=>hm.out i (.inl (by have:=HD.out;omega))).sub (Nat.le_refl _) (by omega)
    ·exact hm.so.sub (by omega) (by omega)
   have HRu:=lh hru;have HR2:=lh hr2;have HT2:=lh (HT.out.trans hx2);have HSt2:=lh (HSt.out.trans hm.st);have HL2:=lh (hm.len.trans HL.out);clear h1 HC hm hr2 hx2 HR1 HT HSo HD HSt HL hru;obtain ⟨wo,rfl⟩:∃ x,x=w1:=⟨_,rfl⟩;go_wp2_with fail;go_loopw [6] (fun sv wr=>Hid (∃ (s:Nat) (l1:List Ent),20<=s/\s<=200000/\sv=.int .i64 s/\l1.length=n/\Stab keyE l l1/\Runs keyE l1 s n/\RowE wr g l1/\Touch g w wr)) (fun sv _=>n - (intOf sv).toNat)
   case atStart=>exact ⟨20,l2,Nat.le_refl _,by decide,rfl,HL2.out,HSt2.out,HRu.out,HR2.out,HT2.out⟩
   case round =>
    obtain ⟨s,l1,hs1,hs2,rfl,hlen,hst,hru,hr,hx⟩:=hrel.out;clear hrel HR2 HT2 HL2 HSt2 HRu;have HL:=lh hlen;have HSt:=lh hst;have HRu:=lh hru;have HR1:=lh hr;have HT:=lh hx;clear hlen hst hru hr hx;by_cases hsn:s<n
    ·obtain ⟨d,hd⟩:∃ d,d=2*s:=⟨_,rfl⟩;have q1:IntKind.i64.wrap (2*(s:Int))=(d:Int):=by rw [IntWalk.i64_in _ (by omega)];omega
     have q2:IntKind.i64.wrap ((s:Int)*2)=(d:Int):=by rw [IntWalk.i64_in _ (by omega)];omega
     have HDD:=lh hd;have hsd:s<d:=by omega
     have hd2:d<=200000:=by omega
     have HHf:=lh (HRu.out.half (d:=d));clear hd HRu;obtain ⟨wi,rfl⟩:∃ x,x=wr:=⟨_,rfl⟩;go_wp2_with fail;go_loopw [7,8] (fun av bv wr=>Hid (∃ (a:Nat) (l1:List Ent),d∣a/\a<=n/\av=.int .i64 a/\bv=.int .i64 ((a+d:Nat):Int)/\l1.length=n/\Stab keyE l l1/\Half keyE l1 s d n a/\RowE wr g l1/\Touch g w wr)) (fun av _ _=>n - (intOf av).toNat)
     case atStart=>exact ⟨0,l1,Nat.dvd_zero _,Nat.zero_le _,rfl,by go_num,HL.out,HSt.out,HHf.out,HR1.out,HT.out⟩
     case round =>
      obtain ⟨a,l3,hda,han,rfl,rfl,hlen,hst,hhf,hr,hx⟩:=hrel.out;clear hrel HL HSt HHf HR1 HT;have HD:=lh hda;have HL:=lh hlen;have HSt:=lh hst;have HHf:=lh hhf;have HR1:=lh hr;have HT:=lh hx;have hsa:s∣a:=Nat.dvd_trans (by rw [HDD.out];exact Nat.dvd_mul_left s 2) hda;have HSA:=lh hsa;obtain ⟨m,hm⟩:∃ m,m=a+s:=⟨_,rfl⟩;have q3:IntKind.i64.wrap ((a:Int)+(s:Int))=(m:Int):=by rw [IntWalk.i64_in _ (by omega)];omega
      have HMM:=lh hm;have ham:a<m:=by omega
      clear hda hlen hst hhf hr hx hsa;by_cases hle:a+d<=n
      ·have HC:=lh (HY.out wr l3 a m (a+d) HR1.out HL.out.symm ham (by omega) hle ((HHf.out.hi a (Nat.le_refl _) HSA.out).sub (Nat.le_refl _) (by omega)) ((HHf.out.hi m (by omega) (by rw [hm];exact Nat.dvd_add HSA.out (Nat.dvd_refl s))).sub (Nat.le_refl _) (by have:=HDD.out;omega)));clear hm;go_wp2_with fail;refine HC.out.mono ?_;rintro e w5 ⟨rfl,h5⟩;obtain ⟨l4,hm4,hr4,hx4⟩:=h5.out;have HM:=lh hm4;have HR2:=lh hr4;have HT2:=lh (HT.out.trans hx4);clear h5 HC hm4 hr4 hx4 HR1 HT;go_wp2;go_roundw
       case rel=>exact ⟨a+d,l4,Nat.dvd_add HD.out (Nat.dvd_refl d),hle,by go_num,by go_num,HM.out.len.trans HL.out,HSt.out.trans HM.out.st,HHf.out.step HDD.out HD.out rfl hle HM.out,HR2.out,HT2.out⟩
       case measure=>simp [intOf] <;> omega
      ·by_cases hmn:m<n
       ·have HC:=lh (HY.out wr l3 a m n HR1.out HL.out.symm ham hmn (Nat.le_refl _) ((HHf.out.hi a (Nat.le_refl _) HSA.out).sub (Nat.le_refl _) (by omega)) ((HHf.out.hi m (by omega) (by rw [hm];exact Nat.dvd_add HSA.out (Nat.dvd_refl s))).sub (Nat.le_refl _) (by have:=HDD.out;omega)));clear hm;go_wp2_with fail;refine HC.out.mono ?_;rintro e w5 ⟨rfl,h5⟩;obtain ⟨l4,hm4,hr4,hx4⟩:=h5.out;have HRn:=lh (HHf.out.last HDD.out HD.out (by omega) hm4);have HL4:=lh (hm4.len.trans HL.out);have HS4:=lh (HSt.out.trans hm4.st);have HR2:=lh hr4;have HT2:=lh (HT.out.trans hx4);clear h5 HC hm4 hr4 hx4 HR1 HT HL HSt HHf;go_wp2;go_roundw
        case rel=>exact ⟨d,l4,by omega,hd2,rfl,HL4.out,HS4.out,HRn.out,HR2.out,HT2.out⟩
        case measure=>simp [intOf] <;> omega
       ·have HRn:=lh (HHf.out.last HDD.out HD.out (by omega) (HHf.out.none HSA.out (by omega)));clear hm HHf;go_wp2;go_roundw
        case rel=>exact ⟨d,l3,by omega,hd2,rfl,HL.out,HSt.out,HRn.out,HR1.out,HT.out⟩
        case measure=>simp [intOf] <;> omega
    ·have HSo:=lh (show SoOn keyE l1 0 n from (HRu.out 0 (Nat.dvd_zero _)).sub (Nat.le_refl _) (by omega));clear HRu;go_wp2;go_end0;exact ⟨rfl,l1,HL.out,HSt.out,HSo.out,HR1.out,HT.out⟩
theorem asort_any {w:World} {g cap n:Nat} {l:List Ent} (h:RowE w g l) (hn:n=l.length) (hl:n<=100000) (hcap:n<=cap) :
  Calls prog 95 #[.slice (some ⟨g,0,none⟩) n cap,.func (.func 96) #[] #[]] w fun e w'=>e=.returned (.tuple #[])/\Hid (∃ l',l'.length=n/\Stab keyE l l'/\SoOn keyE l' 0 n/\RowE w' g l'/\Touch g w w'):=by
 have HC:=lh (astable_any h hn hl hcap);clear h hn;go_enter func95,ntmps95;go_wp2_with fail;refine HC.out.mono ?_;rintro e w1 ⟨rfl,h1⟩;have H1:=lh h1.out;clear h1 HC;go_wp2;go_end0;exact ⟨rfl,H1.out⟩
end
section
open Go.RowKit Go.Shelf
set_option maxRecDepth 100000 in
set_option maxHeartbeats 4000000 in
theorem agoes_no (w:World) (a:Option Addr) (n c:Nat) (p:Pol) (hp:okP p=false) (now:Int) :
  Calls prog 41 #[polV p,.slice a n c,.int .i64 now] w fun e w'=>e=.returned (.slice none 0 0)/\Ext w w':=by
 have HC:=lh (fun w1=>acheck_any p w1);rw [hp] at HC;have X0:=lh ((Ext.refl w).alloc (.cells #[.int .i64 p.kind,.int .i64 p.keep,.int .i64 p.age] 89 (0,0)));unfold polV;unfold polV at HC;clear hp;go_enter func41,ntmps41;go_wp2_with fail;refine (HC.out _).mono ?_;rintro e w1 ⟨rfl,x1⟩;have X1:=lh (X0.out.trans x1);go_wp2;go_ret;exact ⟨rfl,X1.out⟩
end
section
open Go.RowKit Go.Shelf
set_option maxHeartbeats 1000000 in
theorem aclone_row {w:World} {v:Value} {l:List Ent} (h:EntsSl w v l) (hl:l.length<=100000) :
  Calls prog 94 #[v] w fun e w'=>∃ u,e=.returned u/\Hid (∃ g cap,u=.slice (some ⟨g,0,none⟩) l.length cap/\w.heap.size<=g/\l.length<=cap/\cap<=9223372036854775807/\RowE w' g l/\Ext w w'):=by
 have HB:=lh h;obtain ⟨g,o,cap,rfl,h1,h2,_⟩:=h;obtain ⟨i,hi,hz,hs,hb⟩:=info_parts elEnt.info;have HL:=lh (entsV_len l);have q90:∀ (w:World) (a:Option Addr) (n c n' c':Nat),(binOp .eql 90 (.slice a n c) (.slice none n' c')).run prog w=.ok (.bool a.isNone) w:=fun w a n c n' c'=>Lib.run_eql_slice_nil w _ _ a n c n' c' elEnt.ut;go_enter func94,ntmps94;go_wp2_with (at_builtin;refine wpList_append_own _ rfl _ _ 90 rfl w.heap.size 93 i _ 4 48 elEnt.ut hi hz hs hb rfl (by decide) _ _ _ rfl (World.ownsRow_made w #[] 0 (Nat.le_refl _) (Nat.zero_le _) (by simp)) ⟨g,o,none⟩ l.length cap (entsV l) rfl ?qc1 ?qc2 ?qc3 ?qc4 ?qc5 ?qc6 ?_)
 case qc1=>exact HL.out
 case qc2 =>
  intro j u hj;obtain ⟨_,_,_,e,_,_,h3⟩:=HB.out
  cases e
  rw [show (⟨g,o,none⟩:Addr).add j=⟨g,o+j,none⟩ from by unfold Addr.add;split <;> simp_all];exact Lib.cell?_alloc_some _ (h3 j u hj)
 case qc3=>exact entsV_one
 case qc4=>rw [Nat.zero_add];unfold maxLen;omega
 case qc5=>rw [Nat.zero_add];omega
 case qc6=>simp
 intro v' w1 hown hgrow hnil;have X1:=lh (show Ext w w1 from ((Below.refl _ w).alloc (Nat.le_refl _) _).grown hgrow (by simp) (by intro k hk;simp [Value.ownBlock] at hk;omega))
 have K1:=lh (show ∃ g cap,v'=.slice (some ⟨g,0,none⟩) l.length cap/\w.heap.size<=g/\l.length<=cap/\cap<=9223372036854775807/\RowE w1 g l from by
  rcases hown.2 with ⟨rfl,_⟩ | ⟨g,cap,cur,rfl,hb,hh,k1,k2,k3,k4⟩
  ·exact absurd rfl hnil
  ·refine ⟨g,cap,rfl,hb,k1,k2,ltB hh,fun j x hx=>?_,fun j hj=>⟨?_,frozenB hh⟩⟩
   ·rw [Nat.zero_add];refine (cellB hh).trans ?_;have hk4:cur.toList.take (l.length*4)=entsV l:=by simpa using k4
    rw [<-hk4,List.getElem?_take] at hx;split at hx
    ·rw [<-Array.getElem?_toList];exact hx
    ·cases hx
   ·rw [Nat.zero_add,cellB hh,Array.getElem?_eq_getElem (by omega)]
    rfl)
 clear hown hgrow hnil;go_wp2;go_ret;obtain ⟨g1,cap1,e1,e2,e3,e4,e5⟩:=K1.out;exact ⟨v',rfl,g1,cap1,e1,e2,e3,e4,e5,X1.out⟩
theorem RowE.sl {w:World} {g cap:Nat} {l:List Ent} (h:RowE w g l) (h1:l.length<=cap) (h2:cap<=9223372036854775807):EntsSl w (.slice (some ⟨g,0,none⟩) l.length cap) l:=⟨g,0,cap,rfl,h1,h2,h.at'⟩
theorem rise_so {l:List Ent} (h:Rise l):SoOn keyE l 0 l.length:=fun i j _ h2 h3 x y hx hy=>by
 obtain ⟨i1,rfl⟩:=List.getElem?_eq_some_iff.1 hx;obtain ⟨j1,rfl⟩:=List.getElem?_eq_some_iff.1 hy;have:=(List.pairwise_iff_getElem.1 h i j i1 j1 h2).1;rw [bytesLess_eq] at this;exact of_decide_eq_false this
theorem ord_rise {w:World} {v:Value} {l:List Ent} (h:EntsSl w v l) (hr:Rise l) (hl:l.length<=100000):OrdAt w v l:=fun w1 x1=>by
 refine (aclone_row (h.ext x1) hl).mono ?_;rintro e w2 ⟨u,rfl,hu⟩;obtain ⟨g,cap,rfl,hg,hc1,hc2,hrow,x2⟩:=hu.out;refine ⟨_,rfl,x2,(asort_any hrow rfl hl hc1).mono ?_⟩;rintro e w3 ⟨rfl,h3⟩;obtain ⟨l',k1,k2,k3,k4,k5⟩:=h3.out;obtain rfl:l=l':=stab_one (key:=keyE) l l' k2 (rise_so hr) (by rw [k1];exact k3);have x3:Ext w1 w3:=k5.fresh x2 hg;refine ⟨rfl,x3,(acompact_any (k4.sl hc1 hc2) hr hl).mono ?_⟩;rintro e w4 ⟨rfl,x4⟩;exact ⟨_,rfl,((k4.sl hc1 hc2).ext x4).gen,x3.trans x4⟩
theorem aclone_nil (w:World):Calls prog 94 #[.slice none 0 0] w fun e w'=>e=.returned (.slice none 0 0)/\Ext w w':=by
 have q90:∀ (w:World) (a:Option Addr) (n c n' c':Nat),(binOp .eql 90 (.slice a n c) (.slice none n' c')).run prog w=.ok (.bool a.isNone) w:=fun w a n c n' c'=>Lib.run_eql_slice_nil w _ _ a n c n' c' elEnt.ut;go_enter func94,ntmps94;go_wp2;go_ret;exact ⟨rfl,Ext.refl w⟩
theorem ains_nil (w:World):Calls prog 227 #[.slice none 0 0,.int .i64 0,.int .i64 0,.func (.func 96) #[] #[]] w fun e w'=>e=.returned (.tuple #[])/\w=w':=by
 go_enter func227,ntmps227;go_wp2;refine wp_loop_rounds 1 ?_;rw [rounds_succ];go_wp2;go_end0;exact ⟨rfl,rfl⟩
theorem asort_nil (w:World):Calls prog 95 #[.slice none 0 0,.func (.func 96) #[] #[]] w fun e w'=>e=.returned (.tuple #[])/\w=w':=by
 have H:Calls prog 164 #[.slice none 0 0,.int .i64 0,.func (.func 96) #[] #[]] w fun e w'=>e=.returned (.tuple #[])/\w=w':=by
  have HI:=lh (fun w1=>ains_nil w1);go_enter func164,ntmps164;go_wp2;refine wp_loop_rounds 1 ?_;rw [rounds_succ];go_wp2_with fail;refine (HI.out _).mono ?_;rintro e w1 ⟨rfl,rfl⟩;go_wp2;refine wp_loop_rounds 1 ?_;rw [rounds_succ];go_wp2;go_end0;exact ⟨rfl,rfl⟩
 have HH:=lh H;clear H;go_enter func95,ntmps95;go_wp2_with fail;refine HH.out.mono ?_;rintro e w1 ⟨rfl,rfl⟩;go_wp2;go_end0;exact ⟨rfl,rfl⟩
theorem acompact_nil (w:World):Calls prog 98 #[.slice none 0 0,.func (.func 99) #[] #[]] w fun e w'=>e=.returned (.slice none 0 0)/\w=w':=by
 go_enter func98,ntmps98;go_wp2;go_ret;exact ⟨rfl,rfl⟩
theorem ord_nil (w:World):OrdAt w (.slice none 0 0) []:=fun w1 _=>by
 refine (aclone_nil w1).mono ?_;rintro e w2 ⟨rfl,x2⟩;refine ⟨_,rfl,x2,(asort_nil w2).mono ?_⟩;rintro e w3 ⟨rfl,rfl⟩;refine ⟨rfl,x2,(acompact_nil w2).mono ?_⟩;rintro e w4 ⟨rfl,rfl⟩;exact ⟨_,rfl,⟨none,0,rfl,Nat.le_refl _,by decide,fun k x h=>by simp at h⟩,x2⟩
def outY (p:Pol) (now:Int) (l:List Ent):List ByteArray:=if okP p=true then (goneYL p now [] l).map (·.name) else []
theorem rise_data {l:List Ent} (h:Rise l):l.Pairwise fun x y=>¬ y.name.data.toList<x.name.data.toList:=h.imp fun {x y} k=>by
 have:=k.1;rw [bytesLess_eq,Lib.toList_data,Lib.toList_data] at this;exact of_decide_eq_false this
theorem rise_names {l:List Ent} (h:Rise l):l.Pairwise fun x y=>x.name≠y.name:=h.imp fun {x y} k e=>by
 have:=k.2;rw [e] at this;simp at this
theorem outY_len (p:Pol) (now:Int) (l:List Ent):(outY p now l).length<=l.length:=by
 unfold outY;split
 ·rw [List.length_map];exact (gone_sub p now l []).1.length_le
 ·exact Nat.zero_le _
theorem outY_rest {p:Pol} {now:Int} {l:List Ent} (h:Rise l):(l.filter fun x=>!inN x.name (outY p now l)).length+(outY p now l).length=l.length/\outY p now (l.filter fun x=>!inN x.name (outY p now l))=[] /\
  ∀ i x,l[i]?=some x->inN x.name (outY p now l)=true->okP p=true/\goneY p now (l.take i) x (l.drop (i+1))=true:=by
 obtain ⟨h1,h2⟩:=gone_at p now l [] (rise_names h) (fun y hy=>by cases hy);obtain ⟨_,_,h3⟩:=gone_sub p now l [];unfold outY;by_cases hp:okP p=true
 ·rw [if_pos hp,if_pos hp,<-h1];refine ⟨by rw [List.length_map];omega,by rw [gone_again p now l [] [] fun y hy=>hy];rfl,fun i x hi hin=>⟨hp,?_⟩⟩;have:=h2 i x hi hin
  simpa using this
 ·rw [if_neg hp,if_neg hp];refine ⟨?_,rfl,fun i x _ hin=>by cases hin⟩;have hf:(l.filter fun x=>!inN x.name [])=l:=List.filter_eq_self.2 fun x _=>rfl;rw [hf];rfl
theorem Rise.filter {l:List Ent} (h:Rise l) (f:Ent->Bool):Rise (l.filter f):=h.sublist List.filter_sublist
theorem agoesR {w:World} {v:Value} {l:List Ent} (h:(v=.slice none 0 0/\l=[])\/EntsSl w v l) (hr:Rise l) (hl:l.length<=1000) (hpz:∀ x∈l,x.path.size<=100000) (p:Pol) (now:Int) :
  Calls prog 41 #[polV p,v,.int .i64 now] w fun e w'=>∃ u,e=.returned u/\Hid (CellsAt w' u ((outY p now l).map Value.string)/\Ext w w'):=by
 by_cases hp:okP p=true
 ·have ho:OrdAt w v l:=by
   rcases h with ⟨rfl,rfl⟩ | h
   ·exact ord_nil w
   ·exact ord_rise h hr (by omega)
  obtain ⟨K,hK,hm⟩:=paths_of l;have hg:=goesS_is (p:=p) (now:=now) hK hm (rise_data hr);refine (agoes_core ho hl hpz p hp now K hK hm).mono ?_;rintro e w' ⟨u,rfl,hu⟩;obtain ⟨h1,h2⟩:=hu.out;refine ⟨u,rfl,?_,h2⟩;unfold outY;rw [if_pos hp,<-hg];refine CellsAt.of_owns (base:=w.heap.size) (e:=9) ?_;rw [List.length_map];exact h1
 ·obtain ⟨a,n,c,rfl⟩:∃ a n c,v=.slice a n c:=by
   rcases h with ⟨rfl,_⟩ | ⟨g,o,c,rfl,_⟩
   ·exact ⟨_,_,_,rfl⟩
   ·exact ⟨_,_,_,rfl⟩
  refine (agoes_no w a n c p (by simpa using hp) now).mono ?_;rintro e w' ⟨rfl,x⟩;refine ⟨_,rfl,.inl ⟨rfl,?_⟩,x⟩;unfold outY;rw [if_neg hp];rfl
end
section
open Go.RowKit
theorem ago19 (now t:Int) (w:World):Calls prog 45 #[.int .i64 now,.int .i64 t] w fun e w'=>e=.returned (.int .i64 (ageI t now))/\w=w':=by
 obtain ⟨a0,a1⟩:=nearI_bd t;obtain ⟨b0,b1⟩:=nearI_bd now;unfold ageI;have hw:IntKind.i64.wrap (nearI now - nearI t)=nearI now - nearI t:=IntWalk.i64_in _ (by omega);unfold nearI at *;go_enter func45,ntmps45;go_wp2;go_ret;exact ⟨rfl,rfl⟩
set_option maxRecDepth 100000 in
set_option maxHeartbeats 2000000 in
theorem bucket19 (a:Int) (w:World) (h0:0<=a) (h1:a<=4294967295):Calls prog 46 #[.int .i64 a] w fun e w'=>e=.returned (.agg (bktC a))/\Ext w w':=by
 have HB:=lh (show bktC a=#[.int .i64 (bktI a).1,.int .i64 (bktI a).2] from rfl);have HK:=lh (show bktI a=if a<100 then (0,a / 10) else if a<1000 then (1,a / 100) else if a<10000 then (2,a / 1000) else (3,a / 10000) from rfl);have HN:=lh (block_alloc_new w (.cells #[.int .i64 0,.int .i64 0] 105 (0,0)));have X0:=lh ((Ext.refl w).alloc (.cells #[.int .i64 0,.int .i64 0] 105 (0,0)));have HI:=lh (show (prog.info? 105).map (·.size)=some 2 from by kernel_rfl);have HO:=lh (fun x y:Int=>(by simp [Value.oneCell']:(#[.int .i64 x,.int .i64 y]:Array Value).all (·.oneCell')=true));generalize bktC a=C at *;generalize bktI a=K at *;by_cases a1:a<100
 ·have HC:=lh (show C=#[.int .i64 0,.int .i64 (a / 10)] from by rw [HB.out,HK.out,if_pos a1]);clear HB HK;go_enter func46,ntmps46;go_wp2_with (refine wpList_storeT rfl _ _ _ rfl w.heap.size #[.int .i64 0,.int .i64 (a / 10)] rfl rfl 105 _ HN.out HI.out rfl (HO.out _ _) ?_;intro W6 hb6 ht6;have HB6:=lh hb6;have HT6:=lh ht6;clear hb6 ht6;go_frame);exact bodyPost_ret (results_cell_row rfl _ _ w.heap.size 105 _ (0,0) _ rfl HB6.out underlying105 rfl HI.out) rfl ⟨by rw [HC.out],HT6.out.fresh X0.out (Nat.le_refl _)⟩
 ·by_cases a2:a<1000
  ·have HC:=lh (show C=#[.int .i64 1,.int .i64 (a / 100)] from by rw [HB.out,HK.out,if_neg a1,if_pos a2]);clear HB HK;go_enter func46,ntmps46;go_wp2_with (refine wpList_storeT rfl _ _ _ rfl w.heap.size #[.int .i64 1,.int .i64 (a / 100)] rfl rfl 105 _ HN.out HI.out rfl (HO.out _ _) ?_;intro W6 hb6 ht6;have HB6:=lh hb6;have HT6:=lh ht6;clear hb6 ht6;go_frame);exact bodyPost_ret (results_cell_row rfl _ _ w.heap.size 105 _ (0,0) _ rfl HB6.out underlying105 rfl HI.out) rfl ⟨by rw [HC.out],HT6.out.fresh X0.out (Nat.le_refl _)⟩
  ·by_cases a3:a<10000
   ·have HC:=lh (show C=#[.int .i64 2,.int .i64 (a / 1000)] from by rw [HB.out,HK.out,if_neg a1,if_neg a2,if_pos a3]);clear HB HK;go_enter func46,ntmps46;go_wp2_with (refine wpList_storeT rfl _ _ _ rfl w.heap.size #[.int .i64 2,.int .i64 (a / 1000)] rfl rfl 105 _ HN.out HI.out rfl (HO.out _ _) ?_;intro W6 hb6 ht6;have HB6:=lh hb6;have HT6:=lh ht6;clear hb6 ht6;go_frame);exact bodyPost_ret (results_cell_row rfl _ _ w.heap.size 105 _ (0,0) _ rfl HB6.out underlying105 rfl HI.out) rfl ⟨by rw [HC.out],HT6.out.fresh X0.out (Nat.le_refl _)⟩
   ·have HC:=lh (show C=#[.int .i64 3,.int .i64 (a / 10000)] from by rw [HB.out,HK.out,if_neg a1,if_neg a2,if_neg a3]);clear HB HK;go_enter func46,ntmps46;go_wp2_with (refine wpList_storeT rfl _ _ _ rfl w.heap.size #[.int .i64 3,.int .i64 (a / 10000)] rfl rfl 105 _ HN.out HI.out rfl (HO.out _ _) ?_;intro W6 hb6 ht6;have HB6:=lh hb6;have HT6:=lh ht6;clear hb6 ht6;go_frame);exact bodyPost_ret (results_cell_row rfl _ _ w.heap.size 105 _ (0,0) _ rfl HB6.out underlying105 rfl HI.out) rfl ⟨by rw [HC.out],HT6.out.fresh X0.out (Nat.le_refl _)⟩
theorem ba_beq (a b:ByteArray):(a.toList==b.toList)=decide (a=b):=by
 by_cases h:a=b
 ·subst h;simp
 ·rw [decide_eq_false h,beq_eq_false_iff_ne];exact fun e=>h (ba_ext e)
set_option maxRecDepth 100000 in
set_option maxHeartbeats 2000000 in
theorem gone19 {w:World} {v:Value} {l:List ByteArray} (h:CellsAt w v (l.map Value.string)) (hl:l.length<=100000) (s:ByteArray) :
  Calls prog 44 #[v,.string s] w fun e w'=>e=.returned (.bool (inN s l))/\w=w':=by
 have HI:=lh (show inN s l=l.any fun t=>decide (t=s) from rfl);obtain ⟨n,hn⟩:∃ n,n=l.length:=⟨_,rfl⟩
 obtain ⟨ad,cap,rfl,hc1,hc2,hat⟩:∃ (ad:Option Addr) (cap:Nat),v=.slice ad n cap/\n<=cap/\cap<=9223372036854775807/\∀ (k:Nat) x,l[k]?=some x->∃ g,ad=some ⟨g,0,none⟩/\w.cell? ⟨g,k,none⟩=some (.string x):=by
  rcases h with ⟨rfl,h0⟩ | ⟨g,cap,rfl,_,h3,h4,h5⟩
  ·have:l=[]:=by simpa using h0
   subst this;exact ⟨none,0,by rw [hn];rfl,by rw [hn];exact Nat.le_refl _,by decide,fun k x hx=>by simp at hx⟩
  ·rw [List.length_map] at h3;refine ⟨some ⟨g,0,none⟩,cap,by rw [hn,List.length_map],by omega,h4,fun k x hx=>⟨g,rfl,h5 k _ (by rw [List.getElem?_map,hx];rfl)⟩⟩
 have HAT:=lh hat;have HN:=lh hn;rw [<-hn] at hl;clear h hat hn;generalize inN s l=R at *;go_enter func44,ntmps44;go_wp2;go_loopw [5] (fun iv wr=>Hid (∃ i:Nat,i<=n/\iv=.int .i64 i/\wr=w/\∀ t,t<i->∀ x,l[t]?=some x->x≠s)) (fun iv _=>n - (intOf iv).toNat)
 case atStart=>exact ⟨0,Nat.zero_le _,rfl,rfl,fun t ht=>absurd ht (Nat.not_lt_zero _)⟩
 case round =>
  obtain ⟨i,hi,rfl,rfl,hno⟩:=hrel.out;clear hrel;have HNo:=lh hno;clear hno;by_cases hlt:i<n
  ·obtain ⟨x,hx⟩:∃ x,l[i]?=some x:=⟨_,List.getElem?_eq_getElem (by have:=HN.out;omega)⟩;obtain ⟨g,rfl,hcell⟩:=HAT.out i x hx;have HX:=lh hx;have hb:=ba_beq x s;by_cases he:x=s
   ·rw [decide_eq_true he] at hb;have HR:=lh (show R=true from by rw [HI.out,List.any_eq_true];exact ⟨x,List.mem_of_getElem? hx,decide_eq_true he⟩);clear hx he;go_wp2;go_ret;exact ⟨by rw [HR.out];rfl,rfl⟩
   ·rw [decide_eq_false he] at hb;have HE:=lh he;clear hx he;go_wp2;go_roundw
    case rel=>exact ⟨i+1,by omega,by go_num,trivial,fun t ht y hy=>by
     by_cases e:t=i
     ·subst e;rw [HX.out] at hy
      cases hy
      exact HE.out
     ·exact HNo.out t (by omega) y hy⟩
    case measure=>simp [intOf] <;> omega
  ·obtain rfl:i=n:=by omega
   have HR:=lh (show R=false from by
    rw [HI.out,List.any_eq_false];intro x hx;obtain ⟨t,ht⟩:=List.getElem?_of_mem hx;have:=(List.getElem?_eq_some_iff.1 ht).1;have:=HNo.out t (by have:=HN.out;omega) x ht
    simpa using this)
   go_wp2;go_ret;exact ⟨by rw [HR.out];rfl,rfl⟩
end
section
open Go.RowKit
attribute [local go_sem] Oper.semAt_some
section
variable {P:Program} {ops:Array Oper} {Q:Exit->Act->World->Prop} {md:Region.Mode} {S:World->Prop} {a:Act}
theorem wpAnyH_ops2 {i j:Nat} {oi oj:Oper} {ri rj:List Oper} {vi vj:Value} {fuel:Nat} {listed:Array Bool} {w wi wj:World} (hr:Region.ready md ops listed=[i,j]) (hi:ops.toList.drop i=oi::ri) (hj:ops.toList.drop j=oj::rj) (gi:oi.guard=none) (gj:oj.guard=none)
  (hri:(execOp a.eval oi).run P w=.ok (.value vi) wi) (hrj:(execOp a.eval oj).run P w=.ok (.value vj) wj) (hSi:S wi) (hSj:S wj)
  (h1:wpAnyH P md ops Q S fuel (listed.setIfInBounds i true) (a.put oi.dst vi) wi) (h2:wpAnyH P md ops Q S fuel (listed.setIfInBounds j true) (a.put oj.dst vj) wj):wpAnyH P md ops Q S (fuel+1) listed a w :=
 wpAnyH_all hr (by simp) fun k hk=>by
  rcases List.mem_cons.1 hk with rfl | hk
  ·unfold wpOp;simp only [ops_get hi];rw [if_pos (by simp only [Region.wanted,gi])];left;unfold Oper.wp;rw [hri];exact ⟨hSi,h1⟩
  ·obtain rfl:=List.mem_singleton.1 hk;unfold wpOp;simp only [ops_get hj];rw [if_pos (by simp only [Region.wanted,gj])];left;unfold Oper.wp;rw [hrj];exact ⟨hSj,h2⟩
theorem wpAnyH_append {i:Nat} {o:Oper} {fuel:Nat} {listed:Array Bool} {w:World} {rest:List Oper} (hr:Region.ready md ops listed=[i]) (hi:ops.toList.drop i=o::rest) (hgd:o.guard=none)
  {t e:TypeId} {z:Value} {k bytes:Nat} (el:ElemK P t e z k bytes)
  (base:Nat) (v:Value) (m:Nat) (xs:List Value) (hown:w.ownsRow base e k v m xs) (g:Nat) (us:List Value) (hus:us.length=k) (s x:Operand)
  (ho:o.op=.call { callee:=.builtin .append,args:=#[s,x],argTypes:=#[t,t] })
  (hs:a.eval s=v) (hx:a.eval x=.slice (some ⟨g,0,none⟩) 1 1) (hnew:∀ (j:Nat) u,us[j]?=some u->w.cell? ⟨g,j,none⟩=some u) (h1:∀ u∈us,u.oneCell'=true) (hn:m<=68719476736) (hbase:base<=w.heap.size)
  (h:∀ v' w',w'.ownsRow base e k v' (m+1) (xs++us)->w.grownBy w' v.ownBlock->(v'.ownBlock=v.ownBlock\/v'.ownBlock=some w.heap.size)->S w'/\wpAnyH P md ops Q S fuel (listed.setIfInBounds i true) (a.put o.dst v') w'):wpAnyH P md ops Q S (fuel+1) listed a w:=by
 obtain ⟨v',w',hrun,h2,h3,h4⟩:=run_append_kwOp (a:=a) el base v m xs hown g us hus s x ho hs hx hnew h1 hn hbase;obtain ⟨h5,h6⟩:=h v' w' h2 h3 h4;exact wpAnyH_one hr hi hgd hrun h5 h6
end
theorem conv_byte2 {w:World} {g:Nat} {x y:UInt8} (h:w.heap[g]?=some (.cells #[.int .u8 x.toNat,.int .u8 y.toNat] 5 (0,0))):(convert 52 9 (.slice (some ⟨g,0,none⟩) 2 2)).run prog w=.ok (.string ⟨#[x,y]⟩) w :=
 conv_sl (l:=[x,y]) ⟨g,0,2,rfl,Nat.le_refl _,by decide,fun j z hj=>by
  rw [Nat.zero_add];refine (cellB h).trans ?_
  match j with
  | 0=>cases hj;rfl
  | 1=>cases hj;rfl
  | j+2=>simp at hj⟩
theorem entsV_snoc {w:World} {base n:Nat} {e:TypeId} {v:Value} {l:List Ent} {x:Ent} (h:w.ownsRow base e 4 v n (entsV l++entV x)):w.ownsRow base e 4 v n (entsV (l++[x])):=by
 rw [show entsV (l++[x])=entsV l++entV x from by unfold entsV;rw [List.flatMap_append];simp];exact h
theorem u16_and1 (t:Nat) (_ht:t<65536):bits .and .u16 (t:Int) 1=((t % 2:Nat):Int):=by
 have h1:(BitVec.ofInt 16 1).toNat=2 ^ 1 - 1:=by decide
 have key:(BitVec.ofInt 16 (t:Int) &&& BitVec.ofInt 16 1).toNat=((t:Int) % ((2 ^ 16:Nat):Int)).toNat % 2 ^ 1:=by
  rw [BitVec.toNat_and,BitVec.toNat_ofInt,h1,Nat.and_two_pow_sub_one_eq_mod]
 show IntKind.u16.wrap ((BitVec.ofInt 16 (t:Int) &&& BitVec.ofInt 16 1).toNat:Nat)=_
 rw [key,IntWalk.u16_in _ (by omega)];omega
theorem ago19x (now t:Int) (w:World):Calls prog 45 #[.int .i64 now,.int .i64 t] w fun e w'=>e=.returned (.int .i64 (ageI t now))/\Ext w w':=(ago19 now t w).mono fun _ _ h=>⟨h.1,h.2▸Ext.refl w⟩
def nmK (i:Nat):ByteArray:=⟨#[UInt8.ofNat (65+i / 26),UInt8.ofNat (97+i % 26)]⟩
def KeepL (l:List Ent):Prop:=∀ j x,l[j]?=some x->x.name=nmK j/\x.path.size=1
theorem keepL_snoc {l:List Ent} {x:Ent} (h:KeepL l) (h1:x.name=nmK l.length) (h2:x.path.size=1):KeepL (l++[x]):=fun j y hy=>by
 rw [List.getElem?_append] at hy;split at hy
 ·exact h j y hy
 ·rename_i hj;have hlt:=(List.getElem?_eq_some_iff.1 hy).1;simp only [List.length_singleton] at hlt;obtain rfl:j=l.length:=by omega
  rw [Nat.sub_self] at hy
  cases hy
  exact ⟨h1,h2⟩
def nmD (i:Nat):List UInt8:=[UInt8.ofNat (65+i / 26),UInt8.ofNat (97+i % 26)]
def nmChk:Bool:=(List.range 60).all fun j=>(List.range j).all fun i=>!Go.Op.bytesLess (nmD j) (nmD i)&&!(nmD i==nmD j)
theorem nmChk_ok:nmChk=true:=by kernel_rfl
theorem keepL_rise {l:List Ent} (h:KeepL l) (hl:l.length<=60):Rise l:=by
 refine List.pairwise_iff_getElem.2 fun i j hi hj hij=>?_;have e1:=(h i _ (List.getElem?_eq_getElem hi)).1;have e2:=(h j _ (List.getElem?_eq_getElem hj)).1;rw [e1,e2];have:=nmChk_ok;unfold nmChk at this;have:=List.all_eq_true.1 this j (List.mem_range.2 (by omega));have:=List.all_eq_true.1 this i (List.mem_range.2 hij);rw [Bool.and_eq_true,Bool.not_eq_true',Bool.not_eq_true'] at this;have k:∀ i,(nmK i).toList=nmD i:=fun i=>Lib.toList_data _;rw [k,k];exact this
theorem keep_contra {p:Pol} {now:Int} {l:List Ent} {x:Ent} {a n:Nat} (hn:l.length=n) (hg:goneY p now (l.take a) x (l.drop (a+1))=true) :
  (∀ b1:Bool,(b1=true->∀ t y,t<n->l[t]?=some y->y.path=x.path->t<=a)->b1=false) /\
  (p.kind=3->∀ b2:Bool,(b2=true->∀ t y,t<n->l[t]?=some y->y.path=x.path->a<=t\/bkE now y≠bkE now x\/agedY p now y=true)->b2=false\/agedY p now x=true):=by
 unfold goneY at hg;rw [Bool.and_eq_true,decide_eq_true_eq] at hg;obtain ⟨h1,h2⟩:=hg;constructor
 ·intro b1 hb
  cases b1 with
  | false=>rfl
  | true =>
   exfalso;obtain ⟨y,hy⟩:=List.exists_mem_of_length_pos h1;obtain ⟨hy1,hy2⟩:=List.mem_filter.1 hy;obtain ⟨i,hi⟩:=List.getElem?_of_mem hy1;rw [List.getElem?_drop] at hi;have hlt:=(List.getElem?_eq_some_iff.1 hi).1;have:=hb rfl _ y (by omega) hi (of_decide_eq_true hy2);omega
 ·intro hk b2 hb
  cases b2 with
  | false=>exact .inl rfl
  | true =>
   right;rw [hk] at h2;simp only [Bool.or_eq_true,Bool.and_eq_true] at h2;rcases h2 with (h2 | h2) | h2
   ·exact h2
   ·simp at h2
   ·exfalso;obtain ⟨y,hy,k1,k2⟩:=any_bk.1 h2.2;obtain ⟨hy1,hy2⟩:=List.mem_filter.1 hy;obtain ⟨i,hi⟩:=List.getElem?_of_mem hy1;rw [List.getElem?_take] at hi;split at hi
    ·have hlt:=(List.getElem?_eq_some_iff.1 hi).1;rcases hb rfl i y (by omega) hi (of_decide_eq_true hy2) with q | q | q
     ·omega
     ·exact q k2
     ·rw [k1] at q;cases q
    ·cases hi
theorem cells_nil {w:World} {v:Value} (h:CellsAt w v ((([]:List ByteArray)).map Value.string)):∃ a c,v=.slice a 0 c:=by
 rcases h with ⟨rfl,_⟩ | ⟨g,cap,rfl,_⟩
 ·exact ⟨_,_,rfl⟩
 ·exact ⟨_,_,rfl⟩
set_option maxRecDepth 100000 in
set_option maxHeartbeats 16000000 in
theorem keeps_walk (p:Pol) (v:Value) (zs:List Nat) (now:Int) (w:World) (hv:StepsIn w v zs) (E:EnvA w):Calls prog 9 #[polV p,v,.int .i64 now] w fun e w'=>e=.returned (.bool true)/\Ext w w':=by
 have HAw:=lh (fun w1 (x:Ext w w1)=>awake19 w1 (E.ext x));have HGo:=lh (fun w1 u (l:List Ent) (q:(u=.slice none 0 0/\l=[])\/EntsSl w1 u l) (q1:Rise l) (q2:l.length<=1000) (q3:∀ x∈l,x.path.size<=100000)=>agoesR q q1 q2 q3 p now);obtain ⟨va,vc,rfl,hv1,hv2,hv3⟩:=hv;have HV:=lh hv3;obtain ⟨n,hn⟩:∃ n,n=zs.length:=⟨_,rfl⟩;have HN:=lh hn;rw [<-hn] at hv1 ⊢;clear E hv3 hn;have HP:=lh (show polV p=.agg #[.int .i64 p.kind,.int .i64 p.keep,.int .i64 p.age] from rfl);obtain ⟨pc,hpc⟩:∃ pc,pc=(#[.int .i64 p.kind,.int .i64 p.keep,.int .i64 p.age]:Array Value):=⟨_,rfl⟩;have HI:=lh (show (prog.info? 89).map (·.size)=some pc.size from by rw [hpc];kernel_rfl);have HP0:=lh (show pc[0]?=some (.int .i64 p.kind) from by rw [hpc];rfl);have HP2:=lh (show pc[2]?=some (.int .i64 p.age) from by rw [hpc];rfl);rw [HP.out,<-hpc];rw [HP.out,<-hpc] at HGo;have HB:=lh (block_alloc_new w (.cells pc 89 (0,0)));have X0:=lh ((Ext.refl w).alloc (.cells pc 89 (0,0)));clear hpc HP;go_enter func9,ntmps9;by_cases h60:n<=60
 case neg =>
  have g1:decide ((60:Int)<(n:Int))=true:=decide_eq_true (by omega);go_wp2_with fail;refine (HAw.out _ X0.out).mono ?_;rintro e w2 ⟨rfl,x2⟩;have X2:=lh (X0.out.trans x2);go_wp2;go_ret;exact ⟨rfl,X2.out⟩
 have g1:decide ((60:Int)<(n:Int))=false:=decide_eq_false (by omega);go_wp2_with fail;generalize w.alloc (.cells pc 89 (0,0))=wA at *;go_loopw [7,8,9] (fun lv tv iv wr=>Hid (∃ (i:Nat) (l1:List Ent) (T:Int),i<=n/\l1.length=i/\tv=.int .i64 T/\iv=.int .i64 i/\KeepL l1/\(i=0->lv=.slice none 0 0)/\wr.ownsRow wA.heap.size 93 4 lv i (entsV l1)/\Ext wA wr)) (fun _ _ iv _=>n - (intOf iv).toNat)
 case atStart=>exact ⟨0,[],0,Nat.zero_le _,rfl,rfl,rfl,fun j x h=>by simp at h,fun _=>rfl,World.ownsRow_nil _ _ _ _,Ext.refl _⟩
 case round =>
  obtain ⟨i,l1,T,hi,hl1,rfl,rfl,hkl,hl0,ho,hx⟩:=hrel.out;clear hrel;have HL1:=lh hl1;have HO:=lh ho;have HXX:=lh hx;by_cases hlt:i<n
  ·obtain ⟨t,htk⟩:∃ t,zs[i]?=some t:=⟨_,List.getElem?_eq_getElem (by have:=HN.out;omega)⟩;obtain ⟨ht6,bt,ot,rfl,hcs⟩:=HV.out i t htk;have HCT:=lh (fun w' (y:Ext wA w')=>(((X0.out.trans y).cell (lt_of_cell hcs)).trans hcs:w'.cell? ⟨bt,ot+i,none⟩=some (.int .u16 t)));have c1:wr.cell? ⟨bt,ot+i,none⟩=some (.int .u16 t):=HCT.out _ hx;obtain ⟨c,hc⟩:∃ c,c=i / 26:=⟨_,rfl⟩;obtain ⟨d,hd⟩:∃ d,d=i % 26:=⟨_,rfl⟩;obtain ⟨e,he⟩:∃ e,e=t % 2:=⟨_,rfl⟩;obtain ⟨x1,hx1⟩:∃ x:UInt8,x=UInt8.ofNat (65+c):=⟨_,rfl⟩;obtain ⟨x2,hx2⟩:∃ x:UInt8,x=UInt8.ofNat (97+d):=⟨_,rfl⟩;obtain ⟨x3,hx3⟩:∃ x:UInt8,x=UInt8.ofNat (97+e):=⟨_,rfl⟩;have hc3:c<3:=by omega
   have hd26:d<26:=by omega
   have he2:e<2:=by omega
   have t1:x1.toNat=65+c:=by rw [hx1,UInt8.toNat_ofNat'];omega
   have t2:x2.toNat=97+d:=by rw [hx2,UInt8.toNat_ofNat'];omega
   have t3:x3.toNat=97+e:=by rw [hx3,UInt8.toNat_ofNat'];omega
   have HKL:=lh (fun T1:Int=>keepL_snoc (x:=Ent.mk ⟨#[x1,x2]⟩ ⟨#[x3]⟩ T1 0) hkl (by rw [hl1,hx1,hx2,hc,hd];rfl) rfl);have q1:(i:Int).tdiv 26=(c:Int):=by rw [hc,Int.ofNat_tdiv];rfl
   have q2:(i:Int).tmod 26=(d:Int):=by rw [hd,Int.ofNat_tmod];rfl
   have q3:IntKind.i64.wrap (65+(c:Int))=65+(c:Int):=IntWalk.i64_in _ (by omega);have q4:IntKind.i64.wrap (97+(d:Int))=97+(d:Int):=IntWalk.i64_in _ (by omega);have q5:IntKind.u8.wrap (65+(c:Int))=(x1.toNat:Int):=by rw [t1,IntWalk.u8_in _ (by omega)];rfl
   have q6:IntKind.u8.wrap (97+(d:Int))=(x2.toNat:Int):=by rw [t2,IntWalk.u8_in _ (by omega)];rfl
   have q7:IntKind.u8.wrap (97+(e:Int))=(x3.toNat:Int):=by rw [t3,IntWalk.u8_in _ (by omega)];rfl
   clear hkl hl0 ho hx htk hcs hc hd hx1 hx2 hx3 t1 t2 t3 hl1 hi;obtain ⟨T1,hT1⟩:∃ T1,T1=IntKind.i64.wrap (T+(t:Int) / 2):=⟨_,rfl⟩;have q0:IntKind.i64.wrap (T+(t:Int) / 2)=T1:=hT1.symm;have q8:IntKind.u16.wrap (97+(e:Int))=97+(e:Int):=IntWalk.u16_in _ (by omega);have HAG:=lh (fun w=>(show (isAgg 101).run prog w=.ok false w from rfl));obtain ⟨lv,rfl⟩:∃ x,x=u7:=⟨_,rfl⟩;have q9:IntKind.i64.wrap (c:Int)=(c:Int):=IntWalk.i64_in _ (by omega);have qb:bits .and .u16 (t:Int) 1=(e:Int):=by rw [u16_and1 t ht6,he]
   clear hT1 he;go_upto_region 9 with (fail)
   refine wp_region_held (S:=fun w'=>Ext wA w') (by kernel_rfl) ?_;change wpAnyH _ _ _ _ _ _ _ _ (World.drew _);have HXwd:=lh (Ext.refl wr).drew;have SD:=HXX.out.trans HXwd.out;generalize wr.drew=wd at *;refine wpAnyH_takeL (i:=0) (v:=lv) rfl (by kernel_rfl) (by kernel_rfl) (by kernel_rfl) (fun _ _ _ h=>h) (yieldsIf_move rfl _ rfl rfl) SD ?_;go_frame;refine wpAnyH_takeL (i:=1) (v:=.int .i64 i) rfl (by kernel_rfl) (by kernel_rfl) (by kernel_rfl) (fun _ _ _ h=>h) (yieldsIf_move rfl _ rfl rfl) SD ?_;go_frame;refine wpAnyH_takeL (i:=2) (v:=.int .i64 (c:Int)) rfl (by kernel_rfl) (by kernel_rfl) (by kernel_rfl) (fun _ _ _ h=>h) (Or.inl ⟨rfl,fun w' _=>by go_simp⟩) SD ?_;go_frame;refine wpAnyH_takeL (i:=3) (v:=.int .i64 (65+(c:Int))) rfl (by kernel_rfl) (by kernel_rfl) (by kernel_rfl) (fun _ _ _ h=>h) (Or.inl ⟨rfl,fun w' _=>by go_simp⟩) SD ?_;go_frame;refine wpAnyH_takeL (i:=4) (v:=.int .u8 (x1.toNat:Int)) rfl (by kernel_rfl) (by kernel_rfl) (by kernel_rfl) (fun _ _ _ h=>h) (Or.inl ⟨rfl,fun w' _=>by go_simp⟩) SD ?_;go_frame;refine wpAnyH_takeL (i:=5) (v:=.int .i64 i) rfl (by kernel_rfl) (by kernel_rfl) (by kernel_rfl) (fun _ _ _ h=>h) (yieldsIf_move rfl _ rfl rfl) SD ?_;go_frame;refine wpAnyH_takeL (i:=6) (v:=.int .i64 (d:Int)) rfl (by kernel_rfl) (by kernel_rfl) (by kernel_rfl) (fun _ _ _ h=>h) (Or.inl ⟨rfl,fun w' _=>by go_simp⟩) SD ?_;go_frame;refine wpAnyH_takeL (i:=7) (v:=.int .i64 (97+(d:Int))) rfl (by kernel_rfl) (by kernel_rfl) (by kernel_rfl) (fun _ _ _ h=>h) (Or.inl ⟨rfl,fun w' _=>by go_simp⟩) SD ?_;go_frame;refine wpAnyH_takeL (i:=8) (v:=.int .u8 (x2.toNat:Int)) rfl (by kernel_rfl) (by kernel_rfl) (by kernel_rfl) (fun _ _ _ h=>h) (Or.inl ⟨rfl,fun w' _=>by go_simp⟩) SD ?_;go_frame;refine wpAnyH_takeL (i:=11) (v:=.slice (some ⟨bt,ot,none⟩) n vc) rfl (by kernel_rfl) (by kernel_rfl) (by kernel_rfl) (fun _ _ _ h=>h) (yieldsIf_move rfl _ rfl rfl) SD ?_;go_frame;refine wpAnyH_takeL (i:=12) (v:=.int .i64 i) rfl (by kernel_rfl) (by kernel_rfl) (by kernel_rfl) (fun _ _ _ h=>h) (yieldsIf_move rfl _ rfl rfl) SD ?_;go_frame;refine wpAnyH_takeL (i:=13) (v:=.pointer (some ⟨bt,ot+i,none⟩)) rfl (by kernel_rfl) (by kernel_rfl) (by kernel_rfl) (fun _ _ _ h=>h) (Or.inl ⟨rfl,fun w' _=>by go_simp⟩) SD ?_;go_frame;refine wpAnyH_takeL (i:=14) (v:=.int .u16 t) rfl (by kernel_rfl) (by kernel_rfl) (by kernel_rfl) (fun _ _ _ h=>h) (yieldsIf_cell rfl _ _ rfl bt (ot+i) rfl HAG.out (fun _ h=>HCT.out _ h)) SD ?_;go_frame;refine wpAnyH_takeL (i:=15) (v:=.int .u16 (e:Int)) rfl (by kernel_rfl) (by kernel_rfl) (by kernel_rfl) (fun _ _ _ h=>h) (Or.inl ⟨rfl,fun w' _=>by go_simp⟩) SD ?_;go_frame;refine wpAnyH_takeL (i:=16) (v:=.int .u16 (97+(e:Int))) rfl (by kernel_rfl) (by kernel_rfl) (by kernel_rfl) (fun _ _ _ h=>h) (Or.inl ⟨rfl,fun w' _=>by go_simp⟩) SD ?_;go_frame;refine wpAnyH_takeL (i:=17) (v:=.int .u8 (x3.toNat:Int)) rfl (by kernel_rfl) (by kernel_rfl) (by kernel_rfl) (fun _ _ _ h=>h) (Or.inl ⟨rfl,fun w' _=>by go_simp⟩) SD ?_;go_frame;refine wpAnyH_takeL (i:=20) (v:=.int .i64 T1) rfl (by kernel_rfl) (by kernel_rfl) (by kernel_rfl) (fun _ _ _ h=>h) (yieldsIf_move rfl _ rfl rfl) SD ?_;go_frame;clear SD;refine wpAnyH_ops2 (i:=9) (j:=18) (vi:=.slice (some ⟨wd.heap.size,0,none⟩) 2 2) (vj:=.slice (some ⟨wd.heap.size,0,none⟩) 1 1) (wi:=wd.alloc (.cells #[.int .u8 x1.toNat,.int .u8 x2.toNat] 5 (0,0))) (wj:=wd.alloc (.cells #[.int .u8 x3.toNat] 5 (0,0))) (by kernel_rfl) rfl rfl rfl rfl (by go_simp) (by go_simp) (HXX.out.trans (HXwd.out.alloc _)) (HXX.out.trans (HXwd.out.alloc _)) ?_ ?_
   ·go_frame;have B9:=lh (block_alloc_new wd (.cells #[.int .u8 x1.toNat,.int .u8 x2.toNat] 5 (0,0)));have HXw1:=lh (HXwd.out.alloc (.cells #[.int .u8 x1.toNat,.int .u8 x2.toNat] 5 (0,0)));generalize wd.alloc (.cells #[.int .u8 x1.toNat,.int .u8 x2.toNat] 5 (0,0))=w1 at *;refine wpAnyH_ops2 (i:=10) (j:=18) (vi:=.string ⟨#[x1,x2]⟩) (vj:=.slice (some ⟨w1.heap.size,0,none⟩) 1 1) (wi:=w1) (wj:=w1.alloc (.cells #[.int .u8 x3.toNat] 5 (0,0))) (by kernel_rfl) rfl rfl rfl rfl (run_convOp _ _ _ rfl rfl (conv_byte2 B9.out)) (by go_simp) (HXX.out.trans HXw1.out) (HXX.out.trans (HXw1.out.alloc _)) ?_ ?_
    ·go_frame;refine wpAnyH_one (i:=18) (v:=.slice (some ⟨w1.heap.size,0,none⟩) 1 1) (w':=w1.alloc (.cells #[.int .u8 x3.toNat] 5 (0,0))) (by kernel_rfl) rfl rfl (by go_simp) (HXX.out.trans (HXw1.out.alloc _)) ?_;go_frame;have B18:=lh (block_alloc_new w1 (.cells #[.int .u8 x3.toNat] 5 (0,0)));have HXw2:=lh (HXw1.out.alloc (.cells #[.int .u8 x3.toNat] 5 (0,0)));have C9:=lh ((((Ext.refl w1).alloc (.cells #[.int .u8 x3.toNat] 5 (0,0))).block (ltB B9.out)).trans B9.out);generalize w1.alloc (.cells #[.int .u8 x3.toNat] 5 (0,0))=w2 at *;have B9:=C9;refine wpAnyH_one (i:=19) (v:=.string ⟨#[x3]⟩) (w':=w2) (by kernel_rfl) rfl rfl (run_convOp _ _ _ rfl rfl (conv_byte1 B18.out)) (HXX.out.trans HXw2.out) ?_;go_frame;refine wpAnyH_takeL (i:=21) (v:=.agg #[.string ⟨#[x1,x2]⟩,.string ⟨#[x3]⟩,.int .i64 T1,.int .i64 0]) rfl (by kernel_rfl) (by kernel_rfl) (by kernel_rfl) (fun _ _ _ h=>h) (yieldsIf_build rfl _ _ rfl _ (by kernel_rfl)) (HXX.out.trans HXw2.out) ?_;go_frame;have Bn:=lh (block_alloc_new w2 (.cells #[.string ⟨#[x1,x2]⟩,.string ⟨#[x3]⟩,.int .i64 T1,.int .i64 0] 93 (0,0)));have Xn:=lh (HXw2.out.alloc (.cells #[.string ⟨#[x1,x2]⟩,.string ⟨#[x3]⟩,.int .i64 T1,.int .i64 0] 93 (0,0)));refine wpAnyH_one (i:=22) (v:=.slice (some ⟨w2.heap.size,0,none⟩) 1 1) (w':=w2.alloc (.cells #[.string ⟨#[x1,x2]⟩,.string ⟨#[x3]⟩,.int .i64 T1,.int .i64 0] 93 (0,0))) (by kernel_rfl) rfl rfl (run_buildOneOp elEnt (by decide) _ rfl #[.string ⟨#[x1,x2]⟩,.string ⟨#[x3]⟩,.int .i64 T1,.int .i64 0] rfl rfl) (HXX.out.trans Xn.out) ?_;go_frame;generalize w2.alloc (.cells #[.string ⟨#[x1,x2]⟩,.string ⟨#[x3]⟩,.int .i64 T1,.int .i64 0] 93 (0,0))=wn at *;refine wpAnyH_append (i:=23) (by kernel_rfl) rfl rfl elEnt wA.heap.size lv i (entsV l1) (owns_ext HO.out Xn.out) w2.heap.size [.string ⟨#[x1,x2]⟩,.string ⟨#[x3]⟩,.int .i64 T1,.int .i64 0] rfl _ _ rfl rfl rfl (fun j u hj=>(cellB Bn.out).trans (by simpa using hj)) (by simp [Value.oneCell']) (by omega) (HXX.out.trans Xn.out).size ?_;intro v7 w7 ho7 hg7 hv7;have X7:=lh (ext_own (HXX.out.trans Xn.out) (Nat.le_refl _) (owns_ext HO.out Xn.out) hg7);have HO7:=lh ho7;clear ho7 hg7 hv7;refine ⟨X7.out,?_⟩;go_frame;refine wpAnyH_takeL (i:=24) (v:=v7) rfl (by kernel_rfl) (by kernel_rfl) (by kernel_rfl) (fun _ _ _ h=>h) (yieldsIf_assign rfl _ rfl rfl) X7.out ?_;go_frame;refine wpAnyH_done (by kernel_rfl) ?_ _;go_wp2_with fail;go_roundw
     case rel=>exact ⟨i+1,l1++[Ent.mk ⟨#[x1,x2]⟩ ⟨#[x3]⟩ T1 0],T1,by omega,by rw [List.length_append,HL1.out];rfl,rfl,by go_num,HKL.out T1,(fun h=>by omega),entsV_snoc HO7.out,X7.out⟩
     case measure=>simp [intOf] <;> omega
    ·go_frame;have B18:=lh (block_alloc_new w1 (.cells #[.int .u8 x3.toNat] 5 (0,0)));have HXw2:=lh (HXw1.out.alloc (.cells #[.int .u8 x3.toNat] 5 (0,0)));have C9:=lh ((((Ext.refl w1).alloc (.cells #[.int .u8 x3.toNat] 5 (0,0))).block (ltB B9.out)).trans B9.out);generalize w1.alloc (.cells #[.int .u8 x3.toNat] 5 (0,0))=w2 at *;have B9:=C9;refine wpAnyH_ops2 (i:=10) (j:=19) (vi:=.string ⟨#[x1,x2]⟩) (vj:=.string ⟨#[x3]⟩) (wi:=w2) (wj:=w2) (by kernel_rfl) rfl rfl rfl rfl (run_convOp _ _ _ rfl rfl (conv_byte2 B9.out)) (run_convOp _ _ _ rfl rfl (conv_byte1 B18.out)) (HXX.out.trans HXw2.out) (HXX.out.trans HXw2.out) ?_ ?_
     ·go_frame;refine wpAnyH_one (i:=19) (v:=.string ⟨#[x3]⟩) (w':=w2) (by kernel_rfl) rfl rfl (run_convOp _ _ _ rfl rfl (conv_byte1 B18.out)) (HXX.out.trans HXw2.out) ?_;go_frame;refine wpAnyH_takeL (i:=21) (v:=.agg #[.string ⟨#[x1,x2]⟩,.string ⟨#[x3]⟩,.int .i64 T1,.int .i64 0]) rfl (by kernel_rfl) (by kernel_rfl) (by kernel_rfl) (fun _ _ _ h=>h) (yieldsIf_build rfl _ _ rfl _ (by kernel_rfl)) (HXX.out.trans HXw2.out) ?_;go_frame;have Bn:=lh (block_alloc_new w2 (.cells #[.string ⟨#[x1,x2]⟩,.string ⟨#[x3]⟩,.int .i64 T1,.int .i64 0] 93 (0,0)));have Xn:=lh (HXw2.out.alloc (.cells #[.string ⟨#[x1,x2]⟩,.string ⟨#[x3]⟩,.int .i64 T1,.int .i64 0] 93 (0,0)));refine wpAnyH_one (i:=22) (v:=.slice (some ⟨w2.heap.size,0,none⟩) 1 1) (w':=w2.alloc (.cells #[.string ⟨#[x1,x2]⟩,.string ⟨#[x3]⟩,.int .i64 T1,.int .i64 0] 93 (0,0))) (by kernel_rfl) rfl rfl (run_buildOneOp elEnt (by decide) _ rfl #[.string ⟨#[x1,x2]⟩,.string ⟨#[x3]⟩,.int .i64 T1,.int .i64 0] rfl rfl) (HXX.out.trans Xn.out) ?_;go_frame;generalize w2.alloc (.cells #[.string ⟨#[x1,x2]⟩,.string ⟨#[x3]⟩,.int .i64 T1,.int .i64 0] 93 (0,0))=wn at *;refine wpAnyH_append (i:=23) (by kernel_rfl) rfl rfl elEnt wA.heap.size lv i (entsV l1) (owns_ext HO.out Xn.out) w2.heap.size [.string ⟨#[x1,x2]⟩,.string ⟨#[x3]⟩,.int .i64 T1,.int .i64 0] rfl _ _ rfl rfl rfl (fun j u hj=>(cellB Bn.out).trans (by simpa using hj)) (by simp [Value.oneCell']) (by omega) (HXX.out.trans Xn.out).size ?_;intro v7 w7 ho7 hg7 hv7;have X7:=lh (ext_own (HXX.out.trans Xn.out) (Nat.le_refl _) (owns_ext HO.out Xn.out) hg7);have HO7:=lh ho7;clear ho7 hg7 hv7;refine ⟨X7.out,?_⟩;go_frame;refine wpAnyH_takeL (i:=24) (v:=v7) rfl (by kernel_rfl) (by kernel_rfl) (by kernel_rfl) (fun _ _ _ h=>h) (yieldsIf_assign rfl _ rfl rfl) X7.out ?_;go_frame;refine wpAnyH_done (by kernel_rfl) ?_ _;go_wp2_with fail;go_roundw
      case rel=>exact ⟨i+1,l1++[Ent.mk ⟨#[x1,x2]⟩ ⟨#[x3]⟩ T1 0],T1,by omega,by rw [List.length_append,HL1.out];rfl,rfl,by go_num,HKL.out T1,(fun h=>by omega),entsV_snoc HO7.out,X7.out⟩
      case measure=>simp [intOf] <;> omega
     ·go_frame;refine wpAnyH_one (i:=10) (v:=.string ⟨#[x1,x2]⟩) (w':=w2) (by kernel_rfl) rfl rfl (run_convOp _ _ _ rfl rfl (conv_byte2 B9.out)) (HXX.out.trans HXw2.out) ?_;go_frame;refine wpAnyH_takeL (i:=21) (v:=.agg #[.string ⟨#[x1,x2]⟩,.string ⟨#[x3]⟩,.int .i64 T1,.int .i64 0]) rfl (by kernel_rfl) (by kernel_rfl) (by kernel_rfl) (fun _ _ _ h=>h) (yieldsIf_build rfl _ _ rfl _ (by kernel_rfl)) (HXX.out.trans HXw2.out) ?_;go_frame;have Bn:=lh (block_alloc_new w2 (.cells #[.string ⟨#[x1,x2]⟩,.string ⟨#[x3]⟩,.int .i64 T1,.int .i64 0] 93 (0,0)));have Xn:=lh (HXw2.out.alloc (.cells #[.string ⟨#[x1,x2]⟩,.string ⟨#[x3]⟩,.int .i64 T1,.int .i64 0] 93 (0,0)));refine wpAnyH_one (i:=22) (v:=.slice (some ⟨w2.heap.size,0,none⟩) 1 1) (w':=w2.alloc (.cells #[.string ⟨#[x1,x2]⟩,.string ⟨#[x3]⟩,.int .i64 T1,.int .i64 0] 93 (0,0))) (by kernel_rfl) rfl rfl (run_buildOneOp elEnt (by decide) _ rfl #[.string ⟨#[x1,x2]⟩,.string ⟨#[x3]⟩,.int .i64 T1,.int .i64 0] rfl rfl) (HXX.out.trans Xn.out) ?_;go_frame;generalize w2.alloc (.cells #[.string ⟨#[x1,x2]⟩,.string ⟨#[x3]⟩,.int .i64 T1,.int .i64 0] 93 (0,0))=wn at *;refine wpAnyH_append (i:=23) (by kernel_rfl) rfl rfl elEnt wA.heap.size lv i (entsV l1) (owns_ext HO.out Xn.out) w2.heap.size [.string ⟨#[x1,x2]⟩,.string ⟨#[x3]⟩,.int .i64 T1,.int .i64 0] rfl _ _ rfl rfl rfl (fun j u hj=>(cellB Bn.out).trans (by simpa using hj)) (by simp [Value.oneCell']) (by omega) (HXX.out.trans Xn.out).size ?_;intro v7 w7 ho7 hg7 hv7;have X7:=lh (ext_own (HXX.out.trans Xn.out) (Nat.le_refl _) (owns_ext HO.out Xn.out) hg7);have HO7:=lh ho7;clear ho7 hg7 hv7;refine ⟨X7.out,?_⟩;go_frame;refine wpAnyH_takeL (i:=24) (v:=v7) rfl (by kernel_rfl) (by kernel_rfl) (by kernel_rfl) (fun _ _ _ h=>h) (yieldsIf_assign rfl _ rfl rfl) X7.out ?_;go_frame;refine wpAnyH_done (by kernel_rfl) ?_ _;go_wp2_with fail;go_roundw
      case rel=>exact ⟨i+1,l1++[Ent.mk ⟨#[x1,x2]⟩ ⟨#[x3]⟩ T1 0],T1,by omega,by rw [List.length_append,HL1.out];rfl,rfl,by go_num,HKL.out T1,(fun h=>by omega),entsV_snoc HO7.out,X7.out⟩
      case measure=>simp [intOf] <;> omega
   ·go_frame;have B18:=lh (block_alloc_new wd (.cells #[.int .u8 x3.toNat] 5 (0,0)));have HXw1:=lh (HXwd.out.alloc (.cells #[.int .u8 x3.toNat] 5 (0,0)));generalize wd.alloc (.cells #[.int .u8 x3.toNat] 5 (0,0))=w1 at *;refine wpAnyH_ops2 (i:=9) (j:=19) (vi:=.slice (some ⟨w1.heap.size,0,none⟩) 2 2) (vj:=.string ⟨#[x3]⟩) (wi:=w1.alloc (.cells #[.int .u8 x1.toNat,.int .u8 x2.toNat] 5 (0,0))) (wj:=w1) (by kernel_rfl) rfl rfl rfl rfl (by go_simp) (run_convOp _ _ _ rfl rfl (conv_byte1 B18.out)) (HXX.out.trans (HXw1.out.alloc _)) (HXX.out.trans HXw1.out) ?_ ?_
    ·go_frame;have B9:=lh (block_alloc_new w1 (.cells #[.int .u8 x1.toNat,.int .u8 x2.toNat] 5 (0,0)));have HXw2:=lh (HXw1.out.alloc (.cells #[.int .u8 x1.toNat,.int .u8 x2.toNat] 5 (0,0)));have C18:=lh ((((Ext.refl w1).alloc (.cells #[.int .u8 x1.toNat,.int .u8 x2.toNat] 5 (0,0))).block (ltB B18.out)).trans B18.out);generalize w1.alloc (.cells #[.int .u8 x1.toNat,.int .u8 x2.toNat] 5 (0,0))=w2 at *;have B18:=C18;refine wpAnyH_ops2 (i:=10) (j:=19) (vi:=.string ⟨#[x1,x2]⟩) (vj:=.string ⟨#[x3]⟩) (wi:=w2) (wj:=w2) (by kernel_rfl) rfl rfl rfl rfl (run_convOp _ _ _ rfl rfl (conv_byte2 B9.out)) (run_convOp _ _ _ rfl rfl (conv_byte1 B18.out)) (HXX.out.trans HXw2.out) (HXX.out.trans HXw2.out) ?_ ?_
     ·go_frame;refine wpAnyH_one (i:=19) (v:=.string ⟨#[x3]⟩) (w':=w2) (by kernel_rfl) rfl rfl (run_convOp _ _ _ rfl rfl (conv_byte1 B18.out)) (HXX.out.trans HXw2.out) ?_;go_frame;refine wpAnyH_takeL (i:=21) (v:=.agg #[.string ⟨#[x1,x2]⟩,.string ⟨#[x3]⟩,.int .i64 T1,.int .i64 0]) rfl (by kernel_rfl) (by kernel_rfl) (by kernel_rfl) (fun _ _ _ h=>h) (yieldsIf_build rfl _ _ rfl _ (by kernel_rfl)) (HXX.out.trans HXw2.out) ?_;go_frame;have Bn:=lh (block_alloc_new w2 (.cells #[.string ⟨#[x1,x2]⟩,.string ⟨#[x3]⟩,.int .i64 T1,.int .i64 0] 93 (0,0)));have Xn:=lh (HXw2.out.alloc (.cells #[.string ⟨#[x1,x2]⟩,.string ⟨#[x3]⟩,.int .i64 T1,.int .i64 0] 93 (0,0)));refine wpAnyH_one (i:=22) (v:=.slice (some ⟨w2.heap.size,0,none⟩) 1 1) (w':=w2.alloc (.cells #[.string ⟨#[x1,x2]⟩,.string ⟨#[x3]⟩,.int .i64 T1,.int .i64 0] 93 (0,0))) (by kernel_rfl) rfl rfl (run_buildOneOp elEnt (by decide) _ rfl #[.string ⟨#[x1,x2]⟩,.string ⟨#[x3]⟩,.int .i64 T1,.int .i64 0] rfl rfl) (HXX.out.trans Xn.out) ?_;go_frame;generalize w2.alloc (.cells #[.string ⟨#[x1,x2]⟩,.string ⟨#[x3]⟩,.int .i64 T1,.int .i64 0] 93 (0,0))=wn at *;refine wpAnyH_append (i:=23) (by kernel_rfl) rfl rfl elEnt wA.heap.size lv i (entsV l1) (owns_ext HO.out Xn.out) w2.heap.size [.string ⟨#[x1,x2]⟩,.string ⟨#[x3]⟩,.int .i64 T1,.int .i64 0] rfl _ _ rfl rfl rfl (fun j u hj=>(cellB Bn.out).trans (by simpa using hj)) (by simp [Value.oneCell']) (by omega) (HXX.out.trans Xn.out).size ?_;intro v7 w7 ho7 hg7 hv7;have X7:=lh (ext_own (HXX.out.trans Xn.out) (Nat.le_refl _) (owns_ext HO.out Xn.out) hg7);have HO7:=lh ho7;clear ho7 hg7 hv7;refine ⟨X7.out,?_⟩;go_frame;refine wpAnyH_takeL (i:=24) (v:=v7) rfl (by kernel_rfl) (by kernel_rfl) (by kernel_rfl) (fun _ _ _ h=>h) (yieldsIf_assign rfl _ rfl rfl) X7.out ?_;go_frame;refine wpAnyH_done (by kernel_rfl) ?_ _;go_wp2_with fail;go_roundw
      case rel=>exact ⟨i+1,l1++[Ent.mk ⟨#[x1,x2]⟩ ⟨#[x3]⟩ T1 0],T1,by omega,by rw [List.length_append,HL1.out];rfl,rfl,by go_num,HKL.out T1,(fun h=>by omega),entsV_snoc HO7.out,X7.out⟩
      case measure=>simp [intOf] <;> omega
     ·go_frame;refine wpAnyH_one (i:=10) (v:=.string ⟨#[x1,x2]⟩) (w':=w2) (by kernel_rfl) rfl rfl (run_convOp _ _ _ rfl rfl (conv_byte2 B9.out)) (HXX.out.trans HXw2.out) ?_;go_frame;refine wpAnyH_takeL (i:=21) (v:=.agg #[.string ⟨#[x1,x2]⟩,.string ⟨#[x3]⟩,.int .i64 T1,.int .i64 0]) rfl (by kernel_rfl) (by kernel_rfl) (by kernel_rfl) (fun _ _ _ h=>h) (yieldsIf_build rfl _ _ rfl _ (by kernel_rfl)) (HXX.out.trans HXw2.out) ?_;go_frame;have Bn:=lh (block_alloc_new w2 (.cells #[.string ⟨#[x1,x2]⟩,.string ⟨#[x3]⟩,.int .i64 T1,.int .i64 0] 93 (0,0)));have Xn:=lh (HXw2.out.alloc (.cells #[.string ⟨#[x1,x2]⟩,.string ⟨#[x3]⟩,.int .i64 T1,.int .i64 0] 93 (0,0)));refine wpAnyH_one (i:=22) (v:=.slice (some ⟨w2.heap.size,0,none⟩) 1 1) (w':=w2.alloc (.cells #[.string ⟨#[x1,x2]⟩,.string ⟨#[x3]⟩,.int .i64 T1,.int .i64 0] 93 (0,0))) (by kernel_rfl) rfl rfl (run_buildOneOp elEnt (by decide) _ rfl #[.string ⟨#[x1,x2]⟩,.string ⟨#[x3]⟩,.int .i64 T1,.int .i64 0] rfl rfl) (HXX.out.trans Xn.out) ?_;go_frame;generalize w2.alloc (.cells #[.string ⟨#[x1,x2]⟩,.string ⟨#[x3]⟩,.int .i64 T1,.int .i64 0] 93 (0,0))=wn at *;refine wpAnyH_append (i:=23) (by kernel_rfl) rfl rfl elEnt wA.heap.size lv i (entsV l1) (owns_ext HO.out Xn.out) w2.heap.size [.string ⟨#[x1,x2]⟩,.string ⟨#[x3]⟩,.int .i64 T1,.int .i64 0] rfl _ _ rfl rfl rfl (fun j u hj=>(cellB Bn.out).trans (by simpa using hj)) (by simp [Value.oneCell']) (by omega) (HXX.out.trans Xn.out).size ?_;intro v7 w7 ho7 hg7 hv7;have X7:=lh (ext_own (HXX.out.trans Xn.out) (Nat.le_refl _) (owns_ext HO.out Xn.out) hg7);have HO7:=lh ho7;clear ho7 hg7 hv7;refine ⟨X7.out,?_⟩;go_frame;refine wpAnyH_takeL (i:=24) (v:=v7) rfl (by kernel_rfl) (by kernel_rfl) (by kernel_rfl) (fun _ _ _ h=>h) (yieldsIf_assign rfl _ rfl rfl) X7.out ?_;go_frame;refine wpAnyH_done (by kernel_rfl) ?_ _;go_wp2_with fail;go_roundw
      case rel=>exact ⟨i+1,l1++[Ent.mk ⟨#[x1,x2]⟩ ⟨#[x3]⟩ T1 0],T1,by omega,by rw [List.length_append,HL1.out];rfl,rfl,by go_num,HKL.out T1,(fun h=>by omega),entsV_snoc HO7.out,X7.out⟩
      case measure=>simp [intOf] <;> omega
    ·go_frame;refine wpAnyH_one (i:=9) (v:=.slice (some ⟨w1.heap.size,0,none⟩) 2 2) (w':=w1.alloc (.cells #[.int .u8 x1.toNat,.int .u8 x2.toNat] 5 (0,0))) (by kernel_rfl) rfl rfl (by go_simp) (HXX.out.trans (HXw1.out.alloc _)) ?_;go_frame;have B9:=lh (block_alloc_new w1 (.cells #[.int .u8 x1.toNat,.int .u8 x2.toNat] 5 (0,0)));have HXw2:=lh (HXw1.out.alloc (.cells #[.int .u8 x1.toNat,.int .u8 x2.toNat] 5 (0,0)));have C18:=lh ((((Ext.refl w1).alloc (.cells #[.int .u8 x1.toNat,.int .u8 x2.toNat] 5 (0,0))).block (ltB B18.out)).trans B18.out);generalize w1.alloc (.cells #[.int .u8 x1.toNat,.int .u8 x2.toNat] 5 (0,0))=w2 at *;have B18:=C18;refine wpAnyH_one (i:=10) (v:=.string ⟨#[x1,x2]⟩) (w':=w2) (by kernel_rfl) rfl rfl (run_convOp _ _ _ rfl rfl (conv_byte2 B9.out)) (HXX.out.trans HXw2.out) ?_;go_frame;refine wpAnyH_takeL (i:=21) (v:=.agg #[.string ⟨#[x1,x2]⟩,.string ⟨#[x3]⟩,.int .i64 T1,.int .i64 0]) rfl (by kernel_rfl) (by kernel_rfl) (by kernel_rfl) (fun _ _ _ h=>h) (yieldsIf_build rfl _ _ rfl _ (by kernel_rfl)) (HXX.out.trans HXw2.out) ?_;go_frame;have Bn:=lh (block_alloc_new w2 (.cells #[.string ⟨#[x1,x2]⟩,.string ⟨#[x3]⟩,.int .i64 T1,.int .i64 0] 93 (0,0)));have Xn:=lh (HXw2.out.alloc (.cells #[.string ⟨#[x1,x2]⟩,.string ⟨#[x3]⟩,.int .i64 T1,.int .i64 0] 93 (0,0)));refine wpAnyH_one (i:=22) (v:=.slice (some ⟨w2.heap.size,0,none⟩) 1 1) (w':=w2.alloc (.cells #[.string ⟨#[x1,x2]⟩,.string ⟨#[x3]⟩,.int .i64 T1,.int .i64 0] 93 (0,0))) (by kernel_rfl) rfl rfl (run_buildOneOp elEnt (by decide) _ rfl #[.string ⟨#[x1,x2]⟩,.string ⟨#[x3]⟩,.int .i64 T1,.int .i64 0] rfl rfl) (HXX.out.trans Xn.out) ?_;go_frame;generalize w2.alloc (.cells #[.string ⟨#[x1,x2]⟩,.string ⟨#[x3]⟩,.int .i64 T1,.int .i64 0] 93 (0,0))=wn at *;refine wpAnyH_append (i:=23) (by kernel_rfl) rfl rfl elEnt wA.heap.size lv i (entsV l1) (owns_ext HO.out Xn.out) w2.heap.size [.string ⟨#[x1,x2]⟩,.string ⟨#[x3]⟩,.int .i64 T1,.int .i64 0] rfl _ _ rfl rfl rfl (fun j u hj=>(cellB Bn.out).trans (by simpa using hj)) (by simp [Value.oneCell']) (by omega) (HXX.out.trans Xn.out).size ?_;intro v7 w7 ho7 hg7 hv7;have X7:=lh (ext_own (HXX.out.trans Xn.out) (Nat.le_refl _) (owns_ext HO.out Xn.out) hg7);have HO7:=lh ho7;clear ho7 hg7 hv7;refine ⟨X7.out,?_⟩;go_frame;refine wpAnyH_takeL (i:=24) (v:=v7) rfl (by kernel_rfl) (by kernel_rfl) (by kernel_rfl) (fun _ _ _ h=>h) (yieldsIf_assign rfl _ rfl rfl) X7.out ?_;go_frame;refine wpAnyH_done (by kernel_rfl) ?_ _;go_wp2_with fail;go_roundw
     case rel=>exact ⟨i+1,l1++[Ent.mk ⟨#[x1,x2]⟩ ⟨#[x3]⟩ T1 0],T1,by omega,by rw [List.length_append,HL1.out];rfl,rfl,by go_num,HKL.out T1,(fun h=>by omega),entsV_snoc HO7.out,X7.out⟩
     case measure=>simp [intOf] <;> omega
  ·obtain rfl:i=n:=by omega
   obtain ⟨lv,rfl⟩:∃ x,x=u7:=⟨_,rfl⟩;obtain ⟨w1,rfl⟩:∃ x,x=wr:=⟨_,rfl⟩;have hri:=keepL_rise hkl (by omega);have HRi:=lh hri
   have hsl:(lv=.slice none 0 0/\l1=[])\/EntsSl w1 lv l1:=by
    by_cases h0:i=0
    ·exact .inl ⟨hl0 h0,List.length_eq_zero_iff.1 (hl1.trans h0)⟩
    ·exact .inr (row_ents ho hl1.symm (row_nonil ho (by omega))).1
   have hps:∀ x∈l1,x.path.size<=100000:=fun x hx=>by
    obtain ⟨j,hj⟩:=List.getElem?_of_mem hx;rw [(hkl j x hj).2]
    decide
   have HG1:=lh (HGo.out w1 lv l1 hsl hri (by omega) hps);have hls:=row_cells ho;obtain ⟨ad,cap,rfl,hc1,hc2,_,hat⟩:=hls
   have HLt:=lh (fun (k:Nat) (x:Ent) (hx:l1[k]?=some x)=>(by
    obtain ⟨g,e1,_,e2,_⟩:=hat (k*4+0) _ (ents_get hx (by decide):_=(entV x)[0]?);refine ⟨g,e1,e2,fun j u hj=>?_⟩;have hj4:j<4:=(List.getElem?_eq_some_iff.1 hj).1;obtain ⟨g',e1',_,_,e3⟩:=hat (k*4+j) u ((ents_get hx hj4).trans hj);rw [e1] at e1'
    cases e1'
    exact e3:∃ g,ad=some ⟨g,0,none⟩/\g<w1.heap.size/\w1.rangeAt g (k*4) (entV x)))
   have HLp:=lh (fun (L:List Ent) (hL:L.Sublist l1) (x:Ent) (hx:x∈L)=>hps x (hL.subset hx));have HB1:=lh ((hx.block (ltB HB.out)).trans HB.out);have hn60:i<=60:=h60;clear hsl hps hat hkl hl0 ho hx hri HV HO;go_wp2_with (refine wpList_load_row rfl 89 (.tmp 3) rfl w.heap.size rfl _ pc (0,0) _ HB1.out underlying89 rfl HI.out ?_;go_frame);refine HG1.out.mono ?_;rintro e w2 ⟨ov,rfl,h2⟩;obtain ⟨ho2,hx2⟩:=h2.out;have HOut:=lh ho2;have X12:=lh hx2;obtain ⟨hr1,hr2,hr3⟩:=outY_rest (p:=p) (now:=now) HRi.out;have HR1:=lh hr1;have HR2:=lh hr2;have HR3:=lh hr3;have HOl:=lh (outY_len p now l1);clear h2 ho2 hx2 hr1 hr2 hr3 HG1;have HGn:=lh (fun w' (y:Ext w2 w') s=>gone19 (HOut.out.ext y) (Nat.le_trans HOl.out (by omega)) s)
   have HOV:=lh (show ∃ oa oc,ov=.slice oa (outY p now l1).length oc from by
    rcases HOut.out with ⟨rfl,h0⟩ | ⟨g,cap,rfl,_⟩
    ·have:outY p now l1=[]:=by simpa using h0
     rw [this];exact ⟨none,0,rfl⟩
    ·rw [List.length_map]
     exact ⟨_,_,rfl⟩)
   generalize hout:outY p now l1=out at *;obtain ⟨oa,oc,rfl⟩:=HOV.out;have XA2:=lh (HXX.out.trans X12.out);clear hout HOV;go_wp2_with fail;go_loopw [11,12] (fun fv jv wr=>Hid (∃ (j:Nat) (L:List Ent),j<=i/\jv=.int .i64 j/\L=(l1.take j).filter (fun x=>!inN x.name out)/\(L=[]->fv=.slice none 0 0)/\wr.ownsRow w2.heap.size 93 4 fv L.length (entsV L)/\Ext w2 wr)) (fun _ jv _=>i - (intOf jv).toNat)
   case atStart=>exact ⟨0,[],Nat.zero_le _,rfl,rfl,fun _=>rfl,World.ownsRow_nil _ _ _ _,Ext.refl _⟩
   case round =>
    obtain ⟨j,L,hj,rfl,hL,hL0,hoL,hxL⟩:=hrel.out;clear hrel;obtain ⟨fv,rfl⟩:∃ x,x=u11:=⟨_,rfl⟩;have HOL:=lh hoL;have HXL:=lh hxL;by_cases hlt2:j<i
    ·obtain ⟨x,hxj⟩:∃ x,l1[j]?=some x:=⟨_,List.getElem?_eq_getElem (by have:=HL1.out;omega)⟩;obtain ⟨g,rfl,hg1,hra⟩:=HLt.out j x hxj;have XL1:=lh (X12.out.trans hxL);have hra2:wr.rangeAt g (j*4) (entV x):=fun q u hq=>((XL1.out.cell hg1).trans (hra q u hq));have HRA:=lh hra2;have f1:wr.cell? ⟨g,j*4,none⟩=some (.string x.name):=hra2 0 _ rfl;have HGj:=lh (HGn.out wr hxL x.name);have HT:=lh (show l1.take (j+1)=l1.take j++[x] from by rw [List.take_add_one,hxj];rfl);have HLs:=lh (show L.length<=60 from by rw [hL];exact Nat.le_trans (List.length_filter_le _ _) (by rw [List.length_take];omega));have HL:=lh hL;have HL0:=lh hL0;clear hxj hra hra2 hL hL0 hoL hxL
     cases hin:inN x.name out with
     | true =>
      rw [hin] at HGj;have HF:=lh (show L=(l1.take (j+1)).filter (fun x=>!inN x.name out) from by rw [HT.out,List.filter_append,<-HL.out];simp [hin]);clear hin;go_wp2_with fail;refine HGj.out.mono ?_;rintro e w5 ⟨rfl,rfl⟩;go_wp2;go_roundw
      case rel=>exact ⟨j+1,L,by omega,by go_num,HF.out,HL0.out,HOL.out,HXL.out⟩
      case measure=>simp [intOf] <;> omega
     | false =>
      rw [hin] at HGj;have HF:=lh (show L++[x]=(l1.take (j+1)).filter (fun x=>!inN x.name out) from by rw [HT.out,List.filter_append,<-HL.out];simp [hin]);have Hown:=lh (owns_ext HOL.out ((Ext.refl wr).alloc (.cells (entV x).toArray 93 (0,0))));have Bn:=lh (block_alloc_new wr (.cells (entV x).toArray 93 (0,0)));have Xn:=lh (HXL.out.alloc (.cells (entV x).toArray 93 (0,0)));clear hin;go_wp2_with fail;refine HGj.out.mono ?_;rintro e w5 ⟨rfl,rfl⟩
      go_wp2_with (first
       | (refine wpList_load_mid rfl 93 _ rfl g (j*4) rfl (entV x) _ HRA.out underlying93 rfl (by kernel_rfl) ?_;go_frame)
       | (refine wpList_buildOne elEnt (by decide) rfl _ rfl (entV x).toArray rfl rfl ?_;go_frame)
       | (at_builtin;refine append_kw elEnt w2.heap.size fv L.length (entsV L) Hown.out wr.heap.size (entV x) rfl (.tmp 79) (.tmp 84) rfl rfl rfl rfl (fun j u hj=>(cellB Bn.out).trans (by simpa using hj)) (by simp [Value.oneCell',entV]) (by have:=HLs.out;omega) Xn.out.size ?_;intro v7 w7 ho7 hg7 hi7 hv7;have HO7:=lh ho7;have HG7:=lh hg7;clear ho7 hg7 hi7 hv7;go_frame))
      have X7:=lh (ext_own Xn.out (Nat.le_refl _) Hown.out HG7.out);go_roundw
      case rel=>exact ⟨j+1,L++[x],by omega,by go_num,HF.out,fun h=>absurd h (by simp),by rw [List.length_append];exact entsV_snoc HO7.out,X7.out⟩
      case measure=>simp [intOf] <;> omega
    ·obtain rfl:j=i:=by omega
     obtain ⟨w3,rfl⟩:∃ x,x=wr:=⟨_,rfl⟩;have hLf:L=l1.filter (fun x=>!inN x.name out):=by rw [hL,<-HL1.out,List.take_length]
     have X3:=lh (XA2.out.trans hxL);have HSum:=lh (show L.length+out.length=j from by rw [hLf,<-HL1.out];exact HR1.out);have HNil:=lh (show outY p now L=[] from by rw [hLf];exact HR2.out);have HRL:=lh (show Rise L from by rw [hLf];exact HRi.out.filter _);have HLps:=lh (HLp.out L (by rw [hLf];exact List.filter_sublist));have hlsL:=row_cells hoL;obtain ⟨fa,fc,rfl,hf1,hf2,_,_⟩:=hlsL
     have HFs:=lh (show ∀ w',Ext w3 w'->(Value.slice fa L.length fc=.slice none 0 0/\L=[])\/EntsSl w' (.slice fa L.length fc) L from fun w' y=>by
      by_cases h0:L=[]
      ·exact .inl ⟨hL0 h0,h0⟩
      ·exact .inr ((row_ents hoL rfl (row_nonil hoL (List.length_pos_iff.2 h0))).1.ext y))
     have HPz:=lh (fun w' (y:Ext w3 w')=>(((X12.out.trans hxL).trans y).block (ltB HB1.out)).trans HB1.out)
     have HLc:=lh (fun (k:Nat) (x:Ent) (hx:l1[k]?=some x)=>(by
      obtain ⟨g,e1,e2,e3⟩:=HLt.out k x hx
      exact ⟨g,e1,fun w' y q u hq=>((((X12.out.trans hxL).trans y).cell e2).trans (e3 q u hq))⟩:∃ g,ad=some ⟨g,0,none⟩/\∀ w',Ext w3 w'->w'.rangeAt g (k*4) (entV x)))
     have HGz:=lh (fun w' (y:Ext w3 w') s=>HGn.out w' (hxL.trans y) s);have hx23:=hxL;clear hLf hL hL0 hoL hxL HOL HXL HLt HGn HR1 HR2 HLp hx23;go_wp2_with fail;go_loopw [13] (fun iv wr=>Hid (∃ a:Nat,a<=j/\iv=.int .i64 a/\Ext w3 wr)) (fun iv _=>j - (intOf iv).toNat)
     case atStart=>exact ⟨0,Nat.zero_le _,rfl,Ext.refl _⟩
     case round =>
      obtain ⟨a,ha,rfl,hxa⟩:=hrel.out;clear hrel;have HXa:=lh hxa;by_cases hlt3:a<j
      ·obtain ⟨x,hxk⟩:∃ x,l1[a]?=some x:=⟨_,List.getElem?_eq_getElem (by have:=HL1.out;omega)⟩;obtain ⟨g,rfl,hra⟩:=HLc.out a x hxk;have HXK:=lh hxk;have HRA:=lh hra;obtain ⟨w4,rfl⟩:∃ y,y=wr:=⟨_,rfl⟩;have f1:w4.cell? ⟨g,a*4+2,none⟩=some (.int .i64 x.time):=hra w4 hxa 2 _ rfl;obtain ⟨B,hB⟩:∃ B,B=ageI x.time now:=⟨_,rfl⟩;have HBe:=lh hB;have hag:=lh (fun w'=>ago19 now x.time w');rw [<-hB] at hag;obtain ⟨bb0,bb1⟩:=ageI_bd x.time now;rw [<-hB] at bb0 bb1;clear hxk hra hxa hB;go_wp2_with (refine (hag.out _).mono ?_;rintro e w5 ⟨rfl,rfl⟩);go_loopw [14,15,17] (fun nv ov kv wr=>Hid (∃ (k:Nat) (b1 b2:Bool),k<=j/\nv=.bool b1/\ov=.bool b2/\kv=.int .i64 k/\(b1=true->∀ t y,t<k->l1[t]?=some y->y.path=x.path->t<=a)/\(b2=true->∀ t y,t<k->l1[t]?=some y->y.path=x.path->a<=t\/bkE now y≠bkE now x\/agedY p now y=true)/\Ext w3 wr)) (fun _ _ kv _=>j - (intOf kv).toNat)
       case atStart=>exact ⟨0,true,true,Nat.zero_le _,rfl,rfl,rfl,fun _ t y ht=>absurd ht (Nat.not_lt_zero _),fun _ t y ht=>absurd ht (Nat.not_lt_zero _),HXa.out⟩
       case round =>
        obtain ⟨k,b1,b2,hk,rfl,rfl,rfl,hb1,hb2,hxk⟩:=hrel.out;clear hrel f1;have HB1':=lh hb1;have HB2':=lh hb2;have HXk:=lh hxk;clear hb1 hb2 hxk;by_cases hlt4:k<j
        ·obtain ⟨y,hyk⟩:∃ y,l1[k]?=some y:=⟨_,List.getElem?_eq_getElem (by have:=HL1.out;omega)⟩;obtain ⟨g',e1,hrb⟩:=HLc.out k y hyk
         cases e1
         have HYK:=lh hyk;have HRB:=lh hrb;have k1:∀ z:After wr,z.v.cell? ⟨g,k*4+1,none⟩=some (.string y.path):=fun z=>hrb z.v (HXk.out.trans z.x) 1 _ rfl;have k2:∀ z:After wr,z.v.cell? ⟨g,a*4+1,none⟩=some (.string x.path):=fun z=>HRA.out z.v (HXk.out.trans z.x) 1 _ rfl;obtain ⟨bp,hbp⟩:∃ bp:Bool,bp=!(y.path.toList==x.path.toList):=⟨_,rfl⟩;have HBQ:=lh hbp;have HBP:=lh (show bp=!decide (y.path=x.path) from by rw [hbp,<-ba_beq]);clear hyk hrb hbp;go_upto_region 25 with (fail)
         go_cut [115] from 105 to 115 (fun sx wx=>sx=.bool bp/\Ext w3 wx)
         case first =>
          refine wp_region_after (by kernel_rfl) (by kernel_rfl) ?_
          iterate 11 go_big_quiet_step (fail)
          refine wpQuiet_nil ?_;rintro _ ⟨z,rfl⟩;have XZ:=lh (HXk.out.trans z.x);clear k1 k2;go_wp2;go_meet
          case rel=>exact ⟨by rw [HBQ.out],XZ.out⟩
         case rest =>
         clear k1 k2 HBQ;obtain ⟨hs,hx5⟩:=hcut;obtain ⟨w5,rfl⟩:∃ x,x=wc:=⟨_,rfl⟩;have HX5:=lh hx5;subst hs;clear hx5
         cases bp with
         | false =>
          have hpp:y.path=x.path:=by
           have:=HBP.out
           simpa using this
          clear HBP;obtain ⟨c1,hc1⟩:∃ c1:Bool,c1=(b1&&decide (k<=a)):=⟨_,rfl⟩;have HC1:=lh (show (c1=true->b1=true/\k<=a)/\True from ⟨fun h=>by rw [hc1,Bool.and_eq_true] at h;exact ⟨h.1,of_decide_eq_true h.2⟩,trivial⟩);go_upto_region 26 with (fail)
          go_cut [14] from 116 to 121 (fun s14 wx=>s14=.bool c1/\wx=w5)
          case first =>
           cases b1 with
           | false =>
            have hc2:c1=false:=hc1;clear hc1;subst hc2;go_wp2;go_meet
            case rel=>exact ⟨rfl,rfl⟩
           | true =>
            by_cases hka:k<=a
            ·have hc2:c1=true:=by rw [hc1,decide_eq_true hka];rfl
             clear hc1;subst hc2;go_wp2;go_meet
             case rel=>exact ⟨rfl,rfl⟩
            ·have hc2:c1=false:=by rw [hc1,decide_eq_false hka];rfl
             clear hc1;subst hc2;go_wp2;go_meet
             case rel=>exact ⟨rfl,rfl⟩
          case rest =>
           obtain ⟨hs14,hwc⟩:=hcut;have hwc':=hwc.symm;subst hs14;clear hwc hc1;subst hwc';obtain ⟨A,hA⟩:∃ A,A=ageI y.time now:=⟨_,rfl⟩;have HA1:=lh (fun w'=>ago19x now y.time w');have HAE:=lh hA;rw [<-hA] at HA1;obtain ⟨aa0,aa1⟩:=ageI_bd y.time now;rw [<-hA] at aa0 aa1;have HK1:=lh (fun w'=>bucket19 A w' aa0 aa1);have HK2:=lh (fun w'=>bucket19 B w' bb0 bb1);have HEq:=lh (fun w'=>eq_bkt (bktI A).1 (bktI A).2 (bktI B).1 (bktI B).2 w');have HAg:=lh (show agedY p now y=(decide (0<p.age)&&decide (p.age<A)) from by unfold agedY;rw [hA])
           have HBn:=lh (show (bkE now y=bkE now x)↔((bktI A).1=(bktI B).1/\(bktI A).2=(bktI B).2) from by
            unfold bkE;rw [<-hA,<-HBe.out]
            exact ⟨fun h=>by rw [h];exact ⟨rfl,rfl⟩,fun h=>Prod.ext h.1 h.2⟩)
           unfold bktC at HK1 HK2;generalize bktI A=KA at *;generalize bktI B=KB at *;have k3:∀ z:After w5,z.v.cell? ⟨g,k*4+2,none⟩=some (.int .i64 y.time):=fun z=>HRB.out z.v (HX5.out.trans z.x) 2 _ rfl;have k4:∀ z:After w5,z.v.cell? ⟨w.heap.size,2,none⟩=some (.int .i64 p.age):=fun z=>(cellB (HPz.out z.v (HX5.out.trans z.x))).trans HP2.out;clear hA
           cases b2 with
           | false =>
            go_upto_region 27 with (fail)
            refine wp_region_after (by kernel_rfl) (by kernel_rfl) ?_
            iterate 37 go_big_quiet_step (fail)
            refine wpQuiet_nil ?_;rintro _ ⟨z,rfl⟩;have XZ:=lh (HX5.out.trans z.x);clear k3 k4;go_wp2_with fail;go_roundw
            case rel=>exact ⟨k+1,c1,false,by omega,rfl,rfl,by go_num,fun h t y' ht hy' he=>by
             by_cases e:t=k
             ·exact e▸(HC1.out.1 h).2
             ·exact HB1'.out (HC1.out.1 h).1 t y' (by omega) hy' he,(fun h=>Bool.noConfusion h),XZ.out⟩
            case measure=>simp [intOf] <;> omega
           | true =>
            by_cases hak:a<=k
            ·have gk:decide ((a:Int)<=(k:Int))=true:=decide_eq_true (by omega);go_upto_region 27 with (fail)
             refine wp_region_after (by kernel_rfl) (by kernel_rfl) ?_
             iterate 37 go_big_quiet_step (fail)
             refine wpQuiet_nil ?_;rintro _ ⟨z,rfl⟩;have XZ:=lh (HX5.out.trans z.x);clear k3 k4;go_wp2_with fail;go_roundw
             case rel=>exact ⟨k+1,c1,true,by omega,rfl,rfl,by go_num,fun h t y' ht hy' he=>by
              by_cases e:t=k
              ·exact e▸(HC1.out.1 h).2
              ·exact HB1'.out (HC1.out.1 h).1 t y' (by omega) hy' he,fun _ t y' ht hy' he=>by
              by_cases e:t=k
              ·exact .inl (by omega)
              ·exact HB2'.out rfl t y' (by omega) hy' he,XZ.out⟩
             case measure=>simp [intOf] <;> omega
            ·have gk:decide ((a:Int)<=(k:Int))=false:=decide_eq_false (by omega);by_cases hbk:KA.1=KB.1/\KA.2=KB.2
             ·rw [decide_eq_true hbk] at HEq;clear hbk;have he1:=HEq.out;by_cases hp0:0<p.age
              ·have gp:decide (0<p.age)=true:=decide_eq_true hp0;by_cases hpa:p.age<A
               ·have gq:decide (p.age<A)=true:=decide_eq_true hpa;have HAt:=lh (HAg.out.trans (by rw [gp,gq];try rfl));go_upto_region 27 with (fail)
                refine wp_region_after (by kernel_rfl) (by kernel_rfl) ?_
                iterate 12 go_big_quiet_step (fail)
                go_big_quiet_step (exact After.of (HA1.out _));go_big_quiet_step (exact After.of (HK1.out _));go_big_quiet_step (fail);go_big_quiet_step (exact After.of (HK2.out _))
                iterate 13 go_big_quiet_step (fail)
                go_big_quiet_step (exact After.of (HA1.out _))
                iterate 7 go_big_quiet_step (fail)
                refine wpQuiet_nil ?_;rintro _ ⟨z,rfl⟩;have XZ:=lh (HX5.out.trans z.x);clear k3 k4;go_wp2_with fail;go_roundw
                case rel=>exact ⟨k+1,c1,true,by omega,rfl,rfl,by go_num,fun h t y' ht hy' he=>by
                 by_cases e:t=k
                 ·exact e▸(HC1.out.1 h).2
                 ·exact HB1'.out (HC1.out.1 h).1 t y' (by omega) hy' he,fun _ t y' ht hy' he=>by
                 by_cases e:t=k
                 ·subst e;rw [HYK.out] at hy';cases hy';exact .inr (.inr HAt.out)
                 ·exact HB2'.out rfl t y' (by omega) hy' he,XZ.out⟩
                case measure=>simp [intOf] <;> omega
               ·have gq:decide (p.age<A)=false:=decide_eq_false hpa;go_upto_region 27 with (fail)
                refine wp_region_after (by kernel_rfl) (by kernel_rfl) ?_
                iterate 12 go_big_quiet_step (fail)
                go_big_quiet_step (exact After.of (HA1.out _));go_big_quiet_step (exact After.of (HK1.out _));go_big_quiet_step (fail);go_big_quiet_step (exact After.of (HK2.out _))
                iterate 13 go_big_quiet_step (fail)
                go_big_quiet_step (exact After.of (HA1.out _))
                iterate 7 go_big_quiet_step (fail)
                refine wpQuiet_nil ?_;rintro _ ⟨z,rfl⟩;have XZ:=lh (HX5.out.trans z.x);clear k3 k4;go_wp2_with fail;go_roundw
                case rel=>exact ⟨k+1,c1,false,by omega,rfl,rfl,by go_num,fun h t y' ht hy' he=>by
                 by_cases e:t=k
                 ·exact e▸(HC1.out.1 h).2
                 ·exact HB1'.out (HC1.out.1 h).1 t y' (by omega) hy' he,(fun h=>Bool.noConfusion h),XZ.out⟩
                case measure=>simp [intOf] <;> omega
              ·have gp:decide (0<p.age)=false:=decide_eq_false hp0;go_upto_region 27 with (fail)
               refine wp_region_after (by kernel_rfl) (by kernel_rfl) ?_
               iterate 12 go_big_quiet_step (fail)
               go_big_quiet_step (exact After.of (HA1.out _));go_big_quiet_step (exact After.of (HK1.out _));go_big_quiet_step (fail);go_big_quiet_step (exact After.of (HK2.out _))
               iterate 13 go_big_quiet_step (fail)
               go_big_quiet_step (exact After.of (HA1.out _))
               iterate 7 go_big_quiet_step (fail)
               refine wpQuiet_nil ?_;rintro _ ⟨z,rfl⟩;have XZ:=lh (HX5.out.trans z.x);clear k3 k4;go_wp2_with fail;go_roundw
               case rel=>exact ⟨k+1,c1,false,by omega,rfl,rfl,by go_num,fun h t y' ht hy' he=>by
                by_cases e:t=k
                ·exact e▸(HC1.out.1 h).2
                ·exact HB1'.out (HC1.out.1 h).1 t y' (by omega) hy' he,(fun h=>Bool.noConfusion h),XZ.out⟩
               case measure=>simp [intOf] <;> omega
             ·rw [decide_eq_false hbk] at HEq;have he1:=HEq.out;have HBt:=lh (show bkE now y≠bkE now x from fun q=>hbk (HBn.out.1 q));go_upto_region 27 with (fail)
              refine wp_region_after (by kernel_rfl) (by kernel_rfl) ?_
              iterate 12 go_big_quiet_step (fail)
              go_big_quiet_step (exact After.of (HA1.out _));go_big_quiet_step (exact After.of (HK1.out _));go_big_quiet_step (fail);go_big_quiet_step (exact After.of (HK2.out _))
              iterate 13 go_big_quiet_step (fail)
              go_big_quiet_step (exact After.of (HA1.out _))
              iterate 7 go_big_quiet_step (fail)
              refine wpQuiet_nil ?_;rintro _ ⟨z,rfl⟩;have XZ:=lh (HX5.out.trans z.x);clear k3 k4;go_wp2_with fail;go_roundw
              case rel=>exact ⟨k+1,c1,true,by omega,rfl,rfl,by go_num,fun h t y' ht hy' he=>by
               by_cases e:t=k
               ·exact e▸(HC1.out.1 h).2
               ·exact HB1'.out (HC1.out.1 h).1 t y' (by omega) hy' he,fun _ t y' ht hy' he=>by
               by_cases e:t=k
               ·subst e;rw [HYK.out] at hy';cases hy';exact .inr (.inl HBt.out)
               ·exact HB2'.out rfl t y' (by omega) hy' he,XZ.out⟩
              case measure=>simp [intOf] <;> omega
         | true =>
          have HPP:=lh (show ¬ y.path=x.path from by
           have:=HBP.out
           simpa using this)
          clear HBP;go_wp2_with fail;go_roundw
          case rel=>exact ⟨k+1,b1,b2,by omega,rfl,rfl,by go_num,fun h t y' ht hy' he=>by
           by_cases e:t=k
           ·subst e;rw [HYK.out] at hy'
            cases hy'
            exact absurd he HPP.out
           ·exact HB1'.out h t y' (by omega) hy' he,fun h t y' ht hy' he=>by
           by_cases e:t=k
           ·subst e;rw [HYK.out] at hy'
            cases hy'
            exact absurd he HPP.out
           ·exact HB2'.out h t y' (by omega) hy' he,HX5.out⟩
          case measure=>simp [intOf] <;> omega
        ·obtain rfl:k=j:=by omega
         obtain ⟨w6,rfl⟩:∃ x,x=wr:=⟨_,rfl⟩;have m1:w6.cell? ⟨w.heap.size,2,none⟩=some (.int .i64 p.age):=(cellB (HPz.out w6 HXk.out)).trans HP2.out;have m2:w6.cell? ⟨w.heap.size,0,none⟩=some (.int .i64 p.kind):=(cellB (HPz.out w6 HXk.out)).trans HP0.out;have m3:w6.cell? ⟨g,a*4,none⟩=some (.string x.name):=HRA.out w6 HXk.out 0 _ rfl;have HGa:=lh (HGz.out w6 HXk.out x.name);obtain ⟨yb,hyb⟩:∃ yb:Bool,yb=(decide (p.age=0)||decide (B<=p.age)):=⟨_,rfl⟩;have HYb:=lh hyb;clear hyb;go_upto_region 28 with (fail)
         go_cut [18] from 158 to 166 (fun sx wx=>sx=.bool yb/\wx=w6)
         case first =>
          by_cases hp0:p.age=0
          ·have g0:(p.age==0)=true:=beq_iff_eq.2 hp0;have e0:yb=true:=by rw [HYb.out,decide_eq_true hp0];rfl
           subst e0;clear hp0;go_wp2;go_meet
           case rel=>exact ⟨rfl,rfl⟩
          ·have g0:(p.age==0)=false:=beq_eq_false_iff_ne.2 hp0;by_cases hbp:B<=p.age
           ·have g2:decide (B<=p.age)=true:=decide_eq_true hbp;have e0:yb=true:=by rw [HYb.out,g2,Bool.or_true]
            subst e0;clear hp0 hbp;go_wp2;go_meet
            case rel=>exact ⟨rfl,rfl⟩
           ·have g2:decide (B<=p.age)=false:=decide_eq_false hbp;have e0:yb=false:=by rw [HYb.out,g2,decide_eq_false hp0];rfl
            subst e0;clear hp0 hbp;go_wp2;go_meet
            case rel=>exact ⟨rfl,rfl⟩
         case rest =>
         obtain ⟨hs,hw6⟩:=hcut;have hw6':=hw6.symm;subst hs;clear hw6;subst hw6'
         cases hin:inN x.name out with
         | false =>
          rw [hin] at HGa;clear hin;go_wp2_with fail;refine HGa.out.mono ?_;rintro e w7 ⟨rfl,rfl⟩;go_wp2;go_roundw
          case rel=>exact ⟨a+1,by omega,by go_num,HXk.out⟩
          case measure=>simp [intOf] <;> omega
         | true =>
          rw [hin] at HGa;obtain ⟨_,hgo⟩:=HR3.out a x HXK.out hin;obtain ⟨n1,n2⟩:=keep_contra HL1.out hgo;have e1:=n1 b1 HB1'.out;subst e1;have N2:=lh n2;clear hin hgo n1 n2;by_cases hk3:p.kind=3
          ·have g3:(p.kind==3)=true:=beq_iff_eq.2 hk3;have n3:=N2.out hk3 b2 HB2'.out
           cases b2 with
           | false =>
            clear hk3 n3;go_wp2_with fail;refine HGa.out.mono ?_;rintro e w7 ⟨rfl,rfl⟩;go_wp2;go_roundw
            case rel=>exact ⟨a+1,by omega,by go_num,HXk.out⟩
            case measure=>simp [intOf] <;> omega
           | true =>
            have e2:yb=false:=by
             have h3:agedY p now x=true:=n3.resolve_left (by simp);unfold agedY at h3;rw [<-HBe.out,Bool.and_eq_true,decide_eq_true_eq,decide_eq_true_eq] at h3;rw [HYb.out,decide_eq_false (by omega),decide_eq_false (by omega)];rfl
            subst e2;clear hk3 n3;go_wp2_with fail;refine HGa.out.mono ?_;rintro e w7 ⟨rfl,rfl⟩;go_wp2;go_roundw
            case rel=>exact ⟨a+1,by omega,by go_num,HXk.out⟩
            case measure=>simp [intOf] <;> omega
          ·have g3:(p.kind==3)=false:=beq_eq_false_iff_ne.2 hk3;clear hk3;go_wp2_with fail;refine HGa.out.mono ?_;rintro e w7 ⟨rfl,rfl⟩;go_wp2;go_roundw
           case rel=>exact ⟨a+1,by omega,by go_num,HXk.out⟩
           case measure=>simp [intOf] <;> omega
      ·obtain rfl:a=j:=by omega
       obtain ⟨w6,rfl⟩:∃ x,x=wr:=⟨_,rfl⟩;have HG6:=lh (HGo.out w6 _ L (HFs.out w6 hxa) HRL.out (by have:=HSum.out;omega) HLps.out);rw [HNil.out] at HG6;have HPB:=lh (HPz.out w6 hxa);have hs1:=HSum.out;have q1:IntKind.i64.wrap ((L.length:Int)+(out.length:Int))=(a:Int):=by rw [IntWalk.i64_in _ (by omega)];omega
       have X6:=lh (X3.out.trans hxa);have XW:=lh (X0.out.trans X6.out);clear hs1 hxa;go_wp2_with (refine wpList_load_row_g (by simp [Region.wanted,yielded]) 89 (.tmp 3) rfl w.heap.size rfl _ pc (0,0) _ HPB.out underlying89 rfl HI.out ?_;go_frame);refine HG6.out.mono ?_;rintro e w7 ⟨u7,rfl,h7⟩;obtain ⟨o7,x7⟩:=h7.out;obtain ⟨a7,c7,rfl⟩:=cells_nil o7;have XW7:=lh (XW.out.trans x7);clear h7 o7 x7;go_wp2_with fail;refine (HAw.out _ XW7.out).mono ?_;rintro e w8 ⟨rfl,x8⟩;have X8:=lh (XW7.out.trans x8);go_wp2;go_ret;exact ⟨rfl,X8.out⟩
end
end Go.Proofs.YtodickpibbbiiaaGreatDoor
