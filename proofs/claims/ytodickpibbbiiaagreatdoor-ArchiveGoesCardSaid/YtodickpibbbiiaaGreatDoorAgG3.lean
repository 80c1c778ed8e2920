import Derived.Test.YtodickpibbbiiaaGreatDoorAgG2
import Derived.Deep.CutRange
import Derived.Lib.SliceRun
open Go.Proofs.Tryz
namespace Go.Proofs.YtodickpibbbiiaaGreatDoor
section
open Go.RowKit
attribute [local go_sem] Oper.semAt_some
set_option maxRecDepth 100000 in
set_option maxHeartbeats 16000000 in
theorem asymM_any {w:World} {g cap n a m b:Nat} {l:List Ent} (h:RowE w g l) (hn:n=l.length) (hl:l.length<=100000) (hcap:n<=cap) (ham:a+1<m) (hmb:m+1<b) (hb:b<=l.length) (hs1:SoOn keyE l a m) (hs2:SoOn keyE l m b)
  (IH:∀ a' m' b' w1 (l1:List Ent),a'<m'->m'<b'->b' - a'<b - a->b'<=n->RowE w1 g l1->n=l1.length->SoOn keyE l1 a' m'->SoOn keyE l1 m' b'->Calls prog 228 #[.slice (some ⟨g,0,none⟩) n cap,.int .i64 a',.int .i64 m',.int .i64 b',.func (.func 96) #[] #[]] w1 fun e w'=>e=.returned (.tuple #[])/\Hid (∃ l',Mg keyE l1 l' a' b'/\RowE w' g l'/\Touch g w1 w')) :
  Calls prog 228 #[.slice (some ⟨g,0,none⟩) n cap,.int .i64 a,.int .i64 m,.int .i64 b,.func (.func 96) #[] #[]] w fun e w'=>e=.returned (.tuple #[])/\Hid (∃ l',Mg keyE l l' a b/\RowE w' g l'/\Touch g w w'):=by
 have HR:=lh h;have HN:=lh hn;have HS1:=lh hs1;have HS2:=lh hs2;have HIH:=lh IH;have HRot:=lh (fun w1 (l1:List Ent) x y z (h1:RowE w1 g l1) (h2:n=l1.length) (h3:l1.length<=100000) (h4:x<y) (h5:y<z) (h6:z<=l1.length)=>arot_any h1 h2 h3 hcap h4 h5 h6 (.func (.func 96) #[] #[]));rw [<-hn] at hl hb;have q0:IntKind.i64.wrap ((m:Int) - (a:Int))=((m - a:Nat):Int):=by rw [IntWalk.i64_in _ (by omega)];omega
 have g0:(((m - a:Nat):Int)==1)=false:=by rw [beq_eq_false_iff_ne];omega
 have q1:IntKind.i64.wrap ((b:Int) - (m:Int))=((b - m:Nat):Int):=by rw [IntWalk.i64_in _ (by omega)];omega
 have g1:(((b - m:Nat):Int)==1)=false:=by rw [beq_eq_false_iff_ne];omega
 obtain ⟨md,hmd⟩:∃ md,md=(a+b) / 2:=⟨_,rfl⟩;obtain ⟨N,hN⟩:∃ N,N=md+m:=⟨_,rfl⟩;obtain ⟨p,hp⟩:∃ p,p=N - 1:=⟨_,rfl⟩;obtain ⟨nb,hnb⟩:∃ nb,nb=N - b:=⟨_,rfl⟩;have q6:IntKind.i64.wrap ((a:Int)+(b:Int))=((a+b:Nat):Int):=by rw [IntWalk.i64_in _ (by omega)];omega
 have q7:((a:Int)+(b:Int)) / 2=(md:Int):=by rw [hmd];omega
 have q8:IntKind.i64.wrap ((md:Int)+(m:Int))=(N:Int):=by rw [IntWalk.i64_in _ (by omega)];omega
 have q9:IntKind.i64.wrap ((N:Int) - 1)=(p:Int):=by rw [IntWalk.i64_in _ (by omega)];omega
 obtain ⟨s0,r0,hsr⟩:∃ s0 r0:Nat,(md<m/\s0=nb/\r0=md)\/(m<=md/\s0=a/\r0=m):=by
  by_cases hc:md<m
  ·exact ⟨nb,md,.inl ⟨hc,rfl,rfl⟩⟩
  ·exact ⟨a,m,.inr ⟨by omega,rfl,rfl⟩⟩
 have f1:a<md:=by omega
 have f2:md<b:=by omega
 have f3:s0<=r0:=by omega
 have f4:r0<=md:=by omega
 have f5:r0<=m:=by omega
 have f6:a<=s0:=by omega
 have f7:N<=s0+b:=by omega
 have HE0:=lh (show s0=a\/N=s0+b by omega);have HE1:=lh (show r0=md\/r0=m by omega);have HNN:=lh hN;have HPP:=lh (show p+1=N by omega);have HSR:=lh hsr;have HNB:=lh (show md<m->nb+b=N by omega);clear h hn hs1 hs2 IH hmd hN hp hsr hnb;go_enter func228,ntmps228;go_upto_if 140 with (fail)
 go_cut [20,21] from 138 to 146 (fun s20 s21 wx=>s20=.int .i64 s0/\s21=.int .i64 r0/\wx=w)
 case first =>
  by_cases hc:md<m
  ·have e1:s0=nb:=by rcases HSR.out with ⟨_,e,_⟩ | ⟨e,_⟩;exact e;omega
   have e2:r0=md:=by rcases HSR.out with ⟨_,_,e⟩ | ⟨e,_⟩;exact e;omega
   have q10:IntKind.i64.wrap ((N:Int) - (b:Int))=(nb:Int):=by have:=HNB.out hc;rw [IntWalk.i64_in _ (by omega)];omega
   go_wp2;go_meet
   case rel=>exact ⟨by rw [e1],by rw [e2],rfl⟩
  ·have e1:s0=a:=by rcases HSR.out with ⟨e,_⟩ | ⟨_,e,_⟩;omega;exact e
   have e2:r0=m:=by rcases HSR.out with ⟨e,_⟩ | ⟨_,_,e⟩;omega;exact e
   go_wp2;go_meet
   case rel=>exact ⟨by rw [e1],by rw [e2],rfl⟩
 case rest =>
  obtain ⟨rfl,rfl,hw⟩:=hcut;have hw':=hw.symm;clear hw;subst hw';clear HSR HNB;have f8:md<=N:=by have:=HNN.out;omega
  have f9:s0<=N:=by omega
  go_wp2_with fail;go_loopw [20,21] (fun iv jv wr=>Hid (∃ i r:Nat,s0<=i/\i<=r/\r<=r0/\iv=.int .i64 i/\jv=.int .i64 r/\(∀ t,s0<=t->t<i->NG keyE l t (p - t))/\(∀ t,r<=t->t<r0->∀ x y,l[t]?=some x->l[p - t]?=some y->keyE y<keyE x)/\Ext w wr)) (fun iv jv _=>(intOf jv).toNat - (intOf iv).toNat)
  case atStart=>exact ⟨s0,r0,Nat.le_refl _,f3,Nat.le_refl _,rfl,rfl,fun t h1 h2=>by omega,fun t h1 h2=>by omega,Ext.refl _⟩
  case round =>
   obtain ⟨i,r,hi,hir,hr,rfl,rfl,hlo,hhi,hx⟩:=hrel.out;clear hrel;have HLo:=lh hlo;have HHi:=lh hhi;have HX:=lh hx;clear hlo hhi hx;by_cases hlt:i<r
   ·obtain ⟨c,hc⟩:∃ c,c=(i+r) / 2:=⟨_,rfl⟩;have hc1:i<=c:=by omega
    have hc2:c<r:=by omega
    obtain ⟨e,he⟩:∃ e,e=p - c:=⟨_,rfl⟩;have he1:m<=e:=by have:=HNN.out;have:=HPP.out;omega
    have he2:e<b:=by have:=HNN.out;have:=HPP.out;omega
    have hen:e<n:=by omega
    have hcn:c<n:=by omega
    have q2:IntKind.i64.wrap ((i:Int)+(r:Int))=((i+r:Nat):Int):=by rw [IntWalk.i64_in _ (by omega)];omega
    have q3:((i:Int)+(r:Int)) / 2=(c:Int):=by rw [hc];omega
    have q5:IntKind.i64.wrap ((p:Int) - (c:Int))=(e:Int):=by rw [IntWalk.i64_in _ (by omega)];omega
    obtain ⟨x,hxc⟩:∃ x,l[c]?=some x:=⟨_,List.getElem?_eq_getElem (by have:=HN.out;omega)⟩;obtain ⟨y,hye⟩:∃ y,l[e]?=some y:=⟨_,List.getElem?_eq_getElem (by have:=HN.out;omega)⟩;have HXC:=lh hxc;have HYE:=lh hye;have HEE:=lh he;have r1:=lh (fun (z:After wr)=>(HR.out.ext (HX.out.trans z.x)).ent hxc:∀ z:After wr,z.v.rangeAt g (c*4) (entV x));have r2:=lh (fun (z:After wr)=>(HR.out.ext (HX.out.trans z.x)).ent hye:∀ z:After wr,z.v.rangeAt g (e*4) (entV y));have HC:=lh (fun w1=>acmpE_any y x w1);unfold entA at HC;clear hxc hye hc he;by_cases hk:keyE y<keyE x
    ·rw [cmpI_lt hk] at HC;have HK:=lh hk;clear hk;go_upto_region 35 with (fail)
     refine wp_region_after (by kernel_rfl) (by kernel_rfl) ?_
     iterate 6 go_big_quiet_step (fail)
     refine wpQuiet_load_ag rfl _ _ rfl g (e*4) rfl (entV y).toArray _ (by rintro _ ⟨z,rfl⟩;exact r2.out z) underlying93 rfl (by kernel_rfl) ?_;go_frame
     iterate 3 go_big_quiet_step (fail)
     refine wpQuiet_load_ag rfl _ _ rfl g (c*4) rfl (entV x).toArray _ (by rintro _ ⟨z,rfl⟩;exact r1.out z) underlying93 rfl (by kernel_rfl) ?_;go_frame
     iterate 3 go_big_quiet_step (exact After.of (HC.out _))
     refine wpQuiet_nil ?_;rintro _ ⟨z,rfl⟩;have XZ:=lh (HX.out.trans z.x);clear r1 r2 HC;go_wp2;go_roundw
     case rel=>exact ⟨i,c,hi,hc1,by omega,rfl,rfl,HLo.out,fun t t1 t2 u v hu hv=>by
      by_cases et:t=c
      ·subst et;rw [HXC.out] at hu;rw [<-HEE.out,HYE.out] at hv
       cases hu
       cases hv
       exact HK.out
      ·have h1:=HS1.out c t (by omega) (by omega) (by omega) x u HXC.out hu;have h2:=HS2.out (p - t) e (by have:=HNN.out;have:=HPP.out;omega) (by have:=HEE.out;have:=HPP.out;omega) he2 v y hv HYE.out
       exact kl_lt_le (kl_le_lt h2 HK.out) h1,XZ.out⟩
     case measure=>simp [intOf] <;> omega
    ·have hge:=cmpI_ge hk;have HK:=lh hk;generalize cmpI (keyE y) (keyE x)=d at *;have gd:decide (d<0)=false:=decide_eq_false (by omega);clear hk;go_upto_region 35 with (fail)
     refine wp_region_after (by kernel_rfl) (by kernel_rfl) ?_
     iterate 6 go_big_quiet_step (fail)
     refine wpQuiet_load_ag rfl _ _ rfl g (e*4) rfl (entV y).toArray _ (by rintro _ ⟨z,rfl⟩;exact r2.out z) underlying93 rfl (by kernel_rfl) ?_;go_frame
     iterate 3 go_big_quiet_step (fail)
     refine wpQuiet_load_ag rfl _ _ rfl g (c*4) rfl (entV x).toArray _ (by rintro _ ⟨z,rfl⟩;exact r1.out z) underlying93 rfl (by kernel_rfl) ?_;go_frame
     iterate 3 go_big_quiet_step (exact After.of (HC.out _))
     refine wpQuiet_nil ?_;rintro _ ⟨z,rfl⟩;have XZ:=lh (HX.out.trans z.x);clear r1 r2 HC;go_wp2;go_roundw
     case rel=>exact ⟨c+1,r,by omega,by omega,hr,by go_num,rfl,fun t t1 t2 u v hu hv=>by
      by_cases et:t=c
      ·subst et;rw [HXC.out] at hu;rw [<-HEE.out,HYE.out] at hv
       cases hu
       cases hv
       exact HK.out
      ·have h1:=HS1.out t c (by omega) (by omega) (by omega) u x hu HXC.out;have h2:=HS2.out e (p - t) he1 (by have:=HEE.out;have:=HPP.out;omega) (by have:=HPP.out;omega) y v HYE.out hv
       exact kl_le (kl_le h1 HK.out) h2,HHi.out,XZ.out⟩
     case measure=>simp [intOf] <;> omega
   ·obtain rfl:i=r:=by omega
    obtain ⟨E,hE⟩:∃ E,E=N - i:=⟨_,rfl⟩;have q10:IntKind.i64.wrap ((N:Int) - (i:Int))=(E:Int):=by rw [IntWalk.i64_in _ (by omega)];omega
    have e1:i<=m:=by omega
    have e2:m<=E:=by have:=HNN.out;omega
    have e3:E<=b:=by omega
    have e4:i+(E - m)=md:=by have:=HNN.out;omega
    have e5:a<=i:=by omega
    have e6:i<=md:=by omega
    have e7:md<=E:=by have:=HNN.out;omega
    have ha':i=a\/i=s0\/s0<i:=by omega
    have HJ:=lh (fun l2 l3 (m2:Mg keyE (plF l (rotF i m E)) l2 a md) (m3:Mg keyE l2 l3 md b)=>Mg.join (key:=keyE) (l:=l) (a:=a) (s:=i) (m:=m) (e:=E) (b:=b) e5 e1 e2 e3 (by have:=HN.out;omega) HS1.out HS2.out (fun h1 h2 x y hx hy=>by
     have hlt:i<r0:=by
      rcases HE1.out with e | e
      ·by_cases q:i<r0
       ·exact q
       ·have:=HNN.out;omega
      ·omega
     refine HHi.out i (Nat.le_refl _) hlt x y hx ?_;rw [show p - i=E - 1 from by have:=HPP.out;omega];exact hy) (fun h1 h2=>by
     have hlt:s0<i:=by
      rcases HE0.out with e | e
      ·omega
      ·by_cases q:s0<i
       ·exact q
       ·omega
     have:=HLo.out (i - 1) (by omega) (by omega);rw [show p - (i - 1)=E from by have:=HPP.out;omega] at this
     exact this) (by rw [e4];exact m2) (by rw [e4];exact m3))
    have hrr:=rot_runs (key:=keyE) (l:=l) (a:=a) (s:=i) (m:=m) (e:=E) (b:=b) e5 e1 e2 e3 (by have:=HN.out;omega) HS1.out HS2.out;rw [e4] at hrr;have HRR:=lh hrr;have HLn:=lh ((plF_len (l:=l) fun t ht=>rotF_lt (a:=i) (m:=m) (b:=E) e1 e2 (by have:=HN.out;omega) ht).trans HN.out.symm);have HC1:=lh (fun (c1:i<m) (c2:m<E)=>HRot.out wr l i m E (HR.out.ext HX.out) HN.out (by have:=HN.out;omega) c1 c2 (by have:=HN.out;omega));have HNo:=lh (fun (c1:¬ (i<m/\m<E))=>rot_none (l:=l) (a:=i) (m:=m) (b:=E) (by omega) e1 e2);have HRx:=lh (HR.out.ext HX.out);have HT0:=lh (show Touch g w wr from Touch.of HX.out);clear hE hrr HR HX HLo HHi HS1 HS2 HE0 HE1 ha' HRot;generalize plF l (rotF i m E)=l1 at *;have hwr:RowE wr g l/\Touch g w wr:=⟨HRx.out,HT0.out⟩;obtain ⟨v0,hv0⟩:∃ v0,v0=wr:=⟨_,rfl⟩;rw [<-hv0] at HC1 HRx HT0 ⊢;clear hwr hv0;obtain ⟨tb,htb⟩:∃ tb:Bool,(tb=true↔i<m/\m<E):=⟨decide (i<m/\m<E),by simp⟩;have HTB:=lh htb;clear htb;go_upto_region 39 with (fail)
    go_cut [185] from 178 to 185 (fun sx wx=>sx=.bool tb/\wx=v0)
    case first =>
     by_cases c1:i<m
     ·by_cases c2:m<E
      ·have ht:tb=true:=HTB.out.2 ⟨c1,c2⟩;subst ht;go_wp2;go_meet
       case rel=>exact ⟨rfl,rfl⟩
      ·have ht:tb=false:=by
        cases tb with
        | false=>rfl
        | true=>exact absurd (HTB.out.1 rfl).2 c2
       subst ht;go_wp2;go_meet
       case rel=>exact ⟨rfl,rfl⟩
     ·have ht:tb=false:=by
       cases tb with
       | false=>rfl
       | true=>exact absurd (HTB.out.1 rfl).1 c1
      subst ht;go_wp2;go_meet
      case rel=>exact ⟨rfl,rfl⟩
    case rest =>
     obtain ⟨hs,hw⟩:=hcut;have hw':=hw.symm;subst hs;clear hw;subst hw';go_upto_if 185 with (fail)
     go_cut [] from 186 to 191 (fun wx=>Hid (RowE wx g l1/\Touch g w wx))
     case first =>
      cases tb with
      | true =>
       obtain ⟨c1,c2⟩:=HTB.out.1 rfl;have HC2:=lh (HC1.out c1 c2);go_wp2_with fail;refine HC2.out.mono ?_;rintro e w1 ⟨rfl,h1⟩;have H1:=lh h1.out;clear h1 HC1 HC2;go_wp2;go_meet
       case rel=>exact ⟨H1.out.1,HT0.out.trans H1.out.2⟩
      | false =>
       have hno:¬ (i<m/\m<E):=fun q=>by have:=HTB.out.2 q;cases this
       have e0:=HNo.out hno;go_wp2;go_meet
       case rel=>exact ⟨by rw [e0];exact HRx.out,HT0.out⟩
     case rest =>
      have HC3:=lh hcut.out;clear hcut HC1 HNo HRx HT0 HTB;obtain ⟨v1,rfl⟩:∃ x,x=wc:=⟨_,rfl⟩;obtain ⟨tb,htb⟩:∃ tb:Bool,(tb=true↔a<i/\i<md):=⟨decide (a<i/\i<md),by simp⟩;have HTB:=lh htb;clear htb;go_upto_region 41 with (fail)
      go_cut [199] from 192 to 199 (fun sx wx=>sx=.bool tb/\wx=v1)
      case first =>
       by_cases c1:a<i
       ·by_cases c2:i<md
        ·have ht:tb=true:=HTB.out.2 ⟨c1,c2⟩;subst ht;go_wp2;go_meet
         case rel=>exact ⟨rfl,rfl⟩
        ·have ht:tb=false:=by
          cases tb with
          | false=>rfl
          | true=>exact absurd (HTB.out.1 rfl).2 c2
         subst ht;go_wp2;go_meet
         case rel=>exact ⟨rfl,rfl⟩
       ·have ht:tb=false:=by
         cases tb with
         | false=>rfl
         | true=>exact absurd (HTB.out.1 rfl).1 c1
        subst ht;go_wp2;go_meet
        case rel=>exact ⟨rfl,rfl⟩
      case rest =>
       obtain ⟨hs,hw⟩:=hcut;have hw':=hw.symm;subst hs;clear hw;subst hw';go_upto_if 199 with (fail)
       go_cut [] from 200 to 205 (fun wx=>Hid (∃ l2,Mg keyE l1 l2 a md/\RowE wx g l2/\Touch g w wx))
       case first =>
        cases tb with
        | true =>
         obtain ⟨c1,c2⟩:=HTB.out.1 rfl;have HC2:=lh (HIH.out a i md v1 l1 c1 c2 (by omega) (by omega) HC3.out.1 HLn.out.symm HRR.out.1 HRR.out.2.1);go_wp2_with fail;refine HC2.out.mono ?_;rintro e w1 ⟨rfl,h1⟩;have H1:=lh h1.out;clear h1 HC2;go_wp2;go_meet
         case rel =>
          obtain ⟨l2,k1,k2,k3⟩:=H1.out;exact ⟨l2,k1,k2,HC3.out.2.trans k3⟩
        | false =>
         have hno:¬ (a<i/\i<md):=fun q=>by have:=HTB.out.2 q;cases this
         have H1:=lh (show SoOn keyE l1 a md from by
          by_cases q:a<i
          ·have hid:i=md:=by omega
           exact hid▸HRR.out.1
          ·have hia:i=a:=by omega
           have:=HRR.out.2.1
           rwa [hia] at this)
         go_wp2;go_meet
         case rel=>exact ⟨l1,Mg.refl H1.out,HC3.out.1,HC3.out.2⟩
       case rest =>
        obtain ⟨l2,k1,k2,k3⟩:=hcut.out;clear hcut HTB;have HM2:=lh k1;have HR2:=lh k2;have HT2:=lh k3;have r1:=lh (show SoOn keyE l2 md E from HRR.out.2.2.1.same fun t t1 t2=>k1.out t (.inr t1));have r2:=lh (show SoOn keyE l2 E b from HRR.out.2.2.2.same fun t t1 t2=>k1.out t (.inr (by omega)));have HL2:=lh (k1.len.trans HLn.out);clear k1 k2 k3 HC3 HRR HLn;obtain ⟨v2,rfl⟩:∃ x,x=wc:=⟨_,rfl⟩;by_cases c1:md<E
        ·by_cases c2:E<b
         ·have HC2:=lh (HIH.out md E b v2 l2 c1 c2 (by omega) hb HR2.out HL2.out.symm r1.out r2.out);go_wp2_with fail;refine HC2.out.mono ?_;rintro e w1 ⟨rfl,h1⟩;obtain ⟨l3,k1,k2,k3⟩:=h1.out;have H1:=lh (HJ.out l2 l3 HM2.out k1);have H2:=lh k2;have H3:=lh (HT2.out.trans k3);clear h1 HC2 k1 k2 k3;go_wp2;go_end0;exact ⟨rfl,l3,H1.out,H2.out,H3.out⟩
         ·have hid:E=b:=by omega
          have H1:=lh (HJ.out l2 l2 HM2.out (Mg.refl (hid▸r1.out)));go_wp2;go_end0;exact ⟨rfl,l2,H1.out,HR2.out,HT2.out⟩
        ·have hid:md=E:=by omega
         have H1:=lh (HJ.out l2 l2 HM2.out (Mg.refl (by have:=r2.out;rwa [<-hid] at this)));go_wp2;go_end0;exact ⟨rfl,l2,H1.out,HR2.out,HT2.out⟩
theorem asym_any {g cap n:Nat} (hcap:n<=cap) (hn1:n<=100000):∀ (d a m b:Nat) (w:World) (l:List Ent),b - a<=d->RowE w g l->n=l.length->a<m->m<b->b<=n->SoOn keyE l a m->SoOn keyE l m b ->
  Calls prog 228 #[.slice (some ⟨g,0,none⟩) n cap,.int .i64 a,.int .i64 m,.int .i64 b,.func (.func 96) #[] #[]] w fun e w'=>e=.returned (.tuple #[])/\Hid (∃ l',Mg keyE l l' a b/\RowE w' g l'/\Touch g w w')
 | 0,a,m,b,w,l,hd,_,_,h1,h2,_,_,_=>by omega
 | d+1,a,m,b,w,l,hd,hr,hn,h1,h2,h3,s1,s2=>by
  by_cases c1:a+1=m
  ·subst c1;exact asymF_any hr hn (by omega) hcap h2 (by omega) s2
  ·by_cases c2:m+1=b
   ·subst c2;exact asymL_any hr hn (by omega) hcap (by omega) (by omega) s1
   ·exact asymM_any hr hn (by omega) hcap (by omega) (by omega) (by omega) s1 s2 fun a' m' b' w1 l1 k1 k2 k3 k4 k5 k6 k7 k8=>asym_any hcap hn1 d a' m' b' w1 l1 (by omega) k5 k6 k1 k2 k4 k7 k8
end
section
open Go.RowKit
attribute [local go_sem] Oper.semAt_some
theorem dvd_gap {s p a:Nat} (h1:s∣p) (h2:s∣a) (h:p<a):p+s<=a:=by
 have:=Nat.le_of_dvd (by omega) (Nat.dvd_sub h2 h1);omega
section
variable {α:Type} {key:α->List UInt8}
def Runs (key:α->List UInt8) (l:List α) (s n:Nat):Prop:=∀ p,s∣p->SoOn key l p (min (p+s) n)
structure Half (key:α->List UInt8) (l:List α) (s d n a:Nat):Prop where
 lo:∀ p,p<a->d∣p->SoOn key l p (min (p+d) n)
 hi:∀ p,a<=p->s∣p->SoOn key l p (min (p+s) n)
theorem Runs.half {l:List α} {s n d:Nat} (h:Runs key l s n):Half key l s d n 0:=⟨fun _ hp=>absurd hp (Nat.not_lt_zero _),fun p _=>h p⟩
theorem Half.step {l l2:List α} {s d n a b:Nat} (h:Half key l s d n a) (hd:d=2*s) (ha:d∣a) (hb:b=a+d) (hbn:b<=n) (hm:Mg key l l2 a b):Half key l2 s d n b:=by
 refine ⟨fun p hp q=>?_,fun p hp q=>?_⟩
 ·by_cases hpa:p<a
  ·have:=dvd_gap q ha hpa;exact (h.lo p hpa q).same fun i _ h2=>hm.out i (.inl (by omega))
  ·by_cases e:p=a
   ·subst e;exact hm.so.sub (Nat.le_refl _) (by omega)
   ·have:=dvd_gap ha q (by omega);omega
 ·exact (h.hi p (by omega) q).same fun i h1 _=>hm.out i (.inr (by omega))
theorem Half.last {l l2:List α} {s d n a:Nat} (h:Half key l s d n a) (hd:d=2*s) (ha:d∣a) (hn:n<a+d) (hm:Mg key l l2 a n):Runs key l2 d n:=by
 intro p q;by_cases hpa:p<a
 ·have:=dvd_gap q ha hpa;exact (h.lo p hpa q).same fun i _ h2=>hm.out i (.inl (by omega))
 ·by_cases e:p=a
  ·subst e;exact hm.so.sub (Nat.le_refl _) (by omega)
  ·have:=dvd_gap ha q (by omega);exact SoOn.small (by omega)
theorem Half.none {l:List α} {s d n a:Nat} (h:Half key l s d n a) (hs:s∣a) (hn:n<=a+s):Mg key l l a n:=Mg.refl ((h.hi a (Nat.le_refl _) hs).sub (Nat.le_refl _) (by omega))
end
set_option maxRecDepth 100000 in
set_option maxHeartbeats 16000000 in
theorem astable_any {w:World} {g cap n:Nat} {l:List Ent} (h:RowE w g l) (hn:n=l.length) (hl:n<=100000) (hcap:n<=cap) :
  Calls prog 164 #[.slice (some ⟨g,0,none⟩) n cap,.int .i64 n,.func (.func 96) #[] #[]] w fun e w'=>e=.returned (.tuple #[])/\Hid (∃ l',l'.length=n/\Stab keyE l l'/\SoOn keyE l' 0 n/\RowE w' g l'/\Touch g w w'):=by
 have HR:=lh h;have HN:=lh hn;have HI:=lh (fun w1 (l1:List Ent) a b (h1:RowE w1 g l1) (h2:n=l1.length) (h3:a<=b) (h4:b<=n)=>ains_any (cap:=cap) h1 h2 (by omega) hcap h3 (by omega));have HY:=lh (fun w1 (l1:List Ent) a m b (h1:RowE w1 g l1) (h2:n=l1.length) (h3:a<m) (h4:m<b) (h5:b<=n) (h6:SoOn keyE l1 a m) (h7:SoOn keyE l1 m b)=>asym_any hcap hl (b - a) a m b w1 l1 (Nat.le_refl _) h1 h2 h3 h4 h5 h6 h7);clear h hn;go_enter func164,ntmps164;go_wp2_with fail;go_loopw [7,8] (fun av bv wr=>Hid (∃ (a:Nat) (l1:List Ent),20∣a/\a<=n/\av=.int .i64 a/\bv=.int .i64 ((a+20:Nat):Int)/\l1.length=n/\Stab keyE l l1/\(∀ p,p<a->20∣p->SoOn keyE l1 p (p+20))/\RowE wr g l1/\Touch g w wr)) (fun av _ _=>n - (intOf av).toNat)
 case atStart=>exact ⟨0,l,Nat.dvd_zero _,Nat.zero_le _,rfl,by go_num,HN.out.symm,Stab.refl l,fun p hp=>absurd hp (Nat.not_lt_zero _),HR.out,Touch.of (Ext.refl _)⟩
 case round =>
  obtain ⟨a,l1,hda,han,rfl,rfl,hlen,hst,hso,hr,hx⟩:=hrel.out;clear hrel HR HN;have HD:=lh hda;have HL:=lh hlen;have HSt:=lh hst;have HSo:=lh hso;have HT:=lh hx;have HR1:=lh hr;clear hda hlen hst hso hr hx;by_cases hle:a+20<=n
  ·have HC:=lh (HI.out wr l1 a (a+20) HR1.out HL.out.symm (by omega) hle);go_wp2_with fail;refine HC.out.mono ?_;rintro e w1 ⟨rfl,h1⟩;obtain ⟨l2,hm,hr2,hx2⟩:=h1.out;have HM:=lh hm;have HR2:=lh hr2;have HT2:=lh (HT.out.trans hx2);clear h1 HC hm hr2 hx2 HR1 HT;go_wp2;go_roundw
   case rel =>
    refine ⟨a+20,l2,by have:=HD.out;omega,hle,by go_num,by go_num,HM.out.len.trans HL.out,HSt.out.trans HM.out.st,fun p hp hd=>?_,HR2.out,HT2.out⟩;by_cases hpa:p<a
    ·exact (HSo.out p hpa hd).same fun i _ h2=>HM.out.out i (.inl (by have:=HD.out;omega))
    ·obtain rfl:p=a:=by have:=HD.out;omega
     exact HM.out.so
   case measure=>simp [intOf] <;> omega
  ·have HC:=lh (HI.out wr l1 a n HR1.out HL.out.symm han (Nat.le_refl _));go_wp2_with fail;refine HC.out.mono ?_;rintro e w1 ⟨rfl,h1⟩;obtain ⟨l2,hm,hr2,hx2⟩:=h1.out
   have hru:Runs keyE l2 20 n:=fun p hd=>by
    by_cases hpa:p<a
    ·exact ((HSo.out p hpa hd).same fun i _ h2=>hm.out i (.inl (by have:=HD.out;omega))).sub (Nat.le_refl _) (by omega)
    ·exact hm.so.sub (by omega) (by omega)
   have HRu:=lh hru;have HR2:=lh hr2;have HT2:=lh (HT.out.trans hx2);have HSt2:=lh (HSt.out.trans hm.st);have HL2:=lh (hm.len.trans HL.out);clear h1 HC hm hr2 hx2 HR1 HT HSo HD HSt HL hru;obtain ⟨wo,rfl⟩:∃ x,x=w1:=⟨_,rfl⟩;go_wp2_with fail;go_loopw [6] (fun sv wr=>Hid (∃ (s:Nat) (l1:List Ent),20<=s/\s<=200000/\sv=.int .i64 s/\l1.length=n/\Stab keyE l l1/\Runs keyE l1 s n/\RowE wr g l1/\Touch g w wr)) (fun sv _=>n - (intOf sv).toNat)
   case atStart=>exact ⟨20,l2,Nat.le_refl _,by decide,rfl,HL2.out,HSt2.out,HRu.out,HR2.out,HT2.out⟩
   case round =>
    obtain ⟨s,l1,hs1,hs2,rfl,hlen,hst,hru,hr,hx⟩:=hrel.out;clear hrel HR2 HT2 HL2 HSt2 HRu;have HL:=lh hlen;have HSt:=lh hst;have HRu:=lh hru;have HR1:=lh hr;have HT:=lh hx;clear hlen hst hru hr hx;by_cases hsn:s<n
    ·obtain ⟨d,hd⟩:∃ d,d=2*s:=⟨_,rfl⟩;have q1:IntKind.i64.wrap (2*(s:Int))=(d:Int):=by rw [IntWalk.i64_in _ (by omega)];omega
     have q2:IntKind.i64.wrap ((s:Int)*2)=(d:Int):=by rw [IntWalk.i64_in _ (by omega)];omega
     have HDD:=lh hd;have hsd:s<d:=by omega
     have hd2:d<=200000:=by omega
     have HHf:=lh (HRu.out.half (d:=d));clear hd HRu;obtain ⟨wi,rfl⟩:∃ x,x=wr:=⟨_,rfl⟩;go_wp2_with fail;go_loopw [7,8] (fun av bv wr=>Hid (∃ (a:Nat) (l1:List Ent),d∣a/\a<=n/\av=.int .i64 a/\bv=.int .i64 ((a+d:Nat):Int)/\l1.length=n/\Stab keyE l l1/\Half keyE l1 s d n a/\RowE wr g l1/\Touch g w wr)) (fun av _ _=>n - (intOf av).toNat)
     case atStart=>exact ⟨0,l1,Nat.dvd_zero _,Nat.zero_le _,rfl,by go_num,HL.out,HSt.out,HHf.out,HR1.out,HT.out⟩
     case round =>
      obtain ⟨a,l3,hda,han,rfl,rfl,hlen,hst,hhf,hr,hx⟩:=hrel.out;clear hrel HL HSt HHf HR1 HT;have HD:=lh hda;have HL:=lh hlen;have HSt:=lh hst;have HHf:=lh hhf;have HR1:=lh hr;have HT:=lh hx;have hsa:s∣a:=Nat.dvd_trans (by rw [HDD.out];exact Nat.dvd_mul_left s 2) hda;have HSA:=lh hsa;obtain ⟨m,hm⟩:∃ m,m=a+s:=⟨_,rfl⟩;have q3:IntKind.i64.wrap ((a:Int)+(s:Int))=(m:Int):=by rw [IntWalk.i64_in _ (by omega)];omega
      have HMM:=lh hm;have ham:a<m:=by omega
      clear hda hlen hst hhf hr hx hsa;by_cases hle:a+d<=n
      ·have HC:=lh (HY.out wr l3 a m (a+d) HR1.out HL.out.symm ham (by omega) hle ((HHf.out.hi a (Nat.le_refl _) HSA.out).sub (Nat.le_refl _) (by omega)) ((HHf.out.hi m (by omega) (by rw [hm];exact Nat.dvd_add HSA.out (Nat.dvd_refl s))).sub (Nat.le_refl _) (by have:=HDD.out;omega)));clear hm;go_wp2_with fail;refine HC.out.mono ?_;rintro e w5 ⟨rfl,h5⟩;obtain ⟨l4,hm4,hr4,hx4⟩:=h5.out;have HM:=lh hm4;have HR2:=lh hr4;have HT2:=lh (HT.out.trans hx4);clear h5 HC hm4 hr4 hx4 HR1 HT;go_wp2;go_roundw
       case rel=>exact ⟨a+d,l4,Nat.dvd_add HD.out (Nat.dvd_refl d),hle,by go_num,by go_num,HM.out.len.trans HL.out,HSt.out.trans HM.out.st,HHf.out.step HDD.out HD.out rfl hle HM.out,HR2.out,HT2.out⟩
       case measure=>simp [intOf] <;> omega
      ·by_cases hmn:m<n
       ·have HC:=lh (HY.out wr l3 a m n HR1.out HL.out.symm ham hmn (Nat.le_refl _) ((HHf.out.hi a (Nat.le_refl _) HSA.out).sub (Nat.le_refl _) (by omega)) ((HHf.out.hi m (by omega) (by rw [hm];exact Nat.dvd_add HSA.out (Nat.dvd_refl s))).sub (Nat.le_refl _) (by have:=HDD.out;omega)));clear hm;go_wp2_with fail;refine HC.out.mono ?_;rintro e w5 ⟨rfl,h5⟩;obtain ⟨l4,hm4,hr4,hx4⟩:=h5.out;have HRn:=lh (HHf.out.last HDD.out HD.out (by omega) hm4);have HL4:=lh (hm4.len.trans HL.out);have HS4:=lh (HSt.out.trans hm4.st);have HR2:=lh hr4;have HT2:=lh (HT.out.trans hx4);clear h5 HC hm4 hr4 hx4 HR1 HT HL HSt HHf;go_wp2;go_roundw
        case rel=>exact ⟨d,l4,by omega,hd2,rfl,HL4.out,HS4.out,HRn.out,HR2.out,HT2.out⟩
        case measure=>simp [intOf] <;> omega
       ·have HRn:=lh (HHf.out.last HDD.out HD.out (by omega) (HHf.out.none HSA.out (by omega)));clear hm HHf;go_wp2;go_roundw
        case rel=>exact ⟨d,l3,by omega,hd2,rfl,HL.out,HSt.out,HRn.out,HR1.out,HT.out⟩
        case measure=>simp [intOf] <;> omega
    ·have HSo:=lh (show SoOn keyE l1 0 n from (HRu.out 0 (Nat.dvd_zero _)).sub (Nat.le_refl _) (by omega));clear HRu;go_wp2;go_end0;exact ⟨rfl,l1,HL.out,HSt.out,HSo.out,HR1.out,HT.out⟩
theorem asort_any {w:World} {g cap n:Nat} {l:List Ent} (h:RowE w g l) (hn:n=l.length) (hl:n<=100000) (hcap:n<=cap) :
  Calls prog 95 #[.slice (some ⟨g,0,none⟩) n cap,.func (.func 96) #[] #[]] w fun e w'=>e=.returned (.tuple #[])/\Hid (∃ l',l'.length=n/\Stab keyE l l'/\SoOn keyE l' 0 n/\RowE w' g l'/\Touch g w w'):=by
 have HC:=lh (astable_any h hn hl hcap);clear h hn;go_enter func95,ntmps95;go_wp2_with fail;refine HC.out.mono ?_;rintro e w1 ⟨rfl,h1⟩;have H1:=lh h1.out;clear h1 HC;go_wp2;go_end0;exact ⟨rfl,H1.out⟩
end
section
open Go.RowKit
attribute [local go_sem] Oper.semAt_some
theorem wpList_storeM {P:Program} {ops:Array Oper} {rest:List Oper} {op:Oper} {a:Act} {w:World} {Q:Exit->Act->World->Prop} (hgd:op.guard=none) (ty:TypeId) (x y:Operand) (ho:op.op=.store ty x y)
  (b o:Nat) (cs:List Value) (hx:a.eval x=.pointer (some ⟨b,o,none⟩)) (hy:a.eval y=.agg cs.toArray)
  (ht:w.there b o cs.toArray.size) (hi:(P.info? ty).map (·.size)=some cs.toArray.size) (h1:cs.toArray.all (·.oneCell')=true)
  (h:∀ w1,w1=w.setCells b o cs->wpList P ops Q rest (a.put op.dst undef) w1):wpList P ops Q (op::rest) a w :=
 wpList_store_mid hgd ty x y ho b o cs.toArray hx hy ht hi h1 (h _ rfl)
def dupB (l:List Ent) (i:Nat) (x:Ent):Bool:=decide (0<i)&&(match l[i - 1]? with | some y=>decide (x.name=y.name) | none=>false)
def ddN (l:List Ent):Nat->List Ent
 | 0=>[]
 | i+1=>ddN l i++(match l[i]? with | some x=>if dupB l i x then [] else [x] | none=>[])
theorem ddN_next {l:List Ent} {i:Nat} {x:Ent} (h:l[i]?=some x):ddN l (i+1)=ddN l i++(if dupB l i x then [] else [x]):=by
 rw [ddN,h]
theorem dupB_at {l:List Ent} {i:Nat} {x y:Ent} (h:l[i]?=some y):dupB l (i+1) x=decide (x.name=y.name):=by
 unfold dupB;rw [Nat.add_sub_cancel,h,decide_eq_true (Nat.succ_pos i),Bool.true_and]
theorem ddN_len (l:List Ent):∀ i,(ddN l i).length<=i
 | 0=>Nat.le_refl _
 | i+1=>by
  have ih:=ddN_len l i;rw [ddN,List.length_append]
  cases l[i]? with
  | none=>simp;omega
  | some x =>
   dsimp only;split
   ·simp;omega
   ·simp;omega
theorem ddN_all {l:List Ent}:∀ {i},i<=l.length->(∀ t x y,t+1<i->l[t]?=some y->l[t+1]?=some x->x.name≠y.name)->ddN l i=l.take i
 | 0,_,_=>rfl
 | i+1,hi,h=>by
  obtain ⟨x,hx⟩:∃ x,l[i]?=some x:=⟨_,List.getElem?_eq_getElem (by omega)⟩;rw [ddN_next hx,ddN_all (by omega) (fun t x y ht=>h t x y (by omega)),List.take_add_one,hx]
  congr 1
  cases i with
  | zero=>rfl
  | succ j =>
   obtain ⟨y,hy⟩:∃ y,l[j]?=some y:=⟨_,List.getElem?_eq_getElem (by omega)⟩;rw [dupB_at hy,decide_eq_false (h j x y (by omega) hy hx)];rfl
theorem aeqE_any (x y:Ent) (w:World):Calls prog 99 #[entA x,entA y] w fun e w'=>e=.returned (.bool (decide (x.name=y.name)))/\Ext w w':=by
 have h1:(x.name.toList==y.name.toList)=decide (x.name=y.name):=by
  by_cases h:x.name=y.name
  ·rw [h];simp
  ·rw [decide_eq_false h,beq_eq_false_iff_ne];exact fun e=>h (ba_ext e)
 generalize decide (x.name=y.name)=R at *;unfold entA;go_enter func99,ntmps99;go_wp2;go_ret;exact ⟨rfl,((Ext.refl w).alloc _).alloc _⟩
theorem run_clear_ents {w:World} {g off n c:Nat} (hn:0<n) (ht:w.there g off (n*4)):∃ Z:List Value,Z.length=n*4/\∀ ty,(Builtin.clear_ #[90] ty #[.slice (some ⟨g,off,none⟩) n c]).run prog w=.ok (.tuple #[]) (w.setCells g off Z):=by
 obtain ⟨Z,hZ⟩:∃ Z:List Value,Z=(Builtin.zeroCells (Value.agg #[.string ⟨#[]⟩,.string ⟨#[]⟩,.int .i64 0,.int .i64 0]).cells n).toList:=⟨_,rfl⟩;have hz4:(Value.agg #[.string ⟨#[]⟩,.string ⟨#[]⟩,.int .i64 0,.int .i64 0]).cells=#[.string ⟨#[]⟩,.string ⟨#[]⟩,.int .i64 0,.int .i64 0]:=rfl;have hl:Z.length=n*4:=by rw [hZ,hz4];simp [Builtin.zeroCells]
 have h1:∀ v∈Z,v.oneCell'=true:=by
  intro v hv;rw [hZ,hz4] at hv;simp only [Builtin.zeroCells,Array.toList_map,List.mem_map] at hv;obtain ⟨i,_,rfl⟩:=hv;have:i % 4=0\/i % 4=1\/i % 4=2\/i % 4=3:=by omega
  show ((#[Value.string ⟨#[]⟩,.string ⟨#[]⟩,.int .i64 0,.int .i64 0]:Array Value)[i % 4]!).oneCell'=true
  rcases this with e | e | e | e <;> rw [e] <;> rfl
 have hst:=run_storeCells_cells (P:=prog) g off Z 0 w (fun j hj=>by rw [Nat.add_zero];exact (ht j (by omega)).1) (fun j hj=>by rw [Nat.add_zero];exact (ht j (by omega)).2) h1;rw [Nat.add_zero] at hst;have hv:∀ w,(zeroValue 93).run prog w=.ok (.agg #[.string ⟨#[]⟩,.string ⟨#[]⟩,.int .i64 0,.int .i64 0]) w:=fun w=>by kernel_rfl
 refine ⟨Z,hl,fun ty=>?_⟩;obtain ⟨m,rfl⟩:∃ m,n=m+1:=⟨n - 1,by omega⟩;simp [Builtin.clear_,run_underlying (show prog.underlying 90=some (.slice 93) by kernel_rfl),hv,<-hZ,hst]
theorem RowE.head {w:World} {g:Nat} {l:List Ent} (h:RowE w g l) (k:Nat) (Z:List Value):(w.setCells g (k*4) Z).rangeAt g 0 (entsV (l.take k))/\Touch g w (w.setCells g (k*4) Z):=by
 obtain ⟨_,hT⟩:=touch_cells g Z (k*4) w;refine ⟨fun j v hj=>?_,hT⟩;obtain ⟨x,hx,hv⟩:=ents_div hj;rw [List.getElem?_take] at hx;split at hx
 ·rename_i hjk;rw [World.cell?_setCells_out g Z (k*4) w _ (fun _ _=>by show 0+j<_\/_;omega)];have:=h.ent hx _ _ hv;rw [show j / 4*4+j % 4=0+j from by omega] at this;exact this
 ·cases hx
set_option maxRecDepth 100000 in
set_option maxHeartbeats 16000000 in
theorem acompactG {w:World} {g cap n:Nat} {l:List Ent} (h:RowE w g l) (hn:n=l.length) (hl:n<=100000) (hcap:n<=cap) (hcap2:cap<=9223372036854775807) :
  Calls prog 98 #[.slice (some ⟨g,0,none⟩) n cap,.func (.func 99) #[] #[]] w fun e w'=>∃ u,e=.returned u/\Hid (u=.slice (some ⟨g,0,none⟩) (ddN l n).length cap/\w'.rangeAt g 0 (entsV (ddN l n))/\Touch g w w'):=by
 have HR:=lh h;have HN:=lh hn;have HC:=lh (fun x y w1=>aeqE_any x y w1);unfold entA at HC;clear h hn;by_cases h2:n<2
 ·have HD:=lh (show ddN l n=l from by
   rw [ddN_all (by have:=HN.out;omega) (fun t x y ht=>by omega),HN.out,List.take_length])
  rw [HD.out,<-HN.out];go_enter func98,ntmps98;go_wp2;go_ret;exact ⟨_,rfl,rfl,HR.out.at',Touch.of (Ext.refl w)⟩
 ·have HD:=lh (show ∃ d,d=ddN l n from ⟨_,rfl⟩);go_enter func98,ntmps98;go_wp2_with fail;go_loopw [5] (fun iv wr=>Hid (∃ k:Nat,1<=k/\k<=n/\iv=.int .i64 k/\Ext w wr/\∀ t x y,t+1<k->l[t]?=some y->l[t+1]?=some x->x.name≠y.name)) (fun iv _=>n - (intOf iv).toNat)
  case atStart=>exact ⟨1,Nat.le_refl _,by omega,rfl,Ext.refl _,fun t x y ht=>by omega⟩
  case round =>
   obtain ⟨k,hk1,hk,rfl,hx,hno⟩:=hrel.out;clear hrel;have HX:=lh hx;have HNo:=lh hno;clear hx hno;by_cases hlt:k<n
   ·obtain ⟨m,hm⟩:∃ m,m=k - 1:=⟨_,rfl⟩;obtain ⟨y,hym⟩:∃ y,l[m]?=some y:=⟨_,List.getElem?_eq_getElem (by have:=HN.out;omega)⟩;obtain ⟨x,hxk⟩:∃ x,l[k]?=some x:=⟨_,List.getElem?_eq_getElem (by have:=HN.out;omega)⟩;have hmn:m<n:=by omega
    have hkn:k<n:=hlt;have HMK:=lh (show m+1=k by omega);have HYM:=lh hym;have HXK:=lh hxk;have r1:=lh (fun (z:After wr)=>(HR.out.ext (HX.out.trans z.x)).ent hym:∀ z:After wr,z.v.rangeAt g (m*4) (entV y));have r2:=lh (fun (z:After wr)=>(HR.out.ext (HX.out.trans z.x)).ent hxk:∀ z:After wr,z.v.rangeAt g (k*4) (entV x));have HE:=lh (HC.out x y);have hw1:IntKind.i64.wrap ((k:Int) - 1)=(m:Int):=by rw [IntWalk.i64_in _ (by omega)];omega
    clear hym hxk hm;by_cases he:x.name=y.name
    ·rw [decide_eq_true he] at HE;have HEE:=lh he;clear he;go_upto_region 6 with (fail)
     refine wp_region_after (by kernel_rfl) (by kernel_rfl) ?_
     iterate 4 go_big_quiet_step (fail)
     refine wpQuiet_load_ag rfl _ _ rfl g (k*4) rfl (entV x).toArray _ (by rintro _ ⟨z,rfl⟩;exact r2.out z) underlying93 rfl (by kernel_rfl) ?_;go_frame
     iterate 4 go_big_quiet_step (fail)
     refine wpQuiet_load_ag rfl _ _ rfl g (m*4) rfl (entV y).toArray _ (by rintro _ ⟨z,rfl⟩;exact r1.out z) underlying93 rfl (by kernel_rfl) ?_;go_frame;go_big_quiet_step (exact After.of (HE.out _));refine wpQuiet_nil ?_;rintro _ ⟨z,rfl⟩;obtain ⟨wo,hwo⟩:∃ wo,wo=z.v:=⟨_,rfl⟩;have HRo:=lh (show RowE wo g l from hwo▸HR.out.ext (HX.out.trans z.x));have HTo:=lh (show Touch g w wo from hwo▸Touch.of (HX.out.trans z.x))
     have HD0:=lh (show ddN l (k+1)=l.take k from by
      have h1:=ddN_all (l:=l) (i:=k) (by have:=HN.out;omega) (fun t x y ht h3 h4=>HNo.out t x y ht h3 h4);rw [ddN_next HXK.out,h1]
      have h3:dupB l k x=true:=by
       rw [<-HMK.out,dupB_at HYM.out];exact decide_eq_true HEE.out
      rw [h3]
      simp)
     rw [<-hwo];clear hwo r1 r2 HE HX HR HNo HYM HXK HEE;go_wp2_with fail;generalize hN:n - k=N at *;generalize hC:cap - k=C at *;have hNn:k+N=n:=by omega
     have hN1:1<=N:=by omega
     have hNC:N<=C:=by omega
     have hC2:C<=9223372036854775807:=by omega
     clear hN hC;go_loopw [5,7] (fun kv jv wr=>Hid (∃ (kk j:Nat) (l1:List Ent),k<=kk/\kk<k+j/\1<=j/\j<=N/\kv=.int .i64 kk/\jv=.int .i64 j/\l1.length=n/\ddN l (k+j)=l1.take kk/\(∀ i,kk<=i->l1[i]?=l[i]?)/\RowE wr g l1/\Touch g w wr)) (fun _ jv _=>N - (intOf jv).toNat)
     case atStart=>exact ⟨k,1,l,Nat.le_refl _,by omega,Nat.le_refl _,hN1,rfl,rfl,HN.out.symm,HD0.out,fun _ _=>rfl,HRo.out,HTo.out⟩
     case round =>
      obtain ⟨kk,j,l1,hkk,hkj,hj1,hj2,rfl,rfl,hlen,hd,hsame,hr,hx⟩:=hrel.out;clear hrel HRo HTo HD0;have HL:=lh hlen;have HDd:=lh hd;have HS:=lh hsame;have HR1:=lh hr;have HT:=lh hx;clear hlen hd hsame hr hx;have hkn2:kk<n:=by omega
      by_cases hlt2:j<N
      ·obtain ⟨q,hq⟩:∃ q,q=j - 1:=⟨_,rfl⟩;have hqN:q<N:=by omega
       have hw2:IntKind.i64.wrap ((j:Int) - 1)=(q:Int):=by rw [IntWalk.i64_in _ (by omega)];omega
       obtain ⟨x2,hx2⟩:∃ x,l1[k+j]?=some x:=⟨_,List.getElem?_eq_getElem (by have:=HL.out;omega)⟩;obtain ⟨y2,hy2⟩:∃ x,l1[k+q]?=some x:=⟨_,List.getElem?_eq_getElem (by have:=HL.out;omega)⟩;have HLX:=lh (show l[k+j]?=some x2 from (HS.out _ (by omega)).symm.trans hx2);have HLY:=lh (show l[k+q]?=some y2 from (HS.out _ (by omega)).symm.trans hy2);have r1:=lh (fun (z:After wr)=>(by have:=(HR1.out.ext z.x).ent hx2;rwa [Nat.add_mul] at this:z.v.rangeAt g (k*4+j*4) (entV x2)));have r2:=lh (fun (z:After wr)=>(by have:=(HR1.out.ext z.x).ent hy2;rwa [Nat.add_mul] at this:z.v.rangeAt g (k*4+q*4) (entV y2)));have HE:=lh (HC.out x2 y2);have HJQ:=lh (show q+1=j by omega)
       have HNx:=lh (show ddN l (k+(j+1))=l1.take kk++(if decide (x2.name=y2.name) then [] else [x2]) from by
        have h1:=ddN_next HLX.out;rw [show k+j=k+q+1 from by have:=HJQ.out;omega,dupB_at HLY.out,show k+q+1=k+j from by have:=HJQ.out;omega] at h1;rw [<-HDd.out]
        exact h1)
       clear hx2 hy2 hq;by_cases he:x2.name=y2.name
       ·rw [decide_eq_true he] at HE HNx;have HNx2:=lh (HNx.out.trans (by rw [if_pos rfl,List.append_nil]));clear he HNx;go_upto_region 11 with (fail)
        refine wp_region_after (by kernel_rfl) (by kernel_rfl) ?_
        iterate 4 go_big_quiet_step (fail)
        refine wpQuiet_load_ag rfl _ _ rfl g (k*4+j*4) rfl (entV x2).toArray _ (by rintro _ ⟨z,rfl⟩;exact r1.out z) underlying93 rfl (by kernel_rfl) ?_;go_frame
        iterate 4 go_big_quiet_step (fail)
        refine wpQuiet_load_ag rfl _ _ rfl g (k*4+q*4) rfl (entV y2).toArray _ (by rintro _ ⟨z,rfl⟩;exact r2.out z) underlying93 rfl (by kernel_rfl) ?_;go_frame
        iterate 2 go_big_quiet_step (exact After.of (HE.out _))
        refine wpQuiet_nil ?_;rintro _ ⟨z,rfl⟩;have HR2:=lh (HR1.out.ext z.x);have HT2:=lh (HT.out.trans (Touch.of z.x));clear r1 r2 HE HR1 HT;go_wp2;go_roundw
        case rel=>exact ⟨kk,j+1,l1,hkk,by omega,by omega,by omega,rfl,by go_num,HL.out,HNx2.out,HS.out,HR2.out,HT2.out⟩
        case measure=>simp [intOf] <;> omega
       ·rw [decide_eq_false he] at HE HNx
        have HNx2:=lh (show ddN l (k+(j+1))=(l1.set kk x2).take (kk+1) from by
         rw [HNx.out,if_neg (by simp),List.take_add_one,List.take_set_of_le (Nat.le_refl _),List.getElem?_set_self (by have:=HL.out;omega)]
         rfl)
        clear he HNx;go_upto_region 11 with (fail)
        refine wp_region_after (by kernel_rfl) (by kernel_rfl) ?_
        iterate 4 go_big_quiet_step (fail)
        refine wpQuiet_load_ag rfl _ _ rfl g (k*4+j*4) rfl (entV x2).toArray _ (by rintro _ ⟨z,rfl⟩;exact r1.out z) underlying93 rfl (by kernel_rfl) ?_;go_frame
        iterate 4 go_big_quiet_step (fail)
        refine wpQuiet_load_ag rfl _ _ rfl g (k*4+q*4) rfl (entV y2).toArray _ (by rintro _ ⟨z,rfl⟩;exact r2.out z) underlying93 rfl (by kernel_rfl) ?_;go_frame
        iterate 2 go_big_quiet_step (exact After.of (HE.out _))
        refine wpQuiet_nil ?_;rintro _ ⟨z,rfl⟩;obtain ⟨wz,hwz⟩:∃ wz,wz=z.v:=⟨_,rfl⟩;have HR2:=lh (show RowE wz g l1 from hwz▸HR1.out.ext z.x);have HT2:=lh (show Touch g w wz from hwz▸HT.out.trans (Touch.of z.x));have HX2:=lh (show wz.rangeAt g (k*4+j*4) (entV x2) from hwz▸r1.out z);have HTh:=lh (show wz.there g (kk*4) (entV x2).toArray.size from HR2.out.room (by have:=HL.out;omega));obtain ⟨k1,k2⟩:=HR2.out.store (show kk<l1.length by have:=HL.out;omega) x2;have HR3:=lh k1;have HT3:=lh (HT2.out.trans k2);rw [<-hwz];clear hwz r1 r2 HE HR1 HT k1 k2
        go_wp2_with (first
         | (refine wpList_load_mid rfl 93 _ rfl g (k*4+j*4) rfl (entV x2) _ HX2.out underlying93 rfl (by kernel_rfl) ?_;go_frame)
         | (refine wpList_storeM rfl 93 (.tmp 56) (.tmp 55) rfl g (kk*4) (entV x2) rfl rfl HTh.out (by kernel_rfl) (by kernel_rfl) ?_;intro w9 hw9;have HW9:=lh hw9;clear hw9;go_frame))
        have HR9:=lh (show RowE w9 g (l1.set kk x2) from by rw [HW9.out];exact HR3.out);have HT9:=lh (show Touch g w w9 from by rw [HW9.out];exact HT3.out);clear HW9 HR3 HT3;go_roundw
        case rel=>exact ⟨kk+1,j+1,l1.set kk x2,by omega,by omega,by omega,by omega,by go_num,by go_num,by rw [List.length_set];exact HL.out,HNx2.out,fun i hi=>by rw [List.getElem?_set_ne (by omega)];exact HS.out i (by omega),HR9.out,HT9.out⟩
        case measure=>simp [intOf] <;> omega
      ·obtain rfl:j=N:=by omega
       obtain ⟨Z,hZ1,hZ2⟩:=run_clear_ents (w:=wr) (g:=g) (off:=kk*4) (n:=n - kk) (c:=cap - kk) (by omega) (fun i hi=>by have:=HR1.out.th (kk*4+i) (by have:=HL.out;omega);rwa [Nat.zero_add] at this);obtain ⟨k1,k2⟩:=HR1.out.head kk Z;have HF:=lh k1;have HTF:=lh (HT.out.trans k2);have HDn:=lh (show ddN l n=l1.take kk from by rw [<-hNn];exact HDd.out);have HLn:=lh (show (ddN l n).length=kk from by rw [HDn.out,List.length_take];have:=HL.out;omega);have hcl:∀ ty,(Builtin.clear_ #[90] ty #[.slice (some ⟨g,kk*4,none⟩) (n - kk) (cap - kk)]).run prog wr=.ok (.tuple #[]) (wr.setCells g (kk*4) Z):=hZ2;clear hZ2 k1 k2 hZ1;go_wp2_with fail;go_ret;refine ⟨_,rfl,?_,?_,HTF.out⟩
       ·rw [HLn.out];rfl
       ·rw [HDn.out];exact HF.out
    ·rw [decide_eq_false he] at HE;have HEE:=lh he;clear he;go_upto_region 6 with (fail)
     refine wp_region_after (by kernel_rfl) (by kernel_rfl) ?_
     iterate 4 go_big_quiet_step (fail)
     refine wpQuiet_load_ag rfl _ _ rfl g (k*4) rfl (entV x).toArray _ (by rintro _ ⟨z,rfl⟩;exact r2.out z) underlying93 rfl (by kernel_rfl) ?_;go_frame
     iterate 4 go_big_quiet_step (fail)
     refine wpQuiet_load_ag rfl _ _ rfl g (m*4) rfl (entV y).toArray _ (by rintro _ ⟨z,rfl⟩;exact r1.out z) underlying93 rfl (by kernel_rfl) ?_;go_frame;go_big_quiet_step (exact After.of (HE.out _));refine wpQuiet_nil ?_;rintro _ ⟨z,rfl⟩;have XZ:=lh (HX.out.trans z.x);clear r1 r2 HE;go_wp2;go_roundw
     case rel=>exact ⟨k+1,by omega,by omega,by go_num,XZ.out,fun t x' y' ht h3 h4=>by
      by_cases e:t+1=k
      ·have e2:t=m:=by have:=HMK.out;omega
       subst e2;rw [HYM.out] at h3
       cases h3
       rw [HMK.out,HXK.out] at h4
       cases h4
       exact HEE.out
      ·exact HNo.out t x' y' (by omega) h3 h4⟩
     case measure=>simp [intOf] <;> omega
   ·obtain rfl:k=n:=by omega
    have HD1:=lh (show ddN l k=l from by
     rw [ddN_all (by have:=HN.out;omega) (fun t x y ht h3 h4=>HNo.out t x y ht h3 h4),HN.out,List.take_length])
    have HRz:=lh (HR.out.ext HX.out);go_wp2;go_ret;refine ⟨_,rfl,?_,?_,Touch.of HX.out⟩
    ·rw [HD1.out,<-HN.out];rfl
    ·rw [HD1.out];exact HRz.out.at'
end
section
open Go.RowKit
structure Fst (l d:List Ent):Prop where
 so:d.Pairwise fun x y=>keyE x<keyE y
 fl:∀ k:List UInt8,d.filter (fun x=>keyE x==k)=(l.filter (fun x=>keyE x==k)).take 1
theorem pw_so {d:List Ent} (h:d.Pairwise fun x y=>keyE x<keyE y):SoOn keyE d 0 d.length:=fun i j _ h2 h3 x y hx hy=>by
 obtain ⟨i1,rfl⟩:=List.getElem?_eq_some_iff.1 hx;obtain ⟨j1,rfl⟩:=List.getElem?_eq_some_iff.1 hy;exact kl_as (List.pairwise_iff_getElem.1 h i j i1 j1 h2)
theorem Fst.one {l d d':List Ent} (h:Fst l d) (k:Fst l d'):d=d':=stab_one (key:=keyE) d d' (fun x=>(h.fl x).trans (k.fl x).symm) (pw_so h.so) (pw_so k.so)
theorem Fst.nil:Fst [] []:=⟨List.Pairwise.nil,fun _=>rfl⟩
theorem Fst.dup {l d:List Ent} {x y:Ent} (h:Fst l d) (hy:y∈d) (he:keyE y=keyE x):Fst (l++[x]) d:=by
 refine ⟨h.so,fun k=>?_⟩;rw [List.filter_append,h.fl k];by_cases hk:keyE x=k
 ·have hm:y∈l.filter (fun z=>keyE z==k):=by
   have:y∈d.filter (fun z=>keyE z==k):=List.mem_filter.2 ⟨hy,by simp [he,hk]⟩;rw [h.fl k] at this;exact List.mem_of_mem_take this
  rw [List.take_append_of_le_length (List.length_pos_of_mem hm)]
 ·have:[x].filter (fun z=>keyE z==k)=[]:=by simp [hk]
  rw [this,List.append_nil]
theorem Fst.ins {l A B:List Ent} {x:Ent} (h:Fst l (A++B)) (ha:∀ y∈A,keyE y<keyE x) (hb:∀ y∈B,keyE x<keyE y):Fst (l++[x]) (A++x::B):=by
 obtain ⟨h1,h2,h3⟩:=List.pairwise_append.1 h.so;refine ⟨List.pairwise_append.2 ⟨h1,List.pairwise_cons.2 ⟨hb,h2⟩,fun y hy z hz=>?_⟩,fun k=>?_⟩
 ·rcases List.mem_cons.1 hz with rfl | hz
  ·exact ha y hy
  ·exact h3 y hy z hz
 ·rw [List.filter_append,List.filter_cons,List.filter_append (l₁:=l)];have hk0:=h.fl k;rw [List.filter_append] at hk0;by_cases hk:keyE x=k
  ·have e1:A.filter (fun z=>keyE z==k)=[]:=List.filter_eq_nil_iff.2 fun y hy e=>by
    have:=ha y hy;rw [eq_of_beq e,hk] at this;exact kl_irr _ this
   have e2:B.filter (fun z=>keyE z==k)=[]:=List.filter_eq_nil_iff.2 fun y hy e=>by
    have:=hb y hy;rw [eq_of_beq e,hk] at this;exact kl_irr _ this
   rw [e1,e2,List.nil_append] at hk0
   have hl:l.filter (fun z=>keyE z==k)=[]:=by
    cases hq:l.filter (fun z=>keyE z==k) with
    | nil=>rfl
    | cons a t=>rw [hq] at hk0;simp at hk0
   rw [e1,e2,hl,if_pos (by simp [hk])];simp [hk]
  ·have:[x].filter (fun z=>keyE z==k)=[]:=by simp [hk]
   rw [this,List.append_nil,if_neg (by simp [hk])];exact hk0
theorem Fst.step {l d:List Ent} {x:Ent} (h:Fst l d) {a:Nat} (ha:∀ t y,t<a->d[t]?=some y->keyE y<keyE x) (hb:∀ y,d[a]?=some y->¬ keyE y<keyE x) :
  (∀ y,d[a]?=some y->keyE y=keyE x->Fst (l++[x]) d)/\((∀ y,d[a]?=some y->keyE y≠keyE x)->Fst (l++[x]) (d.take a++x::d.drop a)):=by
 refine ⟨fun y hy he=>h.dup (List.mem_of_getElem? hy) he,fun hne=>?_⟩;have hsp:d=d.take a++d.drop a:=(List.take_append_drop a d).symm;refine Fst.ins (A:=d.take a) (B:=d.drop a) (hsp▸h) (fun y hy=>?_) fun y hy=>?_
 ·obtain ⟨t,ht⟩:=List.getElem?_of_mem hy;rw [List.getElem?_take] at ht;split at ht
  ·exact ha t y (by assumption) ht
  ·cases ht
 ·obtain ⟨t,ht⟩:=List.getElem?_of_mem hy;rw [List.getElem?_drop] at ht;have hlt:=(List.getElem?_eq_some_iff.1 ht).1;obtain ⟨z,hz⟩:∃ z,d[a]?=some z:=⟨_,List.getElem?_eq_getElem (by omega)⟩
  have h1:keyE x<keyE z:=by
   by_cases q:keyE x<keyE z
   ·exact q
   ·exact absurd (kl_tri (hb z hz) q) (hne z hz)
  by_cases e:t=0
  ·subst e;rw [Nat.add_zero,hz] at ht
   cases ht
   exact h1
  ·obtain ⟨i1,e1⟩:=List.getElem?_eq_some_iff.1 hz;obtain ⟨i2,e2⟩:=List.getElem?_eq_some_iff.1 ht;have:=List.pairwise_iff_getElem.1 h.so a (a+t) i1 i2 (by omega);rw [e1,e2] at this;exact kl_tr h1 this
theorem ordF_ex:∀ l:List Ent,∃ d,Fst l d:=by
 have key:∀ (n:Nat) (l:List Ent),l.length=n->∃ d,Fst l d:=by
  intro n
  induction n with
  | zero=>intro l hl;rw [List.length_eq_zero_iff.1 hl];exact ⟨[],Fst.nil⟩
  | succ n ih =>
   intro l hl;obtain ⟨l0,x,rfl⟩:∃ l0 x,l=l0++[x]:=⟨l.dropLast,l.getLast (by intro e;rw [e] at hl;cases hl),(List.dropLast_concat_getLast _).symm⟩;obtain ⟨d,hd⟩:=ih l0 (by simpa using hl)
   have hpos:∀ m,m<=d.length->∃ a,a<=m/\(∀ t y,t<a->d[t]?=some y->keyE y<keyE x)/\(a<m->∀ y,d[a]?=some y->¬ keyE y<keyE x):=by
    intro m
    induction m with
    | zero=>intro _;exact ⟨0,Nat.le_refl _,fun t y ht=>absurd ht (Nat.not_lt_zero _),fun h=>absurd h (Nat.lt_irrefl _)⟩
    | succ m ihm =>
     intro hm;obtain ⟨a,h1,h2,h3⟩:=ihm (by omega);by_cases ham:a<m
     ·exact ⟨a,by omega,h2,fun _=>h3 ham⟩
     ·obtain rfl:a=m:=by omega
      obtain ⟨z,hz⟩:∃ z,d[a]?=some z:=⟨_,List.getElem?_eq_getElem (by omega)⟩;by_cases q:keyE z<keyE x
      ·exact ⟨a+1,Nat.le_refl _,fun t y ht hy=>by
        by_cases e:t=a
        ·subst e;rw [hz] at hy;cases hy;exact q
        ·exact h2 t y (by omega) hy,fun h=>absurd h (Nat.lt_irrefl _)⟩
      ·exact ⟨a,by omega,h2,fun _ y hy=>by rw [hz] at hy;cases hy;exact q⟩
   obtain ⟨a,h1,h2,h3⟩:=hpos d.length (Nat.le_refl _);have hb:∀ y,d[a]?=some y->¬ keyE y<keyE x:=fun y hy=>h3 (List.getElem?_eq_some_iff.1 hy).1 y hy;obtain ⟨s1,s2⟩:=hd.step (x:=x) h2 hb;by_cases hq:∃ y,d[a]?=some y/\keyE y=keyE x
   ·obtain ⟨y,hy,he⟩:=hq;exact ⟨d,s1 y hy he⟩
   ·exact ⟨_,s2 fun y hy he=>hq ⟨y,hy,he⟩⟩
 exact fun l=>key l.length l rfl
theorem so_pw {l:List Ent} {n:Nat} (h:SoOn keyE l 0 n) (hn:l.length=n):l.Pairwise fun x y=>¬ keyE y<keyE x:=List.pairwise_iff_getElem.2 fun i j hi hj hij=>h i j (Nat.zero_le _) hij (by omega) _ _ (List.getElem?_eq_getElem hi) (List.getElem?_eq_getElem hj)
theorem ddN_fst {l l':List Ent} (hs:Stab keyE l l') (ho:l'.Pairwise fun x y=>¬ keyE y<keyE x):∀ i,i<=l'.length->(ddN l' i).Sublist (l'.take i)/\(∀ k:List UInt8,(ddN l' i).filter (fun x=>keyE x==k)=((l'.take i).filter (fun x=>keyE x==k)).take 1)/\(ddN l' i).Pairwise fun x y=>keyE x<keyE y
 | 0,_=>⟨List.Sublist.refl _,fun _=>rfl,List.Pairwise.nil⟩
 | i+1,hi=>by
  obtain ⟨h1,h2,h3⟩:=ddN_fst hs ho i (by omega);obtain ⟨x,hx⟩:∃ x,l'[i]?=some x:=⟨_,List.getElem?_eq_getElem (by omega)⟩;have hT:l'.take (i+1)=l'.take i++[x]:=by rw [List.take_add_one,hx];rfl
  have hle:∀ y∈l'.take i,¬ keyE x<keyE y:=fun y hy=>by
   obtain ⟨t,ht⟩:=List.getElem?_of_mem hy;rw [List.getElem?_take] at ht;split at ht
   ·rename_i hlt;obtain ⟨i1,e1⟩:=List.getElem?_eq_some_iff.1 ht;obtain ⟨i2,e2⟩:=List.getElem?_eq_some_iff.1 hx;have:=List.pairwise_iff_getElem.1 ho t i i1 i2 hlt;rw [e1,e2] at this;exact this
   ·cases ht
  rw [ddN_next hx,hT];by_cases hd:dupB l' i x=true
  ·rw [if_pos hd,List.append_nil]
   obtain ⟨y,hy,he⟩:∃ y,y∈l'.take i/\keyE y=keyE x:=by
    unfold dupB at hd;rw [Bool.and_eq_true,decide_eq_true_eq] at hd;obtain ⟨y,hy⟩:∃ y,l'[i - 1]?=some y:=⟨_,List.getElem?_eq_getElem (by omega)⟩;rw [hy] at hd;refine ⟨y,List.mem_of_getElem? (i:=i - 1) (by rw [List.getElem?_take,if_pos (by omega)];exact hy),?_⟩;unfold keyE;rw [of_decide_eq_true hd.2]
   refine ⟨h1.trans (List.sublist_append_left _ _),fun k=>?_,h3⟩;rw [h2 k,List.filter_append];by_cases hk:keyE x=k
   ·rw [List.take_append_of_le_length];exact List.length_pos_of_mem (List.mem_filter.2 ⟨hy,by simp [he,hk]⟩)
   ·have:[x].filter (fun z=>keyE z==k)=[]:=by simp [hk]
    rw [this,List.append_nil]
  ·rw [if_neg hd]
   have hno:∀ y∈l'.take i,keyE y<keyE x:=fun y hy=>by
    obtain ⟨t,ht⟩:=List.getElem?_of_mem hy
    have htlt:t<i:=by
     have:=(List.getElem?_eq_some_iff.1 ht).1;rw [List.length_take] at this;omega
    rw [List.getElem?_take,if_pos htlt] at ht;obtain ⟨z,hz⟩:∃ z,l'[i - 1]?=some z:=⟨_,List.getElem?_eq_getElem (by omega)⟩
    have hzx:keyE z<keyE x:=by
     have h5:¬ keyE x<keyE z:=hle z (List.mem_of_getElem? (i:=i - 1) (by rw [List.getElem?_take,if_pos (by omega)];exact hz));by_cases q:keyE z<keyE x
     ·exact q
     ·exfalso;apply hd;unfold dupB;rw [hz,Bool.and_eq_true];refine ⟨decide_eq_true (by omega),decide_eq_true ?_⟩;exact ba_ext (kl_tri h5 q)
    by_cases e:t=i - 1
    ·subst e;rw [hz] at ht
     cases ht
     exact hzx
    ·obtain ⟨i1,e1⟩:=List.getElem?_eq_some_iff.1 ht;obtain ⟨i2,e2⟩:=List.getElem?_eq_some_iff.1 hz;have:=List.pairwise_iff_getElem.1 ho t (i - 1) i1 i2 (by omega);rw [e1,e2] at this;exact kl_le_lt this hzx
   refine ⟨h1.append (List.Sublist.refl _),fun k=>?_,List.pairwise_append.2 ⟨h3,List.pairwise_singleton _ _,fun y hy z hz=>?_⟩⟩
   ·rw [List.filter_append,List.filter_append,h2 k];by_cases hk:keyE x=k
    ·have e1:(l'.take i).filter (fun z=>keyE z==k)=[]:=List.filter_eq_nil_iff.2 fun y hy e=>by
      have:=hno y hy;rw [eq_of_beq e,hk] at this;exact kl_irr _ this
     rw [e1];simp [hk]
    ·have:[x].filter (fun z=>keyE z==k)=[]:=by simp [hk]
     rw [this,List.append_nil,List.append_nil]
   ·obtain rfl:=List.mem_singleton.1 hz;exact hno y (h1.subset hy)
theorem ddN_is {l l':List Ent} {n:Nat} (hs:Stab keyE l l') (ho:SoOn keyE l' 0 n) (hn:l'.length=n):Fst l (ddN l' n):=by
 obtain ⟨_,h2,h3⟩:=ddN_fst hs (so_pw ho hn) n (by omega);rw [<-hn,List.take_length] at h2;exact ⟨h3,fun k=>by rw [<-hn,h2 k,hs k]⟩
theorem Fst.rise {l d:List Ent} (h:Fst l d):Rise d:=h.so.imp fun {x y} k=>by
 refine ⟨?_,?_⟩
 ·rw [bytesLess_eq];exact decide_eq_false (kl_as k)
 ·rw [beq_eq_false_iff_ne];intro e;unfold keyE at k;rw [e] at k;exact kl_irr _ k
end
section
open Go.RowKit Go.Shelf
def agedY (p:Pol) (now:Int) (x:Ent):Bool:=decide (0<p.age)&&decide (p.age<ageI x.time now)
def bkE (now:Int) (x:Ent):Int×Int:=bktI (ageI x.time now)
def sameY (p:Pol) (now:Int) (x y:Ent):Bool:=!agedY p now y&&decide (bkE now y=bkE now x)
def goneY (p:Pol) (now:Int) (pre:List Ent) (x:Ent) (post:List Ent):Bool :=
 decide (0<(grp post x.path).length)&&(agedY p now x||((p.kind==2)&&decide (p.keep<1+((grp post x.path).length:Int)))||((p.kind==3)&&(grp pre x.path).any (sameY p now x)))
def goneYL (p:Pol) (now:Int):List Ent->List Ent->List Ent
 | _,[]=>[]
 | pre,x::post=>if goneY p now pre x post then x::goneYL p now (pre++[x]) post else goneYL p now (pre++[x]) post
def keptY (p:Pol) (now:Int):List Ent->List Ent->List Ent
 | _,[]=>[]
 | pre,x::post=>if goneY p now pre x post then keptY p now (pre++[x]) post else x::keptY p now (pre++[x]) post
theorem grp_app (a b:List Ent) (q:ByteArray):grp (a++b) q=grp a q++grp b q:=List.filter_append ..
theorem grp_in (x:Ent) (l:List Ent) (q:ByteArray) (h:x.path=q):grp (x::l) q=x::grp l q:=List.filter_cons_of_pos (by simp [h])
theorem grp_out (x:Ent) (l:List Ent) (q:ByteArray) (h:x.path≠q):grp (x::l) q=grp l q:=List.filter_cons_of_neg (by simp [h])
theorem grp_grp (l:List Ent) (q:ByteArray):grp (grp l q) q=grp l q:=by
 unfold grp;rw [List.filter_filter];simp
theorem grp_all {l:List Ent} {q:ByteArray} (h:∀ x∈l,x.path=q):grp l q=l:=List.filter_eq_self.2 fun x hx=>by simp [h x hx]
theorem gone_grp (p:Pol) (now:Int) (q:ByteArray):∀ (l pre:List Ent),grp (goneYL p now pre l) q=goneYL p now (grp pre q) (grp l q)
 | [],_=>rfl
 | x::post,pre=>by
  by_cases h:x.path=q
  ·have e:goneY p now pre x post=goneY p now (grp pre q) x (grp post q):=by
    unfold goneY;rw [h,grp_grp,grp_grp]
   rw [grp_in x post q h,goneYL,goneYL,<-e];have ih:=gone_grp p now q post (pre++[x]);rw [grp_app,show grp [x] q=[x] from grp_in x [] q h] at ih;split
   ·rw [grp_in _ _ _ h,ih]
   ·exact ih
  ·rw [grp_out x post q h,goneYL];have ih:=gone_grp p now q post (pre++[x]);rw [grp_app,show grp [x] q=[] from grp_out x [] q h,List.append_nil] at ih;split
   ·rw [grp_out _ _ _ h,ih]
   ·exact ih
theorem any_bk {p:Pol} {now:Int} {x:Ent} {l:List Ent}:l.any (sameY p now x)=true↔∃ y∈l,agedY p now y=false/\bkE now y=bkE now x:=by
 rw [List.any_eq_true];unfold sameY;simp
theorem gone_one (p:Pol) (now:Int) (q:ByteArray) (L:List Ent) (hq:∀ x∈L,x.path=q):∀ (post pre:List Ent),L=pre++post->post≠[]->(p.kind=3->∀ c,c∈(goS p L now pre.length).2↔∃ y∈pre,agedY p now y=false/\bkE now y=c) ->
  goP p L now=(goS p L now pre.length).1++(goneYL p now pre post).map (·.name)
 | [],_,_,h,_=>absurd rfl h
 | [x],pre,e,_,_=>by
  have:goneY p now pre x []=false:=by unfold goneY;rw [show grp [] x.path=[] from rfl];rfl
  rw [goneYL,this,if_neg (by simp),goneYL,List.map_nil,List.append_nil];unfold goP;rw [e,List.length_append,List.length_singleton,Nat.add_sub_cancel]
 | x::y::t,pre,e,_,hb=>by
  have hpx:x.path=q:=hq x (by rw [e];simp);have hat:L[pre.length]?=some x:=by rw [e];simp
  have hpost:grp (y::t) x.path=y::t:=by rw [hpx];exact grp_all fun z hz=>hq z (by rw [e];exact List.mem_append.2 (.inr (List.mem_cons_of_mem _ hz)))
  have hpre:grp pre x.path=pre:=by rw [hpx];exact grp_all fun z hz=>hq z (by rw [e];simp;exact .inl hz)
  have hlen:(L.length:Int) - (pre.length:Nat)=1+((y::t).length:Int):=by
   rw [e,List.length_append,List.length_cons];omega
  have hg:goB p L.length now (goS p L now pre.length).2 pre.length x=goneY p now pre x (y::t):=by
   unfold goB goneY;rw [hpost,hpre,hlen]
   have h3:((p.kind==3)&&decide (bktI (ageI x.time now)∈(goS p L now pre.length).2))=((p.kind==3)&&pre.any (sameY p now x)):=by
    by_cases hk:p.kind=3
    ·rw [hk]
     congr 1
     rw [Bool.eq_iff_iff,decide_eq_true_eq,any_bk];exact hb hk _
    ·rw [beq_eq_false_iff_ne.2 hk];rfl
   rw [h3];simp [agedY]
  have hnext:=goS_next (p:=p) (now:=now) hat;unfold goStep at hnext;rw [hg] at hnext;have ih:=gone_one p now q L hq (y::t) (pre++[x]) (by rw [e];simp) (by simp);rw [show (pre++[x]).length=pre.length+1 from by simp,hnext] at ih;rw [goneYL];by_cases hgo:goneY p now pre x (y::t)=true
  ·rw [if_pos hgo] at ih ⊢;rw [ih fun hk c=>?_]
   ·simp
   ·refine (hb hk c).trans ⟨fun ⟨z,hz,h1,h2⟩=>⟨z,by simp;exact .inl hz,h1,h2⟩,fun ⟨z,hz,h1,h2⟩=>?_⟩;rcases List.mem_append.1 hz with hz | hz
    ·exact ⟨z,hz,h1,h2⟩
    ·obtain rfl:=List.mem_singleton.1 hz;unfold goneY at hgo;rw [hpost,hpre,h1,hk] at hgo;simp only [Bool.and_eq_true,Bool.or_eq_true,Bool.false_or] at hgo;obtain ⟨_,h | h⟩:=hgo
     ·simp at h
     ·obtain ⟨z,hz,k1,k2⟩:=any_bk.1 h.2;exact ⟨z,hz,k1,k2.trans h2⟩
  ·rw [if_neg hgo] at ih ⊢;rw [ih fun hk c=>?_]
   have hna:agedY p now x=false:=by
    cases ha:agedY p now x with
    | false=>rfl
    | true =>
     exfalso;apply hgo;unfold goneY;rw [hpost,ha];simp
   rw [List.mem_append,hb hk c,List.mem_singleton];refine ⟨fun h=>?_,fun ⟨z,hz,h1,h2⟩=>?_⟩
   ·rcases h with ⟨z,hz,h1,h2⟩ | h
    ·exact ⟨z,by simp;exact .inl hz,h1,h2⟩
    ·exact ⟨x,by simp,hna,h.symm⟩
   ·rcases List.mem_append.1 hz with hz | hz
    ·exact .inl ⟨z,hz,h1,h2⟩
    ·obtain rfl:=List.mem_singleton.1 hz;exact .inr h2.symm
theorem goP_is (p:Pol) (now:Int) (q:ByteArray) (L:List Ent) (hq:∀ x∈L,x.path=q):goP p L now=(goneYL p now [] L).map (·.name):=by
 by_cases h:L=[]
 ·subst h;rfl
 ·rw [gone_one p now q L hq L [] rfl h fun _ c=>⟨fun h=>by simp [goS] at h,fun ⟨_,h,_⟩=>by simp at h⟩];rfl
theorem fmap_congr {α β:Type} {f g:α->List β}:∀ {l:List α},(∀ x∈l,f x=g x)->l.flatMap f=l.flatMap g
 | [],_=>rfl
 | x::l,h=>by rw [List.flatMap_cons,List.flatMap_cons,h x (List.mem_cons_self ..),fmap_congr fun y hy=>h y (List.mem_cons_of_mem _ hy)]
theorem perm_paths {β:Type} (f:Ent->β):∀ (K:List (List UInt8)) (G:List Ent),K.Nodup->(∀ x∈G,∃ k∈K,x.path=bsL k)->(K.flatMap fun k=>(grp G (bsL k)).map f).Perm (G.map f)
 | [],G,_,h=>by
  cases G with
  | nil=>exact List.Perm.refl _
  | cons x t=>obtain ⟨k,hk,_⟩:=h x (List.mem_cons_self ..);simp at hk
 | k::K,G,hn,h=>by
  have inj:∀ a b:List UInt8,bsL a=bsL b->a=b:=fun a b e=>by unfold bsL at e;injection e with e;simpa using congrArg Array.toList e
  obtain ⟨h1,h2⟩:=List.nodup_cons.1 hn;have hs:=List.filter_append_perm (fun x:Ent=>decide (x.path=bsL k)) G
  have ih:=perm_paths f K (G.filter fun x=>!decide (x.path=bsL k)) h2 fun x hx=>by
   obtain ⟨hx1,hx2⟩:=List.mem_filter.1 hx;obtain ⟨j,hj,e⟩:=h x hx1;rcases List.mem_cons.1 hj with rfl | hj
   ·simp [e] at hx2
   ·exact ⟨j,hj,e⟩
  have he:(K.flatMap fun j=>(grp G (bsL j)).map f)=K.flatMap fun j=>(grp (G.filter fun x=>!decide (x.path=bsL k)) (bsL j)).map f:=by
   refine fmap_congr fun j hj=>?_;unfold grp;rw [List.filter_filter]
   congr 1
   refine List.filter_congr fun x _=>?_;by_cases e:x.path=bsL j
   ·have:j≠k:=fun q=>h1 (q▸hj);have h3:¬ bsL j=bsL k:=fun q=>this (inj _ _ q);simp [e,h3]
   ·simp [e]
  rw [List.flatMap_cons,he];refine (List.Perm.append_left _ ih).trans ?_;rw [<-List.map_append];exact hs.map f
theorem gone_sub (p:Pol) (now:Int):∀ (l pre:List Ent),(goneYL p now pre l).Sublist l/\(keptY p now pre l).Sublist l/\(goneYL p now pre l).length+(keptY p now pre l).length=l.length
 | [],_=>⟨List.Sublist.refl _,List.Sublist.refl _,rfl⟩
 | x::post,pre=>by
  obtain ⟨h1,h2,h3⟩:=gone_sub p now post (pre++[x]);rw [goneYL,keptY];split
  ·exact ⟨h1.cons_cons x,h2.cons x,by rw [List.length_cons,List.length_cons];omega⟩
  ·exact ⟨h1.cons x,h2.cons_cons x,by rw [List.length_cons,List.length_cons];omega⟩
theorem goesS_is {p:Pol} {now:Int} {l:List Ent} {K:List (List UInt8)} (hK:K.Nodup) (hm:∀ x,x∈K↔grp l (bsL x)≠[]) (hr:l.Pairwise fun x y=>¬ y.name.data.toList<x.name.data.toList) :
  goesS p l now K=(goneYL p now [] l).map (·.name):=by
 have h1:goesL p l now K=K.flatMap fun k=>(grp (goneYL p now [] l) (bsL k)).map fun e=>e.name.data.toList:=by
  unfold goesL;refine fmap_congr fun k _=>?_;rw [goP_is p now (bsL k) (grp l (bsL k)) (fun x hx=>of_decide_eq_true (List.mem_filter.1 hx).2),gone_grp,List.map_map];rfl
 have h2:(goesL p l now K).Perm ((goneYL p now [] l).map fun e=>e.name.data.toList):=by
  rw [h1];refine perm_paths _ K _ hK fun x hx=>⟨x.path.data.toList,(hm _).2 ?_,rfl⟩;have hx':=(gone_sub p now l []).1.subset hx;intro e;have:x∈grp l (bsL x.path.data.toList):=List.mem_filter.2 ⟨hx',by simp [bsL]⟩;rw [e] at this;simp at this
 unfold goesS sortS;have h3:=mergeSort_of_perm h2;unfold leB at h3;rw [h3,List.mergeSort_of_pairwise ?_,List.map_map]
 ·exact List.map_congr_left fun x _=>rfl
 ·rw [List.pairwise_map];exact (hr.sublist (gone_sub p now l []).1).imp fun h=>decide_eq_true (List.not_lt.1 h)
theorem paths_of:∀ l:List Ent,∃ K:List (List UInt8),K.Nodup/\∀ x,x∈K↔grp l (bsL x)≠[]
 | []=>⟨[],List.nodup_nil,fun x=>by simp [grp]⟩
 | e::l=>by
  obtain ⟨K,h1,h2⟩:=paths_of l;by_cases hk:e.path.data.toList∈K
  ·refine ⟨K,h1,fun x=>?_⟩;by_cases he:e.path=bsL x
   ·have hx:x=e.path.data.toList:=by rw [he];simp [bsL]
    rw [grp_in _ _ _ he];simp [hx,hk]
   ·rw [grp_out _ _ _ he];exact h2 x
  ·refine ⟨e.path.data.toList::K,List.nodup_cons.2 ⟨hk,h1⟩,fun x=>?_⟩;by_cases he:e.path=bsL x
   ·have hx:x=e.path.data.toList:=by rw [he];simp [bsL]
    rw [grp_in _ _ _ he];simp [hx]
   ·rw [grp_out _ _ _ he,List.mem_cons,<-h2 x];exact ⟨fun h=>h.resolve_left fun q=>he (by rw [q];rfl),.inr⟩
end
section
open Go.RowKit
attribute [local go_sem] Oper.semAt_some
theorem rnear19 (t:Int) (w:World):Calls prog 242 #[.int .i64 t] w fun e w'=>e=.returned (.int .i64 (nearI t))/\w=w':=by
 have HN:=lh (show nearI t=min (max t 0) 4294967295 from rfl);generalize nearI t=R at *;by_cases h1:t<0
 ·have HR:=lh (show R=0 from by rw [HN.out];omega);go_enter func242,ntmps242;go_wp2;go_ret;exact ⟨by rw [HR.out];rfl,rfl⟩
 ·by_cases h2:4294967295<t
  ·have HR:=lh (show R=4294967295 from by rw [HN.out];omega);go_enter func242,ntmps242;go_wp2;go_ret;exact ⟨by rw [HR.out];rfl,rfl⟩
  ·have HR:=lh (show R=t from by rw [HN.out];omega);go_enter func242,ntmps242;go_wp2;go_ret;exact ⟨by rw [HR.out];rfl,rfl⟩
set_option maxHeartbeats 1000000 in
theorem rage19 (x:Ent) (now:Int) (w:World):Calls prog 171 #[entA x,.int .i64 now] w fun e w'=>e=.returned (.int .i64 (ageI x.time now))/\Ext w w':=by
 obtain ⟨a0,a1⟩:=nearI_bd x.time;obtain ⟨b0,b1⟩:=nearI_bd now;have HA:=lh (show ageI x.time now=max 0 (nearI now - nearI x.time) from rfl);have HNn:=lh (fun t w'=>rnear19 t w');have hw:IntKind.i64.wrap (nearI now - nearI x.time)=nearI now - nearI x.time:=IntWalk.i64_in _ (by omega);have X0:=lh ((Ext.refl w).alloc (.cells #[.string x.name,.string x.path,.int .i64 x.time,.int .i64 x.size] 94 (0,0)));generalize ageI x.time now=R at *;unfold entA;have H1:=lh (HNn.out now);have H2:=lh (HNn.out x.time);have k1:=fun z:After (w.alloc (.cells #[.string x.name,.string x.path,.int .i64 x.time,.int .i64 x.size] 94 (0,0)))=>(show z.v.cell? ⟨w.heap.size,2,none⟩=some (.int .i64 x.time) from (cellB ((z.x.block (ltB (block_alloc_new w _))).trans (block_alloc_new w _))));generalize nearI now=N at *;generalize nearI x.time=M at *;by_cases hlt:N<M
 ·have HR:=lh (show R=0 from by rw [HA.out];omega);go_enter func171,ntmps171;go_upto_region 1 with (fail)
  generalize w.alloc (.cells #[.string x.name,.string x.path,.int .i64 x.time,.int .i64 x.size] 94 (0,0))=wA at *;refine wp_region_after (by kernel_rfl) (by kernel_rfl) ?_;go_big_quiet_step (fail);go_big_quiet_step (exact After.of ((H1.out _).mono fun _ _ h=>⟨h.1,h.2▸Ext.refl _⟩))
  iterate 2 go_big_quiet_step (fail)
  go_big_quiet_step (exact After.of ((H2.out _).mono fun _ _ h=>⟨h.1,h.2▸Ext.refl _⟩))
  iterate 2 go_big_quiet_step (fail)
  refine wpQuiet_nil ?_;rintro _ ⟨z,rfl⟩;have XZ:=lh (X0.out.trans z.x);clear k1;go_wp2;go_ret;exact ⟨by rw [HR.out];rfl,XZ.out⟩
 ·have HR:=lh (show R=N - M from by rw [HA.out];omega);go_enter func171,ntmps171;go_upto_region 1 with (fail)
  generalize w.alloc (.cells #[.string x.name,.string x.path,.int .i64 x.time,.int .i64 x.size] 94 (0,0))=wA at *;refine wp_region_after (by kernel_rfl) (by kernel_rfl) ?_;go_big_quiet_step (fail);go_big_quiet_step (exact After.of ((H1.out _).mono fun _ _ h=>⟨h.1,h.2▸Ext.refl _⟩))
  iterate 2 go_big_quiet_step (fail)
  go_big_quiet_step (exact After.of ((H2.out _).mono fun _ _ h=>⟨h.1,h.2▸Ext.refl _⟩))
  iterate 2 go_big_quiet_step (fail)
  refine wpQuiet_nil ?_;rintro _ ⟨z,rfl⟩;have XZ:=lh (X0.out.trans z.x);clear k1;go_wp2;go_ret;exact ⟨by rw [HR.out];rfl,XZ.out⟩
theorem rbucket19 (a:Int) (w:World) (h0:0<=a) (h1:a<=4294967295):Calls prog 172 #[.int .i64 a] w fun e w'=>e=.returned (.tuple #[.int .i64 ((bktI a).1+1),.int .i64 (bktI a).2])/\w=w':=by
 have HK:=lh (show bktI a=if a<100 then (0,a / 10) else if a<1000 then (1,a / 100) else if a<10000 then (2,a / 1000) else (3,a / 10000) from rfl);generalize bktI a=K at *;by_cases a1:a<100
 ·have HC:=lh (show K=(0,a / 10) from by rw [HK.out,if_pos a1]);clear HK;go_enter func172,ntmps172;go_wp2;go_ret2;exact ⟨by rw [HC.out];rfl,rfl⟩
 ·skip
  by_cases a2:a<1000
  ·have HC:=lh (show K=(1,a / 100) from by rw [HK.out,if_neg a1,if_pos a2]);clear HK;go_enter func172,ntmps172;go_wp2;go_ret2;exact ⟨by rw [HC.out];rfl,rfl⟩
  ·skip
   by_cases a3:a<10000
   ·have HC:=lh (show K=(2,a / 1000) from by rw [HK.out,if_neg a1,if_neg a2,if_pos a3]);clear HK;go_enter func172,ntmps172;go_wp2;go_ret2;exact ⟨by rw [HC.out];rfl,rfl⟩
   ·skip
    have HC:=lh (show K=(3,a / 10000) from by rw [HK.out,if_neg a1,if_neg a2,if_neg a3]);clear HK;go_enter func172,ntmps172;go_wp2;go_ret2;exact ⟨by rw [HC.out];rfl,rfl⟩
set_option maxHeartbeats 1000000 in
theorem rcheck19 (p:Pol) (w:World):Calls prog 102 #[polV p] w fun e w'=>e=.returned (.int .i64 (if okP p then 0 else 2))/\Ext w w':=by
 obtain ⟨k,n,a⟩:=p;have HO:=lh (show okP ⟨k,n,a⟩=((if k=2 then decide (1<=n)&&decide (n<=100) else decide (n=0))&&decide (1<=k)&&decide (k<=3)&&(decide (0<=a)&&decide (a<=4294967295))) from rfl);unfold polV;dsimp only;generalize okP ⟨k,n,a⟩=R at *;by_cases c1:k<1
 ·have hR:R=false:=by rw [HO.out];simp [*] <;> omega
  subst hR;clear HO;go_enter func102,ntmps102;go_wp2;go_ret;exact ⟨rfl,(Ext.refl w).alloc _⟩
 ·skip
  by_cases c2:3<k
  ·have hR:R=false:=by rw [HO.out];simp [*] <;> omega
   subst hR;clear HO;go_enter func102,ntmps102;go_wp2;go_ret;exact ⟨rfl,(Ext.refl w).alloc _⟩
  ·skip
   by_cases c3:a<0
   ·have hR:R=false:=by rw [HO.out];simp [*] <;> omega
    subst hR;clear HO;go_enter func102,ntmps102;go_wp2;go_ret;exact ⟨rfl,(Ext.refl w).alloc _⟩
   ·skip
    by_cases c4:4294967295<a
    ·have hR:R=false:=by rw [HO.out];simp [*] <;> omega
     subst hR;clear HO;go_enter func102,ntmps102;go_wp2;go_ret;exact ⟨rfl,(Ext.refl w).alloc _⟩
    ·skip
     by_cases c5:k=2
     ·subst c5;by_cases c6:n<1
      ·have hR:R=false:=by rw [HO.out];simp [*] <;> omega
       subst hR;clear HO;go_enter func102,ntmps102;go_wp2;go_ret;exact ⟨rfl,(Ext.refl w).alloc _⟩
      ·by_cases c7:100<n
       ·have hR:R=false:=by rw [HO.out];simp [*] <;> omega
        subst hR;clear HO;go_enter func102,ntmps102;go_wp2;go_ret;exact ⟨rfl,(Ext.refl w).alloc _⟩
       ·have hR:R=true:=by rw [HO.out];simp [*] <;> omega
        subst hR;clear HO;go_enter func102,ntmps102;go_wp2;go_ret;exact ⟨rfl,(Ext.refl w).alloc _⟩
     ·have g5:(k==2)=false:=beq_eq_false_iff_ne.2 c5;have g6:(k != 2)=true:=bne_iff_ne.2 c5;by_cases c6:n=0
      ·subst c6;have hR:R=true:=by rw [HO.out];simp [*] <;> omega
       subst hR;clear HO;go_enter func102,ntmps102;go_wp2;go_ret;exact ⟨rfl,(Ext.refl w).alloc _⟩
      ·have g7:(n != 0)=true:=bne_iff_ne.2 c6;have hR:R=false:=by rw [HO.out];simp [*] <;> omega
       subst hR;clear HO;go_enter func102,ntmps102;go_wp2;go_ret;exact ⟨rfl,(Ext.refl w).alloc _⟩
end
section
open Go.RowKit
theorem ba_beq (a b:ByteArray):(a.toList==b.toList)=decide (a=b):=by
 by_cases h:a=b
 ·subst h;simp
 ·rw [decide_eq_false h,beq_eq_false_iff_ne];exact fun e=>h (ba_ext e)
end
section
open Go.RowKit
attribute [local go_sem] Oper.semAt_some
def RowsIn (w:World) (v:Value) (l:List Ent):Prop:=∃ (ad:Option Addr) (cap:Nat),v=.slice ad l.length cap/\l.length<=cap/\cap<=9223372036854775807/\∀ k x,l[k]?=some x->∃ g,ad=some ⟨g,0,none⟩/\∀ w',Ext w w'->w'.rangeAt g (k*4) (entV x)
theorem RowsIn.ext {w w':World} {v:Value} {l:List Ent} (h:RowsIn w v l) (x:Ext w w'):RowsIn w' v l:=by
 obtain ⟨ad,cap,e,h1,h2,h3⟩:=h
 exact ⟨ad,cap,e,h1,h2,fun k y hy=>by
  obtain ⟨g,e1,e2⟩:=h3 k y hy
  exact ⟨g,e1,fun w2 x2=>e2 w2 (x.trans x2)⟩⟩
theorem RowsIn.of_owns {w:World} {base n:Nat} {e:TypeId} {v:Value} {l:List Ent} (h:w.ownsRow base e 4 v n (entsV l)) (hn:n=l.length):RowsIn w v l:=by
 subst hn;obtain ⟨ad,cap,rfl,h1,h2,_,hat⟩:=row_cells h;refine ⟨ad,cap,rfl,h1,h2,fun k x hx=>?_⟩;obtain ⟨g,e1,_,e2,_⟩:=hat (k*4+0) _ (ents_get hx (by decide):_=(entV x)[0]?);refine ⟨g,e1,fun w' y j u hj=>?_⟩;have hj4:j<4:=(List.getElem?_eq_some_iff.1 hj).1;obtain ⟨g',e1',_,_,e3⟩:=hat (k*4+j) u ((ents_get hx hj4).trans hj);rw [e1] at e1'
 cases e1'
 exact (y.cell e2).trans e3
theorem grp_take {l:List Ent} {k:Nat} {y:Ent} {q:ByteArray} (h:l[k]?=some y):grp (l.take (k+1)) q=grp (l.take k) q++(if y.path=q then [y] else []):=by
 rw [List.take_add_one,h,grp_app]
 congr 1
 by_cases e:y.path=q
 ·rw [if_pos e];exact grp_in y [] q e
 ·rw [if_neg e];exact grp_out y [] q e
set_option maxRecDepth 100000 in
set_option maxHeartbeats 16000000 in
theorem rgoes19 {w:World} {v:Value} {l:List Ent} {x:Ent} {i:Nat} (h:RowsIn w v l) (hl:l.length<=1000) (hx:l[i]?=some x) (p:Pol) (hp:0<=p.age) (now:Int) :
  Calls prog 104 #[polV p,v,.int .i64 i,.int .i64 now] w fun e w'=>e=.returned (.bool (goneY p now (l.take i) x (l.drop (i+1))))/\Ext w w':=by
 obtain ⟨ad,cap,rfl,hc1,hc2,hat⟩:=h;have HAT:=lh hat;obtain ⟨n,hn⟩:∃ n,n=l.length:=⟨_,rfl⟩;have HN:=lh hn;have hin:i<n:=by rw [hn];exact (List.getElem?_eq_some_iff.1 hx).1
 obtain ⟨g,rfl,hra⟩:=hat i x hx;have HRA:=lh hra;obtain ⟨C,hC⟩:∃ C,C=(grp (l.drop (i+1)) x.path).length:=⟨_,rfl⟩;obtain ⟨SB,hSB⟩:∃ SB,SB=(grp (l.take i) x.path).any (sameY p now x):=⟨_,rfl⟩;have HG:=lh (show goneY p now (l.take i) x (l.drop (i+1))=(decide (0<C)&&(agedY p now x||((p.kind==2)&&decide (p.keep<1+(C:Int)))||((p.kind==3)&&SB))) from by unfold goneY;rw [hC,hSB]);have HCC:=lh hC;have HSB:=lh hSB;have hC1:C<=1000:=by rw [hC];exact Nat.le_trans (grp_len _ _) (by rw [List.length_drop];omega)
 generalize goneY p now (l.take i) x (l.drop (i+1))=R at *;rw [<-hn] at hl hc1 ⊢;clear hat hra hx hn hC hSB;have HP:=lh (show polV p=.agg #[.int .i64 p.kind,.int .i64 p.keep,.int .i64 p.age] from rfl);obtain ⟨pc,hpc⟩:∃ pc,pc=(#[.int .i64 p.kind,.int .i64 p.keep,.int .i64 p.age]:Array Value):=⟨_,rfl⟩;have HP0:=lh (show pc[0]?=some (.int .i64 p.kind) from by rw [hpc];rfl);have HP1:=lh (show pc[1]?=some (.int .i64 p.keep) from by rw [hpc];rfl);have HP2:=lh (show pc[2]?=some (.int .i64 p.age) from by rw [hpc];rfl);rw [HP.out,<-hpc];have HB:=lh (block_alloc_new w (.cells pc 97 (0,0)));have X0:=lh ((Ext.refl w).alloc (.cells pc 97 (0,0)));clear hpc HP;go_enter func104,ntmps104;go_wp2_with fail;generalize w.alloc (.cells pc 97 (0,0))=wA at *;go_loopw [9,10] (fun bv kv wr=>Hid (∃ k b:Nat,i+1<=k/\k<=n/\bv=.int .i64 b/\kv=.int .i64 k/\b+(grp (l.take (i+1)) x.path).length=(grp (l.take k) x.path).length/\b<=k/\Ext wA wr)) (fun _ kv _=>n - (intOf kv).toNat)
 case atStart=>exact ⟨i+1,0,Nat.le_refl _,by omega,rfl,by go_num,Nat.zero_add _,Nat.zero_le _,Ext.refl _⟩
 case round =>
  obtain ⟨k,b,hk1,hk2,rfl,rfl,hb,hbk,hxk⟩:=hrel.out;clear hrel;have HBb:=lh hb;have HXk:=lh hxk;clear hb hxk;by_cases hlt:k<n
  ·obtain ⟨y,hyk⟩:∃ y,l[k]?=some y:=⟨_,List.getElem?_eq_getElem (by have:=HN.out;omega)⟩;obtain ⟨g',e1,hrb⟩:=HAT.out k y hyk
   cases e1
   have k1:∀ z:After wr,z.v.cell? ⟨g,k*4+1,none⟩=some (.string y.path):=fun z=>hrb z.v (X0.out.trans (HXk.out.trans z.x)) 1 _ rfl;have k2:∀ z:After wr,z.v.cell? ⟨g,i*4+1,none⟩=some (.string x.path):=fun z=>HRA.out z.v (X0.out.trans (HXk.out.trans z.x)) 1 _ rfl;have hpe:=ba_beq y.path x.path;have hgt:=grp_take (q:=x.path) hyk;have HGT:=lh hgt;clear hyk hrb hgt;by_cases hpp:y.path=x.path
   ·rw [decide_eq_true hpp] at hpe;have HL:=lh (show b+1+(grp (l.take (i+1)) x.path).length=(grp (l.take (k+1)) x.path).length from by rw [HGT.out,if_pos hpp,List.length_append,<-HBb.out];simp;omega);clear hpp HGT;go_upto_region 5 with (fail)
    refine wp_region_after (by kernel_rfl) (by kernel_rfl) ?_
    iterate 11 go_big_quiet_step (fail)
    refine wpQuiet_nil ?_;rintro _ ⟨z,rfl⟩;have XZ:=lh (HXk.out.trans z.x);clear k1 k2;go_wp2_with fail;go_roundw
    case rel=>exact ⟨k+1,b+1,by omega,by omega,by go_num,by go_num,HL.out,by omega,XZ.out⟩
    case measure=>simp [intOf] <;> omega
   ·rw [decide_eq_false hpp] at hpe;have HL:=lh (show b+(grp (l.take (i+1)) x.path).length=(grp (l.take (k+1)) x.path).length from by rw [HGT.out,if_neg hpp,List.append_nil];exact HBb.out);clear hpp HGT;go_upto_region 5 with (fail)
    refine wp_region_after (by kernel_rfl) (by kernel_rfl) ?_
    iterate 11 go_big_quiet_step (fail)
    refine wpQuiet_nil ?_;rintro _ ⟨z,rfl⟩;have XZ:=lh (HXk.out.trans z.x);clear k1 k2;go_wp2_with fail;go_roundw
    case rel=>exact ⟨k+1,b,by omega,by omega,rfl,by go_num,HL.out,by omega,XZ.out⟩
    case measure=>simp [intOf] <;> omega
  ·obtain rfl:n=k:=by omega
   have hbC:b=C:=by
    have h1:=HBb.out;have h2:l.take n=l:=by rw [HN.out,List.take_length]
    rw [h2] at h1
    have h3:(grp l x.path).length=(grp (l.take (i+1)) x.path).length+C:=by
     rw [HCC.out,<-List.length_append,<-grp_app,List.take_append_drop]
    omega
   subst hbC;obtain ⟨w5,rfl⟩:∃ q,q=wr:=⟨_,rfl⟩;have X5:=lh (X0.out.trans HXk.out);have HRx:=lh (HRA.out w5 X5.out);have HAx:=lh (fun w'=>rage19 x now w');obtain ⟨A,hA⟩:∃ A,A=ageI x.time now:=⟨_,rfl⟩;have HAE:=lh hA;rw [<-hA] at HAx;obtain ⟨aa0,aa1⟩:=ageI_bd x.time now;rw [<-hA] at aa0 aa1;unfold entA at HAx;have HAg:=lh (show agedY p now x=(decide (0<p.age)&&decide (p.age<A)) from by unfold agedY;rw [hA]);clear hA HBb
   go_wp2_with (first
    | (refine wpList_load_mid rfl 94 (.tmp 41) rfl g (i*4) rfl (entV x) _ HRx.out underlying94 rfl (by kernel_rfl) ?_;go_frame))
   refine (HAx.out _).mono ?_;rintro e w6 ⟨rfl,x6⟩;have HX6:=lh (HXk.out.trans x6);have HB6:=lh ((HX6.out.block (ltB HB.out)).trans HB.out);have m0:w6.cell? ⟨w.heap.size,0,none⟩=some (.int .i64 p.kind):=(cellB HB6.out).trans HP0.out;have m1:w6.cell? ⟨w.heap.size,1,none⟩=some (.int .i64 p.keep):=(cellB HB6.out).trans HP1.out;have m2:w6.cell? ⟨w.heap.size,2,none⟩=some (.int .i64 p.age):=(cellB HB6.out).trans HP2.out;clear x6 HAx;by_cases hb0:b=0
   ·have HR:=lh (show R=false from by rw [HG.out,decide_eq_false (by omega)];rfl);have g0:((b:Int)==0)=true:=beq_iff_eq.2 (by omega);clear hb0;go_wp2_with fail;go_ret;exact ⟨by rw [HR.out];rfl,X0.out.trans HX6.out⟩
   ·have g0:((b:Int)==0)=false:=beq_eq_false_iff_ne.2 (by omega);obtain ⟨tb,htb⟩:∃ tb:Bool,tb=((decide (0<p.age)&&decide (p.age<A))||((p.kind==2)&&decide (p.keep<=(b:Int)))):=⟨_,rfl⟩;have HTB:=lh htb
    have hkb:decide (p.keep<1+(b:Int))=decide (p.keep<=(b:Int)):=by
     rw [decide_eq_decide];omega
    have HG2:=lh (show R=(tb||((p.kind==3)&&SB)) from by rw [HG.out,decide_eq_true (show 0<b by omega),Bool.true_and,HAg.out,hkb,htb]);clear htb hkb hb0;go_upto_region 10 with (fail)
    go_cut [66] from 47 to 66 (fun sx wx=>sx=.bool tb/\wx=w6)
    case first =>
     by_cases hp0:0<p.age
     ·have g5:decide (0<p.age)=true:=decide_eq_true hp0;by_cases hpa:p.age<A
      ·have g6:decide (p.age<A)=true:=decide_eq_true hpa;clear hp0 hpa;have e0:tb=true:=by rw [HTB.out];simp [*]
       subst e0;go_wp2;go_meet
       case rel=>exact ⟨rfl,rfl⟩
      ·have g6:decide (p.age<A)=false:=decide_eq_false hpa;clear hp0 hpa;by_cases hk2:p.kind=2
       ·have gk:(p.kind==2)=true:=beq_iff_eq.2 hk2;by_cases hke:p.keep<=(b:Int)
        ·have g8:decide (p.keep<=(b:Int))=true:=decide_eq_true hke;clear hk2 hke;have e0:tb=true:=by rw [HTB.out];simp [*]
         subst e0;go_wp2;go_meet
         case rel=>exact ⟨rfl,rfl⟩
        ·have g8:decide (p.keep<=(b:Int))=false:=decide_eq_false hke;clear hk2 hke;have e0:tb=false:=by rw [HTB.out];simp [*]
         subst e0;go_wp2;go_meet
         case rel=>exact ⟨rfl,rfl⟩
       ·have gk:(p.kind==2)=false:=beq_eq_false_iff_ne.2 hk2;clear hk2;have e0:tb=false:=by rw [HTB.out];simp [*]
        subst e0;go_wp2;go_meet
        case rel=>exact ⟨rfl,rfl⟩
     ·have g5:decide (0<p.age)=false:=decide_eq_false hp0;clear hp0;by_cases hk2:p.kind=2
      ·have gk:(p.kind==2)=true:=beq_iff_eq.2 hk2;by_cases hke:p.keep<=(b:Int)
       ·have g8:decide (p.keep<=(b:Int))=true:=decide_eq_true hke;clear hk2 hke;have e0:tb=true:=by rw [HTB.out];simp [*]
        subst e0;go_wp2;go_meet
        case rel=>exact ⟨rfl,rfl⟩
       ·have g8:decide (p.keep<=(b:Int))=false:=decide_eq_false hke;clear hk2 hke;have e0:tb=false:=by rw [HTB.out];simp [*]
        subst e0;go_wp2;go_meet
        case rel=>exact ⟨rfl,rfl⟩
      ·have gk:(p.kind==2)=false:=beq_eq_false_iff_ne.2 hk2;clear hk2;have e0:tb=false:=by rw [HTB.out];simp [*]
       subst e0;go_wp2;go_meet
       case rel=>exact ⟨rfl,rfl⟩
    case rest =>
    obtain ⟨hs,hw6⟩:=hcut;have hw6':=hw6.symm;subst hs;clear hw6;subst hw6'
    cases tb with
    | true =>
     have HR:=lh (show R=true from by rw [HG2.out];rfl);go_wp2_with fail;go_ret;exact ⟨by rw [HR.out];rfl,X0.out.trans HX6.out⟩
    | false =>
     by_cases hk3:p.kind=3
     case neg =>
      have g3:(p.kind != 3)=true:=bne_iff_ne.2 hk3;have g4:(p.kind==3)=false:=beq_eq_false_iff_ne.2 hk3;have HR:=lh (show R=false from by rw [HG2.out,g4];rfl);clear hk3;go_wp2_with fail;go_ret;exact ⟨by rw [HR.out];rfl,X0.out.trans HX6.out⟩
     have g3:(p.kind != 3)=false:=by rw [hk3];rfl
     have g4:(p.kind==3)=true:=beq_iff_eq.2 hk3;have HR2:=lh (show R=SB from by rw [HG2.out,g4];rfl);have HBA:=lh (fun w'=>rbucket19 A w' aa0 aa1);have HKA:=lh (show bkE now x=bktI A from by unfold bkE;rw [<-HAE.out]);generalize bktI A=KA at *;clear hk3;go_wp2_with (refine (HBA.out _).mono ?_;rintro e w7 ⟨rfl,rfl⟩);go_loopw [14] (fun kv wr=>Hid (∃ k:Nat,k<=i/\kv=.int .i64 k/\(∀ t y,t<k->l[t]?=some y->¬ (y.path=x.path/\sameY p now x y=true))/\Ext wA wr)) (fun kv _=>i - (intOf kv).toNat)
     case atStart=>exact ⟨0,Nat.zero_le _,rfl,fun t y ht=>absurd ht (Nat.not_lt_zero _),HX6.out⟩
     case round =>
      obtain ⟨k,hk,rfl,hno,hxk⟩:=hrel.out;clear hrel HX6 HB6;have HNo:=lh hno;have HXk:=lh hxk;clear hno;by_cases hlt:k<i
      ·obtain ⟨y,hyk⟩:∃ y,l[k]?=some y:=⟨_,List.getElem?_eq_getElem (by have:=HN.out;omega)⟩;obtain ⟨g',e1,hrb⟩:=HAT.out k y hyk
       cases e1
       have hkn:k<n:=by omega
       have HYK:=lh hyk;have HRB:=lh hrb;have HRy:=lh (hrb wr (X0.out.trans hxk));have HAy:=lh (fun w'=>rage19 y now w');obtain ⟨B,hB⟩:∃ B,B=ageI y.time now:=⟨_,rfl⟩;have HBE:=lh hB;rw [<-hB] at HAy;obtain ⟨bb0,bb1⟩:=ageI_bd y.time now;rw [<-hB] at bb0 bb1;unfold entA at HAy;have HBB:=lh (fun w'=>rbucket19 B w' bb0 bb1);have HKB:=lh (show bkE now y=bktI B from by unfold bkE;rw [<-HBE.out]);have HAgy:=lh (show agedY p now y=(decide (0<p.age)&&decide (p.age<B)) from by unfold agedY;rw [hB]);have HSm:=lh (show sameY p now x y=(!agedY p now y&&decide (bkE now y=bkE now x)) from rfl);generalize bktI B=KB at *;clear hyk hrb hB hxk
       go_wp2_with (first
        | (refine wpList_load_mid rfl 94 (.tmp 82) rfl g (k*4) rfl (entV y) _ HRy.out underlying94 rfl (by kernel_rfl) ?_;go_frame))
       refine (HAy.out _).mono ?_;rintro e w8 ⟨rfl,x8⟩;have HX8:=lh (HXk.out.trans x8);clear x8 HAy;go_wp2_with (refine (HBB.out _).mono ?_;rintro e w9 ⟨rfl,rfl⟩);have HB8:=lh ((HX8.out.block (ltB HB.out)).trans HB.out);have k1:∀ z:After w8,z.v.cell? ⟨g,k*4+1,none⟩=some (.string y.path):=fun z=>HRB.out z.v (X0.out.trans (HX8.out.trans z.x)) 1 _ rfl;have k2:∀ z:After w8,z.v.cell? ⟨g,i*4+1,none⟩=some (.string x.path):=fun z=>HRA.out z.v (X0.out.trans (HX8.out.trans z.x)) 1 _ rfl;have k3:∀ z:After w8,z.v.cell? ⟨w.heap.size,2,none⟩=some (.int .i64 p.age):=fun z=>(cellB ((z.x.block (ltB HB8.out)).trans HB8.out)).trans HP2.out;have hpe:=ba_beq y.path x.path;by_cases hpp:y.path=x.path
       case neg =>
        rw [decide_eq_false hpp] at hpe;have HPP:=lh hpp;clear hpp;go_upto_region 20 with (fail)
        refine wp_region_after (by kernel_rfl) (by kernel_rfl) ?_
        iterate 32 go_big_quiet_step (fail)
        refine wpQuiet_nil ?_;rintro _ ⟨z,rfl⟩;have XZ:=lh (HX8.out.trans z.x);clear k1 k2 k3;go_wp2_with fail;go_roundw
        case rel=>exact ⟨k+1,by omega,by go_num,fun t y' ht hy'=>by
         by_cases e:t=k
         ·subst e;rw [HYK.out] at hy'
          cases hy'
          exact fun q=>HPP.out q.1
         ·exact HNo.out t y' (by omega) hy',XZ.out⟩
        case measure=>simp [intOf] <;> omega
       rw [decide_eq_true hpp] at hpe;have HPP:=lh hpp;clear hpp;by_cases e1:KA.1=KB.1
       case neg =>
        have g5:(KA.1+1==KB.1+1)=false:=beq_eq_false_iff_ne.2 (by omega);have HF:=lh (show ¬ sameY p now x y=true from by rw [HSm.out,HKA.out,HKB.out,decide_eq_false (fun q=>e1 (by rw [q])),Bool.and_false];simp);clear e1;go_upto_region 20 with (fail)
        refine wp_region_after (by kernel_rfl) (by kernel_rfl) ?_
        iterate 32 go_big_quiet_step (fail)
        refine wpQuiet_nil ?_;rintro _ ⟨z,rfl⟩;have XZ:=lh (HX8.out.trans z.x);clear k1 k2 k3;go_wp2_with fail;go_roundw
        case rel=>exact ⟨k+1,by omega,by go_num,fun t y' ht hy'=>by
         by_cases e:t=k
         ·subst e;rw [HYK.out] at hy'
          cases hy'
          exact fun q=>HF.out q.2
         ·exact HNo.out t y' (by omega) hy',XZ.out⟩
        case measure=>simp [intOf] <;> omega
       have g5:(KA.1+1==KB.1+1)=true:=beq_iff_eq.2 (by omega);by_cases e2:KA.2=KB.2
       case neg =>
        have g6:(KA.2==KB.2)=false:=beq_eq_false_iff_ne.2 e2;have HF:=lh (show ¬ sameY p now x y=true from by rw [HSm.out,HKA.out,HKB.out,decide_eq_false (fun q=>e2 (by rw [q])),Bool.and_false];simp);clear e1 e2;go_upto_region 20 with (fail)
        refine wp_region_after (by kernel_rfl) (by kernel_rfl) ?_
        iterate 32 go_big_quiet_step (fail)
        refine wpQuiet_nil ?_;rintro _ ⟨z,rfl⟩;have XZ:=lh (HX8.out.trans z.x);clear k1 k2 k3;go_wp2_with fail;go_roundw
        case rel=>exact ⟨k+1,by omega,by go_num,fun t y' ht hy'=>by
         by_cases e:t=k
         ·subst e;rw [HYK.out] at hy'
          cases hy'
          exact fun q=>HF.out q.2
         ·exact HNo.out t y' (by omega) hy',XZ.out⟩
        case measure=>simp [intOf] <;> omega
       have g6:(KA.2==KB.2)=true:=beq_iff_eq.2 e2;have HSame:=lh (show sameY p now x y=!agedY p now y from by rw [HSm.out,HKA.out,HKB.out,decide_eq_true (show KB=KA from Prod.ext e1.symm e2.symm),Bool.and_true]);clear e1 e2
       have HSt:=lh (fun (q:sameY p now x y=true)=>(by
        rw [HR2.out,HSB.out,List.any_eq_true]
        exact ⟨y,List.mem_filter.2 ⟨List.mem_of_getElem? (i:=k) (by rw [List.getElem?_take,if_pos hlt];exact HYK.out),decide_eq_true HPP.out⟩,q⟩:R=true))
       by_cases e3:p.age=0
       ·have g7:(p.age==0)=true:=beq_iff_eq.2 e3;have HYes:=lh (show R=true from HSt.out (by rw [HSame.out,HAgy.out,decide_eq_false (by omega)];rfl));clear e3;go_upto_region 20 with (fail)
        refine wp_region_after (by kernel_rfl) (by kernel_rfl) ?_
        iterate 32 go_big_quiet_step (fail)
        refine wpQuiet_nil ?_;rintro _ ⟨z,rfl⟩;have XZ:=lh (HX8.out.trans z.x);clear k1 k2 k3;go_wp2_with fail;go_ret;exact ⟨by rw [HYes.out];rfl,X0.out.trans XZ.out⟩
       ·have g7:(p.age==0)=false:=beq_eq_false_iff_ne.2 e3;by_cases e4:B<=p.age
        ·have HYes:=lh (show R=true from HSt.out (by rw [HSame.out,HAgy.out,decide_eq_false (show ¬ p.age<B by omega),Bool.and_false];rfl));have g8:decide (B<=p.age)=true:=decide_eq_true e4;clear e3 e4;go_upto_region 20 with (fail)
         refine wp_region_after (by kernel_rfl) (by kernel_rfl) ?_
         iterate 32 go_big_quiet_step (fail)
         refine wpQuiet_nil ?_;rintro _ ⟨z,rfl⟩;have XZ:=lh (HX8.out.trans z.x);clear k1 k2 k3;go_wp2_with fail;go_ret;exact ⟨by rw [HYes.out];rfl,X0.out.trans XZ.out⟩
        ·have HF:=lh (show ¬ sameY p now x y=true from by rw [HSame.out,HAgy.out,decide_eq_true (show 0<p.age by omega),decide_eq_true (show p.age<B by omega)];simp);have g8:decide (B<=p.age)=false:=decide_eq_false e4;clear e3 e4;go_upto_region 20 with (fail)
         refine wp_region_after (by kernel_rfl) (by kernel_rfl) ?_
         iterate 32 go_big_quiet_step (fail)
         refine wpQuiet_nil ?_;rintro _ ⟨z,rfl⟩;have XZ:=lh (HX8.out.trans z.x);clear k1 k2 k3;go_wp2_with fail;go_roundw
         case rel=>exact ⟨k+1,by omega,by go_num,fun t y' ht hy'=>by
          by_cases e:t=k
          ·subst e;rw [HYK.out] at hy'
           cases hy'
           exact fun q=>HF.out q.2
          ·exact HNo.out t y' (by omega) hy',XZ.out⟩
         case measure=>simp [intOf] <;> omega
      ·obtain rfl:k=i:=by omega
       have HR:=lh (show R=false from by
        rw [HR2.out,HSB.out,List.any_eq_false];intro y hy;obtain ⟨hy1,hy2⟩:=List.mem_filter.1 hy;obtain ⟨t,ht⟩:=List.getElem?_of_mem hy1;rw [List.getElem?_take] at ht;split at ht
        ·have:=HNo.out t y (by assumption) ht;intro q;exact this ⟨of_decide_eq_true hy2,q⟩
        ·cases ht)
       go_wp2_with fail;go_ret;exact ⟨by rw [HR.out];rfl,X0.out.trans HXk.out⟩
end
section
open Go.RowKit
attribute [local go_sem] Oper.semAt_some
theorem elRef:ElemK prog 91 94 (.agg #[.string ⟨#[]⟩,.string ⟨#[]⟩,.int .i64 0,.int .i64 0]) 4 48:=⟨by kernel_rfl,by kernel_rfl,rfl,by decide,by decide⟩
theorem block_cells (g:Nat) (t:TypeId):∀ (vs:List Value) (o:Nat) (w:World) (cur:Array Value),w.heap[g]?=some (.cells cur t (0,0))->∃ cur',(w.setCells g o vs).heap[g]?=some (.cells cur' t (0,0))/\cur'.size=cur.size
 | [],_,_,cur,h=>⟨cur,h,rfl⟩
 | v::r,o,w,cur,h=>by
  have h1:=setCellB (k:=o) (u:=v) h;obtain ⟨cur',h2,h3⟩:=block_cells g t r (o+1) _ _ h1;exact ⟨cur',h2,by rw [h3,Array.size_setIfInBounds]⟩
theorem row_owns {w:World} {base g cap:Nat} {t:TypeId} {cur:Array Value} {l:List Ent} (hb:base<=g) (hh:w.heap[g]?=some (.cells cur t (0,0))) (hs:cur.size=cap*4) (hl:l.length<=cap) (hc:cap<=maxLen) (hr:w.rangeAt g 0 (entsV l)):w.ownsRow base t 4 (.slice (some ⟨g,0,none⟩) l.length cap) l.length (entsV l):=by
 refine ⟨entsV_len l,.inr ⟨g,cap,cur,rfl,hb,hh,hl,hc,hs,?_⟩⟩;refine List.ext_getElem? fun j=>?_;rw [List.getElem?_take];split
 ·rename_i hj;obtain ⟨u,hu⟩:∃ u,(entsV l)[j]?=some u:=⟨_,List.getElem?_eq_getElem (by rw [entsV_len];exact hj)⟩;have:=hr j u hu;rw [Nat.zero_add,cellB hh] at this;rw [hu,Array.getElem?_toList];exact this
 ·rw [List.getElem?_eq_none (by rw [entsV_len];omega)]
theorem owns_row {w:World} {base n cap:Nat} {t:TypeId} {a:Option Addr} {l:List Ent} (h:w.ownsRow base t 4 (.slice a n cap) n (entsV l)) (hn:n=l.length) (h0:0<n):∃ g cur,a=some ⟨g,0,none⟩/\base<=g/\w.heap[g]?=some (.cells cur t (0,0))/\n<=cap/\cap<=maxLen/\cur.size=cap*4/\RowE w g l:=by
 subst hn;rcases h.2 with ⟨e,h1⟩ | ⟨g,cap',cur,e,hb,hh,k1,k2,k3,k4⟩
 ·injection e with e1 e2 e3
  omega
 ·cases e
  refine ⟨g,cur,rfl,hb,hh,k1,k2,k3,ltB hh,fun j x hx=>?_,fun j hj=>⟨?_,frozenB hh⟩⟩
  ·rw [Nat.zero_add];refine (cellB hh).trans ?_;rw [<-k4,List.getElem?_take] at hx;split at hx
   ·rw [<-Array.getElem?_toList];exact hx
   ·cases hx
  ·rw [Nat.zero_add,cellB hh,Array.getElem?_eq_getElem (by omega)];rfl
theorem RowE.splice {w:World} {g:Nat} {l M:List Ent} (h:RowE w g l) {o:Nat} (ho:o+M.length<=l.length):RowE (w.setCells g (o*4) (entsV M)) g (l.take o++M++l.drop (o+M.length))/\Touch g w (w.setCells g (o*4) (entsV M)):=by
 obtain ⟨hs,hT⟩:=touch_cells g (entsV M) (o*4) w;have hlen:(l.take o++M++l.drop (o+M.length)).length=l.length:=by simp only [List.length_append,List.length_take,List.length_drop];omega
 have hth:w.there g (o*4) (entsV M).length:=fun j hj=>by
  rw [entsV_len] at hj;have:=h.th (o*4+j) (by omega)
  rwa [Nat.zero_add] at this
 refine ⟨⟨by rw [hs];exact h.lt,fun j v hj=>?_,?_⟩,hT⟩
 ·obtain ⟨y,hy,hv⟩:=ents_div hj;by_cases c1:j / 4<o
  ·rw [List.append_assoc,List.getElem?_append_left (by rw [List.length_take];omega),List.getElem?_take,if_pos c1] at hy;rw [World.cell?_setCells_out g (entsV M) (o*4) w _ (fun _ _=>by show 0+j<_\/_;omega)];have:=h.ent hy _ _ hv;rw [show j / 4*4+j % 4=0+j from by omega] at this;exact this
  ·by_cases c2:j / 4<o+M.length
   ·rw [List.append_assoc,List.getElem?_append_right (by rw [List.length_take];omega),List.length_take,List.getElem?_append_left (by omega)] at hy
    have:=World.rangeAt_setCells_same w g (o*4) (entsV M) hth (j - o*4) v (by
     have:=ents_get hy (Nat.mod_lt j (by omega:0<4));rw [show (j / 4 - min o l.length)*4+j % 4=j - o*4 from by omega] at this
     exact this.trans hv)
    rw [show o*4+(j - o*4)=0+j from by omega] at this;exact this
   ·rw [List.getElem?_append_right (by simp only [List.length_append,List.length_take];omega),List.getElem?_drop] at hy;simp only [List.length_append,List.length_take] at hy;rw [show o+M.length+(j / 4 - (min o l.length+M.length))=j / 4 from by omega] at hy;rw [World.cell?_setCells_out g (entsV M) (o*4) w _ (fun _ _=>by show 0+j<_\/o*4+(entsV M).length<=0+j;rw [entsV_len];omega)];have:=h.ent hy _ _ hv;rw [show j / 4*4+j % 4=0+j from by omega] at this;exact this
 ·rw [hlen];exact World.there_setCells h.th g (o*4) (entsV M)
theorem run_copy_ents {w:World} {g o o' dl dc sl sc:Nat} {ty:TypeId} {M:List Ent} (hM:M.length=Nat.min sl dl) (hsrc:w.rangeAt g o' (entsV M)) (hth:w.there g o (M.length*4)) :
  (Builtin.copy_ #[91,91] ty #[.slice (some ⟨g,o,none⟩) dl dc,.slice (some ⟨g,o',none⟩) sl sc]).run prog w=.ok (goInt M.length) (w.setCells g o (entsV M)):=by
 have hl:=run_loadCells_list (P:=prog) w ⟨g,o',none⟩ (entsV M) (fun j v hj=>by
  rw [show (⟨g,o',none⟩:Addr).add j=⟨g,o'+j,none⟩ from by unfold Addr.add;split <;> simp_all]
  exact hsrc j v hj)
 have hst:=run_storeCells_cells (P:=prog) g o (entsV M) 0 w (fun j hj=>by rw [Nat.add_zero];exact (hth j (by rwa [entsV_len] at hj)).1) (fun j hj=>by rw [Nat.add_zero];exact (hth j (by rwa [entsV_len] at hj)).2) entsV_one;rw [Nat.add_zero] at hst;rw [entsV_len] at hl;have hu:=elRef.ut;obtain ⟨i,hi,hz,hs,hb⟩:=info_parts elRef.info;simp [Builtin.copy_,run_underlying hu,Builtin.lenOf,Builtin.firstCells,sizeOf,typeInfo,hi,hs,<-hM,hl,hst]
theorem wpList_copyM {P:Program} {w:World} {ops:Array Oper} {rest:List Oper} {o:Oper} {a:Act} {Q:Exit->Act->World->Prop} (hgd:o.guard=none) (d s:Operand) (t t':TypeId)
  (ho:o.op=.call { callee:=.builtin .copy,args:=#[d,s],argTypes:=#[t,t'] }) (v u:Value) (hd:a.eval d=v) (hs:a.eval s=u) {v':Value} {w':World}
  (hr:(Builtin.copy_ #[t,t'] o.type #[v,u]).run P w=.ok v' w') (h:∀ w1,w1=w'->wpList P ops Q rest (a.put o.dst v') w1):wpList P ops Q (o::rest) a w :=
 wpList_plain hgd fun _ hK=>by
  unfold Oper.wp execOp;simp only [ho,resolve,invoke,builtin,Sem.run_bind,Sem.run_pure,Result.andThen_ok,List.map_toArray,List.map_cons,List.map_nil,hd,hs,hr];exact hK _ _ (h _ rfl)
def zE:Ent:=⟨⟨#[]⟩,⟨#[]⟩,0,0⟩
theorem entsV_sn {w:World} {base n:Nat} {e:TypeId} {v:Value} {l:List Ent} {x:Ent} (h:w.ownsRow base e 4 v n (entsV l++entV x)):w.ownsRow base e 4 v n (entsV (l++[x])):=by
 rw [show entsV (l++[x])=entsV l++entV x from by unfold entsV;rw [List.flatMap_append];simp];exact h
theorem RowE.part {w:World} {g:Nat} {A M B:List Ent} (h:RowE w g (A++M++B)):w.rangeAt g (A.length*4) (entsV M):=fun j v hj=>by
 obtain ⟨x,hx,hv⟩:=ents_div hj;have hlt:=(List.getElem?_eq_some_iff.1 hx).1
 have hx2:(A++M++B)[A.length+j / 4]?=some x:=by
  rw [List.append_assoc,List.getElem?_append_right (by omega),Nat.add_sub_cancel_left,List.getElem?_append_left hlt];exact hx
 have:=h.ent hx2 _ _ hv;rw [show (A.length+j / 4)*4+j % 4=A.length*4+j from by omega] at this;exact this
theorem ins_is (d:List Ent) (z x:Ent) {a:Nat} (ha:a<=d.length):((d++[z]).take (a+1)++d.drop a++(d++[z]).drop (a+1+(d.drop a).length)).set a x=d.take a++x::d.drop a:=by
 have h1:(d++[z]).drop (a+1+(d.drop a).length)=[]:=List.drop_eq_nil_of_le (by rw [List.length_append,List.length_drop,List.length_singleton];omega)
 have h2:∃ y,(d++[z]).take (a+1)=d.take a++[y]:=by
  obtain ⟨y,hy⟩:∃ y,(d++[z])[a]?=some y:=⟨_,List.getElem?_eq_getElem (by rw [List.length_append,List.length_singleton];omega)⟩;refine ⟨y,?_⟩;rw [List.take_add_one,hy,List.take_append_of_le_length ha];rfl
 obtain ⟨y,h2⟩:=h2;rw [h1,h2,List.append_nil,List.append_assoc,List.set_append,if_neg (by rw [List.length_take];omega),List.length_take,show a - min a d.length=0 from by omega];rfl
set_option maxRecDepth 100000 in
set_option maxHeartbeats 16000000 in
theorem rord19 {w:World} {v:Value} {l:List Ent} (h:RowsIn w v l) (hl:l.length<=1000) :
  Calls prog 103 #[v] w fun e w'=>∃ u d,e=.returned u/\Hid (Fst l d/\d.length<=l.length/\w'.ownsRow w.heap.size 94 4 u d.length (entsV d)/\Ext w w'):=by
 obtain ⟨ad,cap0,rfl,hc1,hc2,hat⟩:=h;have HAT:=lh hat;obtain ⟨n,hn⟩:∃ n,n=l.length:=⟨_,rfl⟩;have HN:=lh hn;rw [<-hn] at hl hc1 ⊢;clear hat hn;go_enter func103,ntmps103;go_wp2_with fail;go_loopw [3,4] (fun ov iv wr=>Hid (∃ (i:Nat) (d:List Ent),i<=n/\iv=.int .i64 i/\Fst (l.take i) d/\d.length<=i/\wr.ownsRow w.heap.size 94 4 ov d.length (entsV d)/\Ext w wr)) (fun _ iv _=>n - (intOf iv).toNat)
 case atStart=>exact ⟨0,[],Nat.zero_le _,rfl,Fst.nil,Nat.le_refl _,World.ownsRow_nil _ _ _ _,Ext.refl _⟩
 case round =>
  obtain ⟨i,d,hi,rfl,hfs,hdl,ho,hx⟩:=hrel.out;clear hrel;have HFs:=lh hfs;have HO:=lh ho;have HX:=lh hx;obtain ⟨oa,oc,hov⟩:=rowk_shape ho;subst hov;have hrd:=RowsIn.of_owns ho rfl;obtain ⟨_,_,e0,ho1,ho2,hrd2⟩:=hrd
  cases e0
  have HRD:=lh hrd2;clear hfs ho hrd2;by_cases hlt:i<n
  ·obtain ⟨x,hxi⟩:∃ x,l[i]?=some x:=⟨_,List.getElem?_eq_getElem (by have:=HN.out;omega)⟩;obtain ⟨g0,rfl,hra⟩:=HAT.out i x hxi;have HRA:=lh hra;have HT:=lh (show l.take (i+1)=l.take i++[x] from by rw [List.take_add_one,hxi];rfl);obtain ⟨w4,rfl⟩:∃ q,q=wr:=⟨_,rfl⟩;clear hxi hra hx;go_wp2_with fail;go_loopw [5] (fun av wr=>Hid (∃ a:Nat,a<=d.length/\av=.int .i64 a/\(∀ t y,t<a->d[t]?=some y->keyE y<keyE x)/\Ext w4 wr)) (fun av _=>d.length - (intOf av).toNat)
   case atStart=>exact ⟨0,Nat.zero_le _,rfl,fun t y ht=>absurd ht (Nat.not_lt_zero _),Ext.refl _⟩
   case round =>
    obtain ⟨a,ha,rfl,hlo,hxa⟩:=hrel.out;clear hrel;have HLo:=lh hlo;have HXa:=lh hxa;clear hlo;have k2:∀ z:After wr,z.v.cell? ⟨g0,i*4,none⟩=some (.string x.name):=fun z=>HRA.out z.v (HX.out.trans (HXa.out.trans z.x)) 0 _ rfl;by_cases had:a<d.length
    ·obtain ⟨y,hya⟩:∃ y,d[a]?=some y:=⟨_,List.getElem?_eq_getElem had⟩;obtain ⟨g1,e1,hrb⟩:=HRD.out a y hya;subst e1;have HYA:=lh hya;have HRB:=lh hrb;have k1:∀ z:After wr,z.v.cell? ⟨g1,a*4,none⟩=some (.string y.name):=fun z=>hrb z.v (HXa.out.trans z.x) 0 _ rfl;have gd:decide ((a:Int)<(d.length:Int))=true:=decide_eq_true (by omega);clear hya hrb;by_cases hk:keyE y<keyE x
     ·have hb:Go.Op.bytesLess y.name.toList x.name.toList=true:=by rw [bytesLess_eq];exact decide_eq_true hk
      have HK:=lh hk;clear hk;go_upto_region 6 with (fail)
      refine wp_region_after (by kernel_rfl) (by kernel_rfl) ?_
      iterate 17 go_big_quiet_step (fail)
      refine wpQuiet_nil ?_;rintro _ ⟨z,rfl⟩;have XZ:=lh (HXa.out.trans z.x);clear k1 k2;go_wp2_with fail;go_roundw
      case rel=>exact ⟨a+1,by omega,by go_num,fun t y' ht hy'=>by
       by_cases e:t=a
       ·subst e;rw [HYA.out] at hy'
        cases hy'
        exact HK.out
       ·exact HLo.out t y' (by omega) hy',XZ.out⟩
      case measure=>simp [intOf] <;> omega
     ·have hb:Go.Op.bytesLess y.name.toList x.name.toList=false:=by rw [bytesLess_eq];exact decide_eq_false hk
      have HSt:=lh (HFs.out.step (x:=x) HLo.out (fun y' hy'=>by rw [HYA.out] at hy';cases hy';exact hk));clear hk;go_upto_region 6 with (fail)
      refine wp_region_after (by kernel_rfl) (by kernel_rfl) ?_
      iterate 17 go_big_quiet_step (fail)
      refine wpQuiet_nil ?_;rintro _ ⟨z,rfl⟩;obtain ⟨w5,hw5⟩:∃ w5,w5=z.v:=⟨_,rfl⟩;have HX5:=lh (show Ext w4 w5 from hw5▸HXa.out.trans z.x);rw [<-hw5];clear hw5 k1 k2;have k1:∀ z:After w5,z.v.cell? ⟨g1,a*4,none⟩=some (.string y.name):=fun z=>HRB.out z.v (HX5.out.trans z.x) 0 _ rfl;have k2:∀ z:After w5,z.v.cell? ⟨g0,i*4,none⟩=some (.string x.name):=fun z=>HRA.out z.v (HX.out.trans (HX5.out.trans z.x)) 0 _ rfl;have hbe:=ba_beq y.name x.name;by_cases he:y.name=x.name
      ·rw [decide_eq_true he] at hbe;have HF:=lh (show Fst (l.take (i+1)) d from by rw [HT.out];exact HSt.out.1 y HYA.out (by unfold keyE;rw [he]));clear he;go_upto_region 8 with (fail)
       refine wp_region_after (by kernel_rfl) (by kernel_rfl) ?_
       iterate 17 go_big_quiet_step (fail)
       refine wpQuiet_nil ?_;rintro _ ⟨z,rfl⟩;have XZ:=lh (HX.out.trans (HX5.out.trans z.x));have HOz:=lh (owns_ext HO.out (HX5.out.trans z.x));clear k1 k2;go_wp2_with fail;go_roundw
       case rel=>exact ⟨i+1,d,by omega,by go_num,HF.out,by omega,HOz.out,XZ.out⟩
       case measure=>simp [intOf] <;> omega
      ·rw [decide_eq_false he] at hbe
       have HF:=lh (show Fst (l.take (i+1)) (d.take a++x::d.drop a) from by
        rw [HT.out]
        exact HSt.out.2 fun y' hy' q=>by
         rw [HYA.out] at hy'
         cases hy'
         exact he (ba_ext q))
       clear he;go_upto_region 8 with (fail)
       refine wp_region_after (by kernel_rfl) (by kernel_rfl) ?_
       iterate 17 go_big_quiet_step (fail)
       refine wpQuiet_nil ?_;rintro _ ⟨z,rfl⟩;obtain ⟨w6,hw6⟩:∃ w6,w6=z.v:=⟨_,rfl⟩;have HX6:=lh (show Ext w w6 from hw6▸HX.out.trans (HX5.out.trans z.x));have HO6:=lh (show w6.ownsRow w.heap.size 94 4 (.slice (some ⟨g1,0,none⟩) d.length oc) d.length (entsV d) from hw6▸owns_ext HO.out (HX5.out.trans z.x));rw [<-hw6];clear hw6 k1 k2 hbe hb gd HX5 HXa;have Hown:=lh (owns_ext HO6.out ((Ext.refl w6).alloc (.cells #[.string ⟨#[]⟩,.string ⟨#[]⟩,.int .i64 0,.int .i64 0] 94 (0,0))));have Bn:=lh (block_alloc_new w6 (.cells #[.string ⟨#[]⟩,.string ⟨#[]⟩,.int .i64 0,.int .i64 0] 94 (0,0)));have Xn:=lh (HX6.out.alloc (.cells #[.string ⟨#[]⟩,.string ⟨#[]⟩,.int .i64 0,.int .i64 0] 94 (0,0)))
       go_wp2_with (first
        | (refine wpList_buildOne elRef (by decide) rfl (.tmp 49) rfl #[.string ⟨#[]⟩,.string ⟨#[]⟩,.int .i64 0,.int .i64 0] rfl rfl ?_;go_frame)
        | (at_builtin;refine append_kw elRef w.heap.size (.slice (some ⟨g1,0,none⟩) d.length oc) d.length (entsV d) Hown.out w6.heap.size [.string ⟨#[]⟩,.string ⟨#[]⟩,.int .i64 0,.int .i64 0] rfl (.tmp 48) (.tmp 50) rfl rfl rfl rfl (fun j u hj=>(cellB Bn.out).trans (by simpa using hj)) (by simp [Value.oneCell']) (by omega) Xn.out.size ?_;intro v7 w7 ho7 hg7 hi7 hv7;have HO7:=lh ho7;have HG7:=lh hg7;clear ho7 hg7 hi7 hv7;go_frame))
       obtain ⟨a7,cap,hv7⟩:=rowk_shape HO7.out;subst hv7;have hO:=entsV_sn (x:=zE) HO7.out;obtain ⟨g,cur,rfl,hbg,hh,hcl,hcm,hcs,hR⟩:=owns_row hO (by simp) (Nat.succ_pos _);have X7:=lh (ext_own Xn.out (Nat.le_refl _) Hown.out HG7.out);obtain ⟨a1,ha1⟩:∃ a1,a1=a+1:=⟨_,rfl⟩;have q1:IntKind.i64.wrap ((a:Int)+1)=(a1:Int):=by rw [IntWalk.i64_in _ (by omega)];omega
       have hcm2:cap<=9223372036854775807:=hcm;obtain ⟨wd,hwd⟩:∃ wd,wd=w7.drew:=⟨_,rfl⟩;have hRd:RowE wd g (d++[zE]):=hwd▸hR.ext (Ext.refl w7).drew;have hhd:wd.heap[g]?=some (.cells cur 94 (0,0)):=by rw [hwd];exact hh
       have hsp:=hRd.splice (o:=a1) (M:=d.drop a) (by rw [List.length_drop,List.length_append,List.length_singleton];omega)
       have hsrc:wd.rangeAt g (a*4) (entsV (d.drop a)):=by
        have h1:d++[zE]=d.take a++d.drop a++[zE]:=by rw [List.take_append_drop]
        rw [h1] at hRd;have:=hRd.part
        rwa [List.length_take,show min a d.length=a from by omega] at this
       obtain ⟨cur2,hb2,hs2⟩:=block_cells g _ (entsV (d.drop a)) (a1*4) wd cur hhd
       obtain ⟨o1,hif,ho1⟩:∃ o1,(if cap=a1 then (some ⟨g,0,none⟩:Option Addr) else some ⟨g,a1*4,none⟩)=some ⟨g,o1,none⟩/\wd.setCells g o1 (entsV (d.drop a))=wd.setCells g (a1*4) (entsV (d.drop a))/\wd.there g o1 ((d.drop a).length*4):=by
        have hth:wd.there g (a1*4) ((d.drop a).length*4):=fun j hj=>by rw [List.length_drop] at hj;have:=hRd.th (a1*4+j) (by rw [List.length_append,List.length_singleton];omega);rwa [Nat.zero_add] at this
        by_cases hq:cap=a1
        ·have hnil:d.drop a=[]:=List.drop_eq_nil_of_le (by omega);exact ⟨0,by rw [if_pos hq],by rw [hnil];rfl,fun j hj=>by rw [hnil] at hj;simp at hj⟩
        ·exact ⟨a1*4,by rw [if_neg hq],rfl,hth⟩
       have hca:¬ cap=a:=by omega
       have hz1:(a1:Int)<=(d.length:Int)+1:=by omega
       have hz2:(a:Int)<=(d.length:Int)+1:=by omega
       have hcp:=fun ty=>run_copy_ents (w:=wd) (g:=g) (o:=o1) (o':=a*4) (dl:=d.length+1 - a1) (dc:=cap - a1) (sl:=d.length+1 - a) (sc:=cap - a) (ty:=ty) (M:=d.drop a) (by rw [List.length_drop];show _=min _ _;omega) hsrc ho1.2;rw [ho1.1] at hcp;have HCp:=lh hcp;generalize hw8:wd.setCells g (a1*4) (entsV (d.drop a))=w8 at *;have HT8:=lh (show Touch g w7 w8 from (hwd▸Touch.of (Ext.refl w7).drew:Touch g w7 wd).trans hsp.2);have HR8:=lh hsp.1
       have hl8:((d++[zE]).take a1++d.drop a++(d++[zE]).drop (a1+(d.drop a).length)).length=d.length+1:=by
        simp only [List.length_append,List.length_take,List.length_drop,List.length_singleton];omega
       obtain ⟨hs9,hT9⟩:=HR8.out.store (k:=a) (by rw [hl8];omega) x;have hlist:=ins_is d zE x ha;rw [<-ha1] at hlist;rw [hlist] at hs9;obtain ⟨cur3,hb3,hs3⟩:=block_cells g _ (entV x) (a*4) w8 cur2 hb2;have hlen9:(d.take a++x::d.drop a).length=d.length+1:=by simp only [List.length_append,List.length_take,List.length_cons,List.length_drop];omega
       have HO9:=lh (row_owns (base:=w.heap.size) (cap:=cap) hbg hb3 (by rw [hs3,hs2,hcs]) (by rw [hlen9];exact hcl) hcm hs9.at');rw [hlen9] at HO9;have HX9:=lh ((HT8.out.trans hT9).fresh X7.out hbg);have HX8:=lh (HT8.out.fresh X7.out hbg);have HRX:=lh (HRA.out w8 HX8.out);have HTh:=lh (show w8.there g (a*4) (entV x).toArray.size from HR8.out.room (by rw [hl8];omega));clear ha1 ho1 hs9 hT9 hlist hb3 hs3 hb2 hs2 hsp hsrc hRd hhd hR hh hO hcs hcm hcp hl8 HO7 HG7;refine wp_region_head (S:=fun _=>True) (n:=7) (by kernel_rfl) (by kernel_rfl) ?_;rw [<-hwd];clear hwd;refine HeadAt.take (i:=0) (v:=.slice (some ⟨g,0,none⟩) (d.length+1) cap) rfl (by kernel_rfl) (by kernel_rfl) (by kernel_rfl) (by kernel_rfl) (by kernel_rfl) (by kernel_rfl) (by kernel_rfl) (fun _ _ _ h=>h) (yieldsIf_move rfl _ rfl rfl) trivial ?_;go_frame;refine HeadAt.take (i:=1) (v:=.int .i64 a) rfl (by kernel_rfl) (by kernel_rfl) (by kernel_rfl) (by kernel_rfl) (by kernel_rfl) (by kernel_rfl) (by kernel_rfl) (fun _ _ _ h=>h) (yieldsIf_move rfl _ rfl rfl) trivial ?_;go_frame;refine HeadAt.take (i:=2) (v:=.int .i64 a1) rfl (by kernel_rfl) (by kernel_rfl) (by kernel_rfl) (by kernel_rfl) (by kernel_rfl) (by kernel_rfl) (by kernel_rfl) (fun _ _ _ h=>h) (Or.inl ⟨rfl,fun w' _=>by go_simp⟩) trivial ?_;go_frame;refine HeadAt.take (i:=3) (v:=.slice (some ⟨g,o1,none⟩) (d.length+1 - a1) (cap - a1)) rfl (by kernel_rfl) (by kernel_rfl) (by kernel_rfl) (by kernel_rfl) (by kernel_rfl) (by kernel_rfl) (by kernel_rfl) (fun _ _ _ h=>h) (Or.inl ⟨rfl,fun w' _=>by go_simp⟩) trivial ?_;go_frame;refine HeadAt.take (i:=4) (v:=.slice (some ⟨g,0,none⟩) (d.length+1) cap) rfl (by kernel_rfl) (by kernel_rfl) (by kernel_rfl) (by kernel_rfl) (by kernel_rfl) (by kernel_rfl) (by kernel_rfl) (fun _ _ _ h=>h) (yieldsIf_move rfl _ rfl rfl) trivial ?_;go_frame;refine HeadAt.take (i:=5) (v:=.int .i64 a) rfl (by kernel_rfl) (by kernel_rfl) (by kernel_rfl) (by kernel_rfl) (by kernel_rfl) (by kernel_rfl) (by kernel_rfl) (fun _ _ _ h=>h) (yieldsIf_move rfl _ rfl rfl) trivial ?_;go_frame;refine HeadAt.take (i:=6) (v:=.slice (some ⟨g,a*4,none⟩) (d.length+1 - a) (cap - a)) rfl (by kernel_rfl) (by kernel_rfl) (by kernel_rfl) (by kernel_rfl) (by kernel_rfl) (by kernel_rfl) (by kernel_rfl) (fun _ _ _ h=>h) (Or.inl ⟨rfl,fun w' _=>by go_simp⟩) trivial ?_;go_frame;refine HeadAt.done (by kernel_rfl) ?_;refine wpList_copyM rfl (.tmp 55) (.tmp 58) 91 91 rfl (.slice (some ⟨g,o1,none⟩) (d.length+1 - a1) (cap - a1)) (.slice (some ⟨g,a*4,none⟩) (d.length+1 - a) (cap - a)) ?_ ?_ (HCp.out _) ?_
       ·rfl
       ·rfl
       rintro _ rfl;go_frame
       go_wp2_with (first
        | (refine wpList_load_mid rfl 94 (.tmp 64) rfl g0 (i*4) rfl (entV x) _ HRX.out underlying94 rfl (by kernel_rfl) ?_;go_frame)
        | (refine wpList_storeM rfl 94 (.tmp 66) (.tmp 65) rfl g (a*4) (entV x) rfl rfl HTh.out (by kernel_rfl) (by kernel_rfl) ?_;intro w9 hw9;have HW9:=lh hw9;clear hw9;go_frame))
       have HOf:=lh (show w9.ownsRow w.heap.size 94 4 (.slice (some ⟨g,0,none⟩) (d.length+1) cap) (d.length+1) (entsV (d.take a++x::d.drop a)) from by rw [HW9.out];exact HO9.out);have HXf:=lh (show Ext w w9 from by rw [HW9.out];exact HX9.out);clear HW9 HO9 HX9;go_roundw
       case rel=>exact ⟨i+1,_,by omega,by go_num,HF.out,by rw [hlen9];omega,by rw [hlen9];exact HOf.out,HXf.out⟩
       case measure=>simp [intOf] <;> omega
    ·have gd:decide ((a:Int)<(d.length:Int))=false:=decide_eq_false (by omega);have hnone:d[a]?=none:=List.getElem?_eq_none (by omega)
     have HF:=lh (show Fst (l.take (i+1)) (d.take a++x::d.drop a) from by
      rw [HT.out]
      exact (HFs.out.step (x:=x) HLo.out (fun y' hy'=>by rw [hnone] at hy';cases hy')).2 fun y' hy'=>by rw [hnone] at hy';cases hy')
     clear k2 hnone;go_upto_region 6 with (fail)
     refine wp_region_after (by kernel_rfl) (by kernel_rfl) ?_
     iterate 17 go_big_quiet_step (fail)
     refine wpQuiet_nil ?_;rintro _ ⟨z,rfl⟩;obtain ⟨w5,hw5⟩:∃ w5,w5=z.v:=⟨_,rfl⟩;have HX5:=lh (show Ext w4 w5 from hw5▸HXa.out.trans z.x);rw [<-hw5];clear hw5;go_upto_region 8 with (fail)
     refine wp_region_after (by kernel_rfl) (by kernel_rfl) ?_
     iterate 17 go_big_quiet_step (fail)
     refine wpQuiet_nil ?_;rintro _ ⟨z,rfl⟩;obtain ⟨w6,hw6⟩:∃ w6,w6=z.v:=⟨_,rfl⟩;have HX6:=lh (show Ext w w6 from hw6▸HX.out.trans (HX5.out.trans z.x));have HO6:=lh (show w6.ownsRow w.heap.size 94 4 (.slice oa d.length oc) d.length (entsV d) from hw6▸owns_ext HO.out (HX5.out.trans z.x));rw [<-hw6];clear hw6 gd HX5 HXa;have Hown:=lh (owns_ext HO6.out ((Ext.refl w6).alloc (.cells #[.string ⟨#[]⟩,.string ⟨#[]⟩,.int .i64 0,.int .i64 0] 94 (0,0))));have Bn:=lh (block_alloc_new w6 (.cells #[.string ⟨#[]⟩,.string ⟨#[]⟩,.int .i64 0,.int .i64 0] 94 (0,0)));have Xn:=lh (HX6.out.alloc (.cells #[.string ⟨#[]⟩,.string ⟨#[]⟩,.int .i64 0,.int .i64 0] 94 (0,0)))
     go_wp2_with (first
      | (refine wpList_buildOne elRef (by decide) rfl (.tmp 49) rfl #[.string ⟨#[]⟩,.string ⟨#[]⟩,.int .i64 0,.int .i64 0] rfl rfl ?_;go_frame)
      | (at_builtin;refine append_kw elRef w.heap.size (.slice oa d.length oc) d.length (entsV d) Hown.out w6.heap.size [.string ⟨#[]⟩,.string ⟨#[]⟩,.int .i64 0,.int .i64 0] rfl (.tmp 48) (.tmp 50) rfl rfl rfl rfl (fun j u hj=>(cellB Bn.out).trans (by simpa using hj)) (by simp [Value.oneCell']) (by omega) Xn.out.size ?_;intro v7 w7 ho7 hg7 hi7 hv7;have HO7:=lh ho7;have HG7:=lh hg7;clear ho7 hg7 hi7 hv7;go_frame))
     obtain ⟨a7,cap,hv7⟩:=rowk_shape HO7.out;subst hv7;have hO:=entsV_sn (x:=zE) HO7.out;obtain ⟨g,cur,rfl,hbg,hh,hcl,hcm,hcs,hR⟩:=owns_row hO (by simp) (Nat.succ_pos _);have X7:=lh (ext_own Xn.out (Nat.le_refl _) Hown.out HG7.out);obtain ⟨a1,ha1⟩:∃ a1,a1=a+1:=⟨_,rfl⟩;have q1:IntKind.i64.wrap ((a:Int)+1)=(a1:Int):=by rw [IntWalk.i64_in _ (by omega)];omega
     have hcm2:cap<=9223372036854775807:=hcm;obtain ⟨wd,hwd⟩:∃ wd,wd=w7.drew:=⟨_,rfl⟩;have hRd:RowE wd g (d++[zE]):=hwd▸hR.ext (Ext.refl w7).drew;have hhd:wd.heap[g]?=some (.cells cur 94 (0,0)):=by rw [hwd];exact hh
     have hsp:=hRd.splice (o:=a1) (M:=d.drop a) (by rw [List.length_drop,List.length_append,List.length_singleton];omega)
     have hsrc:wd.rangeAt g (a*4) (entsV (d.drop a)):=by
      have h1:d++[zE]=d.take a++d.drop a++[zE]:=by rw [List.take_append_drop]
      rw [h1] at hRd;have:=hRd.part
      rwa [List.length_take,show min a d.length=a from by omega] at this
     obtain ⟨cur2,hb2,hs2⟩:=block_cells g _ (entsV (d.drop a)) (a1*4) wd cur hhd
     obtain ⟨o1,hif,ho1⟩:∃ o1,(if cap=a1 then (some ⟨g,0,none⟩:Option Addr) else some ⟨g,a1*4,none⟩)=some ⟨g,o1,none⟩/\wd.setCells g o1 (entsV (d.drop a))=wd.setCells g (a1*4) (entsV (d.drop a))/\wd.there g o1 ((d.drop a).length*4):=by
      have hth:wd.there g (a1*4) ((d.drop a).length*4):=fun j hj=>by rw [List.length_drop] at hj;have:=hRd.th (a1*4+j) (by rw [List.length_append,List.length_singleton];omega);rwa [Nat.zero_add] at this
      by_cases hq:cap=a1
      ·have hnil:d.drop a=[]:=List.drop_eq_nil_of_le (by omega);exact ⟨0,by rw [if_pos hq],by rw [hnil];rfl,fun j hj=>by rw [hnil] at hj;simp at hj⟩
      ·exact ⟨a1*4,by rw [if_neg hq],rfl,hth⟩
     have hca:¬ cap=a:=by omega
     have hz1:(a1:Int)<=(d.length:Int)+1:=by omega
     have hz2:(a:Int)<=(d.length:Int)+1:=by omega
     have hcp:=fun ty=>run_copy_ents (w:=wd) (g:=g) (o:=o1) (o':=a*4) (dl:=d.length+1 - a1) (dc:=cap - a1) (sl:=d.length+1 - a) (sc:=cap - a) (ty:=ty) (M:=d.drop a) (by rw [List.length_drop];show _=min _ _;omega) hsrc ho1.2;rw [ho1.1] at hcp;have HCp:=lh hcp;generalize hw8:wd.setCells g (a1*4) (entsV (d.drop a))=w8 at *;have HT8:=lh (show Touch g w7 w8 from (hwd▸Touch.of (Ext.refl w7).drew:Touch g w7 wd).trans hsp.2);have HR8:=lh hsp.1
     have hl8:((d++[zE]).take a1++d.drop a++(d++[zE]).drop (a1+(d.drop a).length)).length=d.length+1:=by
      simp only [List.length_append,List.length_take,List.length_drop,List.length_singleton];omega
     obtain ⟨hs9,hT9⟩:=HR8.out.store (k:=a) (by rw [hl8];omega) x;have hlist:=ins_is d zE x ha;rw [<-ha1] at hlist;rw [hlist] at hs9;obtain ⟨cur3,hb3,hs3⟩:=block_cells g _ (entV x) (a*4) w8 cur2 hb2;have hlen9:(d.take a++x::d.drop a).length=d.length+1:=by simp only [List.length_append,List.length_take,List.length_cons,List.length_drop];omega
     have HO9:=lh (row_owns (base:=w.heap.size) (cap:=cap) hbg hb3 (by rw [hs3,hs2,hcs]) (by rw [hlen9];exact hcl) hcm hs9.at');rw [hlen9] at HO9;have HX9:=lh ((HT8.out.trans hT9).fresh X7.out hbg);have HX8:=lh (HT8.out.fresh X7.out hbg);have HRX:=lh (HRA.out w8 HX8.out);have HTh:=lh (show w8.there g (a*4) (entV x).toArray.size from HR8.out.room (by rw [hl8];omega));clear ha1 ho1 hs9 hT9 hlist hb3 hs3 hb2 hs2 hsp hsrc hRd hhd hR hh hO hcs hcm hcp hl8 HO7 HG7;refine wp_region_head (S:=fun _=>True) (n:=7) (by kernel_rfl) (by kernel_rfl) ?_;rw [<-hwd];clear hwd;refine HeadAt.take (i:=0) (v:=.slice (some ⟨g,0,none⟩) (d.length+1) cap) rfl (by kernel_rfl) (by kernel_rfl) (by kernel_rfl) (by kernel_rfl) (by kernel_rfl) (by kernel_rfl) (by kernel_rfl) (fun _ _ _ h=>h) (yieldsIf_move rfl _ rfl rfl) trivial ?_;go_frame;refine HeadAt.take (i:=1) (v:=.int .i64 a) rfl (by kernel_rfl) (by kernel_rfl) (by kernel_rfl) (by kernel_rfl) (by kernel_rfl) (by kernel_rfl) (by kernel_rfl) (fun _ _ _ h=>h) (yieldsIf_move rfl _ rfl rfl) trivial ?_;go_frame;refine HeadAt.take (i:=2) (v:=.int .i64 a1) rfl (by kernel_rfl) (by kernel_rfl) (by kernel_rfl) (by kernel_rfl) (by kernel_rfl) (by kernel_rfl) (by kernel_rfl) (fun _ _ _ h=>h) (Or.inl ⟨rfl,fun w' _=>by go_simp⟩) trivial ?_;go_frame;refine HeadAt.take (i:=3) (v:=.slice (some ⟨g,o1,none⟩) (d.length+1 - a1) (cap - a1)) rfl (by kernel_rfl) (by kernel_rfl) (by kernel_rfl) (by kernel_rfl) (by kernel_rfl) (by kernel_rfl) (by kernel_rfl) (fun _ _ _ h=>h) (Or.inl ⟨rfl,fun w' _=>by go_simp⟩) trivial ?_;go_frame;refine HeadAt.take (i:=4) (v:=.slice (some ⟨g,0,none⟩) (d.length+1) cap) rfl (by kernel_rfl) (by kernel_rfl) (by kernel_rfl) (by kernel_rfl) (by kernel_rfl) (by kernel_rfl) (by kernel_rfl) (fun _ _ _ h=>h) (yieldsIf_move rfl _ rfl rfl) trivial ?_;go_frame;refine HeadAt.take (i:=5) (v:=.int .i64 a) rfl (by kernel_rfl) (by kernel_rfl) (by kernel_rfl) (by kernel_rfl) (by kernel_rfl) (by kernel_rfl) (by kernel_rfl) (fun _ _ _ h=>h) (yieldsIf_move rfl _ rfl rfl) trivial ?_;go_frame;refine HeadAt.take (i:=6) (v:=.slice (some ⟨g,a*4,none⟩) (d.length+1 - a) (cap - a)) rfl (by kernel_rfl) (by kernel_rfl) (by kernel_rfl) (by kernel_rfl) (by kernel_rfl) (by kernel_rfl) (by kernel_rfl) (fun _ _ _ h=>h) (Or.inl ⟨rfl,fun w' _=>by go_simp⟩) trivial ?_;go_frame;refine HeadAt.done (by kernel_rfl) ?_;refine wpList_copyM rfl (.tmp 55) (.tmp 58) 91 91 rfl (.slice (some ⟨g,o1,none⟩) (d.length+1 - a1) (cap - a1)) (.slice (some ⟨g,a*4,none⟩) (d.length+1 - a) (cap - a)) ?_ ?_ (HCp.out _) ?_
     ·rfl
     ·rfl
     rintro _ rfl;go_frame
     go_wp2_with (first
      | (refine wpList_load_mid rfl 94 (.tmp 64) rfl g0 (i*4) rfl (entV x) _ HRX.out underlying94 rfl (by kernel_rfl) ?_;go_frame)
      | (refine wpList_storeM rfl 94 (.tmp 66) (.tmp 65) rfl g (a*4) (entV x) rfl rfl HTh.out (by kernel_rfl) (by kernel_rfl) ?_;intro w9 hw9;have HW9:=lh hw9;clear hw9;go_frame))
     have HOf:=lh (show w9.ownsRow w.heap.size 94 4 (.slice (some ⟨g,0,none⟩) (d.length+1) cap) (d.length+1) (entsV (d.take a++x::d.drop a)) from by rw [HW9.out];exact HO9.out);have HXf:=lh (show Ext w w9 from by rw [HW9.out];exact HX9.out);clear HW9 HO9 HX9;go_roundw
     case rel=>exact ⟨i+1,_,by omega,by go_num,HF.out,by rw [hlen9];omega,by rw [hlen9];exact HOf.out,HXf.out⟩
     case measure=>simp [intOf] <;> omega
  ·obtain rfl:i=n:=by omega
   have htk:l.take i=l:=by rw [HN.out,List.take_length]
   rw [htk] at HFs;go_wp2_with fail;go_ret;exact ⟨_,d,rfl,HFs.out,hdl,HO.out,HX.out⟩
end
section
open Go.RowKit Go.Shelf
set_option maxRecDepth 100000 in
set_option maxHeartbeats 4000000 in
theorem agoes_no (w:World) (a:Option Addr) (n c:Nat) (p:Pol) (hp:okP p=false) (now:Int) :
  Calls prog 41 #[polV p,.slice a n c,.int .i64 now] w fun e w'=>e=.returned (.slice none 0 0)/\Ext w w':=by
 have HC:=lh (fun w1=>acheck_any p w1);rw [hp] at HC;have X0:=lh ((Ext.refl w).alloc (.cells #[.int .i64 p.kind,.int .i64 p.keep,.int .i64 p.age] 89 (0,0)));unfold polV;unfold polV at HC;clear hp;go_enter func41,ntmps41;go_wp2_with fail;refine (HC.out _).mono ?_;rintro e w1 ⟨rfl,x1⟩;have X1:=lh (X0.out.trans x1);go_wp2;go_ret;exact ⟨rfl,X1.out⟩
end
section
open Go.RowKit Go.Shelf
set_option maxHeartbeats 1000000 in
theorem aclone_row {w:World} {v:Value} {l:List Ent} (h:EntsSl w v l) (hl:l.length<=100000) :
  Calls prog 94 #[v] w fun e w'=>∃ u,e=.returned u/\Hid (∃ g cap,u=.slice (some ⟨g,0,none⟩) l.length cap/\w.heap.size<=g/\l.length<=cap/\cap<=9223372036854775807/\RowE w' g l/\Ext w w'):=by
 have HB:=lh h;obtain ⟨g,o,cap,rfl,h1,h2,_⟩:=h;obtain ⟨i,hi,hz,hs,hb⟩:=info_parts elEnt.info;have HL:=lh (entsV_len l);have q90:∀ (w:World) (a:Option Addr) (n c n' c':Nat),(binOp .eql 90 (.slice a n c) (.slice none n' c')).run prog w=.ok (.bool a.isNone) w:=fun w a n c n' c'=>Lib.run_eql_slice_nil w _ _ a n c n' c' elEnt.ut;go_enter func94,ntmps94;go_wp2_with (at_builtin;refine wpList_append_own _ rfl _ _ 90 rfl w.heap.size 93 i _ 4 48 elEnt.ut hi hz hs hb rfl (by decide) _ _ _ rfl (World.ownsRow_made w #[] 0 (Nat.le_refl _) (Nat.zero_le _) (by simp)) ⟨g,o,none⟩ l.length cap (entsV l) rfl ?qc1 ?qc2 ?qc3 ?qc4 ?qc5 ?qc6 ?_)
 case qc1=>exact HL.out
 case qc2 =>
  intro j u hj;obtain ⟨_,_,_,e,_,_,h3⟩:=HB.out
  cases e
  rw [show (⟨g,o,none⟩:Addr).add j=⟨g,o+j,none⟩ from by unfold Addr.add;split <;> simp_all];exact Lib.cell?_alloc_some _ (h3 j u hj)
 case qc3=>exact entsV_one
 case qc4=>rw [Nat.zero_add];unfold maxLen;omega
 case qc5=>rw [Nat.zero_add];omega
 case qc6=>simp
 intro v' w1 hown hgrow hnil;have X1:=lh (show Ext w w1 from ((Below.refl _ w).alloc (Nat.le_refl _) _).grown hgrow (by simp) (by intro k hk;simp [Value.ownBlock] at hk;omega))
 have K1:=lh (show ∃ g cap,v'=.slice (some ⟨g,0,none⟩) l.length cap/\w.heap.size<=g/\l.length<=cap/\cap<=9223372036854775807/\RowE w1 g l from by
  rcases hown.2 with ⟨rfl,_⟩ | ⟨g,cap,cur,rfl,hb,hh,k1,k2,k3,k4⟩
  ·exact absurd rfl hnil
  ·refine ⟨g,cap,rfl,hb,k1,k2,ltB hh,fun j x hx=>?_,fun j hj=>⟨?_,frozenB hh⟩⟩
   ·rw [Nat.zero_add];refine (cellB hh).trans ?_;have hk4:cur.toList.take (l.length*4)=entsV l:=by simpa using k4
    rw [<-hk4,List.getElem?_take] at hx;split at hx
    ·rw [<-Array.getElem?_toList];exact hx
    ·cases hx
   ·rw [Nat.zero_add,cellB hh,Array.getElem?_eq_getElem (by omega)]
    rfl)
 clear hown hgrow hnil;go_wp2;go_ret;obtain ⟨g1,cap1,e1,e2,e3,e4,e5⟩:=K1.out;exact ⟨v',rfl,g1,cap1,e1,e2,e3,e4,e5,X1.out⟩
def outY (p:Pol) (now:Int) (l:List Ent):List ByteArray:=if okP p=true then (goneYL p now [] l).map (·.name) else []
theorem rise_data {l:List Ent} (h:Rise l):l.Pairwise fun x y=>¬ y.name.data.toList<x.name.data.toList:=h.imp fun {x y} k=>by
 have:=k.1;rw [bytesLess_eq,Lib.toList_data,Lib.toList_data] at this;exact of_decide_eq_false this
end
section
open Go.RowKit
attribute [local go_sem] Oper.semAt_some
theorem okP_age {p:Pol} (h:okP p=true):0<=p.age:=by
 unfold okP clockB at h;simp only [Bool.and_eq_true,decide_eq_true_eq] at h;exact h.2.1
set_option maxRecDepth 100000 in
set_option maxHeartbeats 16000000 in
theorem rGoes19 {w:World} {v:Value} {l:List Ent} (h:RowsIn w v l) (hl:l.length<=1000) (p:Pol) (now:Int) :
  Calls prog 42 #[polV p,v,.int .i64 now] w fun e w'=>∃ u,e=.returned u/\Hid (∃ d,Fst l d/\CellsAt w' u ((outY p now d).map Value.string)/\Ext w w'):=by
 have HCk:=lh (fun w'=>rcheck19 p w');have HOr:=lh (fun w' (y:Ext w w')=>rord19 (h.ext y) hl);have HAge:=lh (fun hp:okP p=true=>okP_age hp);obtain ⟨ad,cap0,rfl,_,_,_⟩:=h;have HRg:=lh (fun w' u (d:List Ent) i x (q:RowsIn w' u d) (q1:d.length<=1000) (q2:d[i]?=some x) (q3:0<=p.age)=>rgoes19 q q1 q2 p q3 now);have HP:=lh (show polV p=.agg #[.int .i64 p.kind,.int .i64 p.keep,.int .i64 p.age] from rfl);obtain ⟨pc,hpc⟩:∃ pc,pc=(#[.int .i64 p.kind,.int .i64 p.keep,.int .i64 p.age]:Array Value):=⟨_,rfl⟩;have HI:=lh (show (prog.info? 97).map (·.size)=some pc.size from by rw [hpc];kernel_rfl);rw [HP.out,<-hpc];rw [HP.out,<-hpc] at HCk HRg;have HB:=lh (block_alloc_new w (.cells pc 97 (0,0)));have X0:=lh ((Ext.refl w).alloc (.cells pc 97 (0,0)));clear hpc HP;obtain ⟨n,hn⟩:∃ n,n=l.length:=⟨_,rfl⟩;rw [<-hn] at HOr hl ⊢;clear hn;by_cases hp:okP p=true
 case neg =>
  rw [if_neg hp] at HCk;have HE:=lh (show ∃ d,Fst l d from ordF_ex l);have HO:=lh (show ∀ d,outY p now d=[] from fun d=>by unfold outY;rw [if_neg hp]);clear hp;go_enter func42,ntmps42;go_wp2_with (refine wpList_load_row rfl 97 (.tmp 3) rfl w.heap.size rfl _ pc (0,0) _ HB.out underlying97 rfl HI.out ?_;go_frame);refine (HCk.out _).mono ?_;rintro e w1 ⟨rfl,x1⟩;have X1:=lh (X0.out.trans x1);go_wp2_with fail;go_ret;obtain ⟨d,hd⟩:=HE.out;exact ⟨_,rfl,d,hd,by rw [HO.out];exact .inl ⟨rfl,rfl⟩,X1.out⟩
 rw [if_pos hp] at HCk;have HOk:=lh hp;have HAg:=lh (HAge.out hp);clear hp HAge;go_enter func42,ntmps42;go_wp2_with (refine wpList_load_row rfl 97 (.tmp 3) rfl w.heap.size rfl _ pc (0,0) _ HB.out underlying97 rfl HI.out ?_;go_frame);refine (HCk.out _).mono ?_;rintro e w1 ⟨rfl,x1⟩;have X1:=lh (X0.out.trans x1);have HB1:=lh ((x1.block (ltB HB.out)).trans HB.out);clear x1;go_wp2_with fail;refine (HOr.out _ X1.out).mono ?_;rintro e w2 ⟨u2,d,rfl,h2⟩;obtain ⟨hf,hdl,ho,x2⟩:=h2.out;have HF:=lh hf;have X2:=lh (X1.out.trans x2);have HB2:=lh ((x2.block (ltB HB1.out)).trans HB1.out);have hrr:=RowsIn.of_owns ho rfl;have HRR:=lh hrr;obtain ⟨ad2,cap2,rfl,hk1,hk2,hat⟩:=hrr;have HAT:=lh hat;obtain ⟨m,hm⟩:∃ m,m=d.length:=⟨_,rfl⟩;have HM:=lh hm;rw [<-hm] at hk1 hdl HRR ⊢;have hm2:d.length<=1000:=by omega
 have HM2:=lh hm2;have hm1:m<=1000:=by omega
 clear h2 hf ho x2 hat HOr hm hm2;go_wp2_with fail;go_loopw [7,8] (fun ov iv wr=>Hid (∃ (i:Nat) (L:List Ent),i<=m/\iv=.int .i64 i/\L.length<=i/\L++goneYL p now (d.take i) (d.drop i)=goneYL p now [] d/\wr.ownsRow w2.heap.size 9 1 ov L.length ((L.map (·.name)).map Value.string)/\Ext w2 wr)) (fun _ iv _=>m - (intOf iv).toNat)
 case atStart=>exact ⟨0,[],Nat.zero_le _,rfl,Nat.le_refl _,rfl,World.ownsRow_nil _ _ _ _,Ext.refl _⟩
 case round =>
  obtain ⟨i,L,hi,rfl,hLl,hL,ho,hx⟩:=hrel.out;clear hrel;have HO:=lh ho;have HX:=lh hx;have HL:=lh hL;obtain ⟨oa,oc,hov⟩:=rowk_shape ho;subst hov;clear ho hL;by_cases hlt:i<m
  ·obtain ⟨x,hxi⟩:∃ x,d[i]?=some x:=⟨_,List.getElem?_eq_getElem (by have:=HM.out;omega)⟩;obtain ⟨g,rfl,hra⟩:=HAT.out i x hxi;have HBw:=lh ((hx.block (ltB HB2.out)).trans HB2.out);have HG:=lh (HRg.out wr _ d i x (HRR.out.ext hx) HM2.out hxi HAg.out)
   have hdr:d.drop i=x::d.drop (i+1):=by
    obtain ⟨h1,h2⟩:=List.getElem?_eq_some_iff.1 hxi;rw [<-h2];exact List.drop_eq_getElem_cons h1
   have htk:d.take (i+1)=d.take i++[x]:=by rw [List.take_add_one,hxi];rfl
   have HSt:=lh (show goneYL p now (d.take i) (d.drop i)=(if goneY p now (d.take i) x (d.drop (i+1)) then x::goneYL p now (d.take (i+1)) (d.drop (i+1)) else goneYL p now (d.take (i+1)) (d.drop (i+1))) from by rw [hdr,goneYL,htk]);have HRA:=lh hra;clear hxi hra hdr htk
   cases hgo:goneY p now (d.take i) x (d.drop (i+1)) with
   | false =>
    rw [hgo] at HG HSt;have HN:=lh (show L++goneYL p now (d.take (i+1)) (d.drop (i+1))=goneYL p now [] d from by rw [<-HL.out,HSt.out];rfl);clear hgo HSt;go_wp2_with (refine wpList_load_row rfl 97 (.tmp 3) rfl w.heap.size rfl _ pc (0,0) _ HBw.out underlying97 rfl HI.out ?_;go_frame);refine HG.out.mono ?_;rintro e w5 ⟨rfl,x5⟩;have X5:=lh (HX.out.trans x5);have HO5:=lh (owns_ext HO.out x5);clear x5 HG;go_wp2;go_roundw
    case rel=>exact ⟨i+1,L,by omega,by go_num,by omega,HN.out,HO5.out,X5.out⟩
    case measure=>simp [intOf] <;> omega
   | true =>
    rw [hgo] at HG HSt;have HN:=lh (show (L++[x])++goneYL p now (d.take (i+1)) (d.drop (i+1))=goneYL p now [] d from by rw [<-HL.out,HSt.out];simp);clear hgo HSt;go_wp2_with (refine wpList_load_row rfl 97 (.tmp 3) rfl w.heap.size rfl _ pc (0,0) _ HBw.out underlying97 rfl HI.out ?_;go_frame);refine HG.out.mono ?_;rintro e w5 ⟨rfl,x5⟩;have X5:=lh (HX.out.trans x5);have HO5:=lh (owns_ext HO.out x5);have f1:w5.cell? ⟨g,i*4,none⟩=some (.string x.name):=HRA.out w5 X5.out 0 _ rfl;have Hown:=lh (owns_ext HO5.out ((Ext.refl w5).alloc (.cells #[.string x.name] 9 (0,0))));have Xn:=lh (X5.out.alloc (.cells #[.string x.name] 9 (0,0)));clear x5 HG;go_wp2_with (at_builtin;refine append_kw elText w2.heap.size (.slice oa L.length oc) L.length ((L.map (·.name)).map Value.string) Hown.out w5.heap.size [.string x.name] rfl (.tmp 25) (.tmp 31) rfl rfl rfl rfl (fun j u hj=>(cellB (block_alloc_new _ _)).trans (by simpa using hj)) (by simp [Value.oneCell']) (by omega) Xn.out.size ?_;intro v7 w7 ho7 hg7 hi7 hv7;have HO7:=lh ho7;have HG7:=lh hg7;clear ho7 hg7 hi7 hv7;go_frame);have X7:=lh (ext_own Xn.out (Nat.le_refl _) Hown.out HG7.out)
    have HO8:=lh (show w7.ownsRow w2.heap.size 9 1 v7 (L++[x]).length (((L++[x]).map (·.name)).map Value.string) from by
     rw [List.length_append,List.map_append,List.map_append]
     exact HO7.out)
    go_roundw
    case rel=>exact ⟨i+1,L++[x],by omega,by go_num,by rw [List.length_append,List.length_singleton];omega,HN.out,HO8.out,X7.out⟩
    case measure=>simp [intOf] <;> omega
  ·obtain rfl:i=m:=by omega
   have HFin:=lh (show L=goneYL p now [] d from by
    have h1:=HL.out;rw [HM.out,List.drop_length,goneYL,List.append_nil] at h1
    exact h1)
   have HCe:=lh (show CellsAt wr (.slice oa L.length oc) ((outY p now d).map Value.string) from by
    unfold outY;rw [if_pos HOk.out,<-HFin.out];refine CellsAt.of_owns (base:=w2.heap.size) (e:=9) ?_;rw [List.length_map,List.length_map]
    exact HO.out)
   go_wp2;go_ret;exact ⟨_,rfl,d,HF.out,HCe.out,X2.out.trans HX.out⟩
end
end Go.Proofs.YtodickpibbbiiaaGreatDoor
