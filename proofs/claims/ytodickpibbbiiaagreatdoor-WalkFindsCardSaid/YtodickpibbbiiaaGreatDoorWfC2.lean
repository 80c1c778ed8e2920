import Derived.Test.YtodickpibbbiiaaGreatDoorWfC1
import Derived.Outline
import Derived.Lib.SlTrimSet
open Go.Proofs.Tryz
namespace Go.Proofs.YtodickpibbbiiaaGreatDoor
open Go.RowKit
section
theorem elementsL_ge:∀ {n:Nat} {acc es:List GE} {s:List UInt8},elementsL n acc s=some es->acc.length<=es.length/\(s≠[]->acc.length<es.length)
 | 0,_,_,_,h=>by cases h
 | n+1,acc,es,s,h=>by
  unfold elementsL at h;split at h
  ·rename_i hs;cases h;exact ⟨Nat.le_refl _,fun q=>absurd (List.isEmpty_iff.1 hs) q⟩
  ·split at h
   ·cases h
   ·have:=(elementsL_ge h).1;simp at this;exact ⟨by omega,fun _=>by omega⟩
theorem patL_ne {s:List UInt8} {p:Pat} (h:patL s=.ok p):p.es≠[]:=by
 unfold patL at h;split at h
 ·cases h
 ·split at h
  ·cases h
  ·split at h
   ·cases h
   ·rename_i hne;split at h
    ·cases h
    ·rename_i he
     cases h
     have:=(elementsL_ge he).2 (fun q=>hne (by rw [q];rfl));intro q;simp only at q;rw [q] at this;simp at this
theorem startL_pos (r:Bool) (s:ByteArray) (a:Nat) (c:UInt8) (h:0<a) (hc:s.toList[a - 1]?=some c):startL r s.toList a=(!r&&c==47):=by
 unfold startL;rw [hc,show (a==0)=false from beq_eq_false_iff_ne.2 (by omega)];simp
theorem endL_last (s:ByteArray):endL s.toList s.size=true:=by unfold endL;rw [len_toList];simp
theorem endL_at (s:ByteArray) (b:Nat) (c:UInt8) (h:b<s.size) (hc:s.toList[b]?=some c):endL s.toList b=(c==47):=by
 unfold endL;rw [hc,len_toList,show (b==s.size)=false from beq_eq_false_iff_ne.2 (by omega)];simp
set_option maxHeartbeats 4000000 in
set_option maxRecDepth 100000 in
theorem gmatch_any (bp:Nat) (t s:ByteArray) (p:Pat) (Far:Nat->Prop) (w:World) (hs:s.size<=maxLen) (hp:PatAt w Far bp t p) (hne:p.es≠[]) :
  Calls prog 133 #[.pointer (some ⟨bp,0,none⟩),.string s] w fun e w'=>e=.returned (.bool (matchL p s.toList))/\Ext w w':=by
 obtain ⟨v,l,hb,he,hl⟩:=hp.blk;obtain ⟨va,cap,rfl,h1,h2,h3⟩:=he.row;unfold maxLen at h2 hs
 have hll:0<l.length:=by
  rw [<-hl] at hne
  cases l with
  | nil=>exact absurd rfl hne
  | cons a b=>simp
 have c5:w.cell? ⟨bp,5,none⟩=some (.slice va l.length cap):=cell_of_block hb;have C4:=lh (show w.cell? ⟨bp,4,none⟩=some (.bool p.rooted) from cell_of_block hb);have hlt:=lt_of_block hb;have HP:=lh hp;have HM:=lh (matchL_rows p s.toList);clear he hl h3 hb hne hp;generalize matchL p s.toList=M at *;have nl:((l.length:Int)==0)=false:=beq_eq_false_iff_ne.2 (by omega);by_cases h160:160<s.size
 ·have HF:=lh (show M=false from by rw [HM.out,len_toList];simp;omega);clear HM;go_enter func133,ntmps133;go_wp2_with fail;go_ret;exact ⟨ret_bool HF.out.symm,Ext.refl _⟩
 ·have hs2:s.size<=160:=by omega
  have HM2:=lh (show M=(List.range (s.size+1)).any (rowL p s.toList) from by rw [HM.out,len_toList];simp [hs2]);clear HM;have HE:=fun a (wr:World) (ha:a<=s.size) (hx:Ext w wr)=>lh (ends_any bp t s p a Far wr (by omega) ha (HP.out.ext hx));go_enter func133,ntmps133;go_wp2_with fail;go_loopw [5] (fun fv wr=>Hid (∃ a:Nat,a<=s.size+1/\fv=.int .i64 a/\NoneOf a (rowL p s.toList)/\Ext w wr)) (fun fv _=>s.size+1 - (intOf fv).toNat)
  case atStart=>exact ⟨0,by omega,rfl,NoneOf.zero _,Ext.refl _⟩
  case round =>
   obtain ⟨a,ha,rfl,hN,hX⟩:=hrel.out;clear hrel;have HN:=lh hN;have HX:=lh hX;have c4:wr.cell? ⟨bp,4,none⟩=some (.bool p.rooted):=(hX.cell hlt).trans C4.out;clear hN hX;by_cases has:a<=s.size
   ·have key:(startL p.rooted s.toList a=true/\(a=0\/∃ (j:Nat) (hj:j<s.size),a=j+1/\p.rooted=false/\s[j]=47))\/(startL p.rooted s.toList a=false/\0<a/\(p.rooted=true\/∃ (j:Nat) (hj:j<s.size),a=j+1/\p.rooted=false/\s[j]≠47)):=by
     rcases Nat.eq_zero_or_pos a with h0 | h0
     ·subst h0;exact .inl ⟨rfl,.inl rfl⟩
     ·have hc:=startL_pos p.rooted s a (s[a - 1]'(by omega)) h0 (getElem_toList s (a - 1) (by omega))
      cases hr:p.rooted with
      | true=>rw [hr] at hc;exact .inr ⟨hc,h0,.inl rfl⟩
      | false =>
       rw [hr] at hc;by_cases h47:s[a - 1]'(by omega)=47
       ·exact .inl ⟨by rw [hc,h47];rfl,.inr ⟨a - 1,by omega,by omega,rfl,h47⟩⟩
       ·exact .inr ⟨by rw [hc];simp [h47],h0,.inr ⟨a - 1,by omega,by omega,rfl,h47⟩⟩
    rcases key with ⟨hst,hcase⟩ | ⟨hst,h0,hcase⟩
    ·have HST:=lh hst;rcases hcase with rfl | ⟨j,hj,rfl,hr,h47⟩
     ·clear hst;go_wp2_with fail;refine ((HE 0 _ (by omega) HX.out).out).mono ?_;rintro e w1 ⟨v,rfl,⟨g,rfl,hg⟩,x1⟩;have HG:=lh hg;have HX1:=lh (HX.out.trans x1);clear hg x1 c4;obtain ⟨wo,rfl⟩:∃ wo:World,wo=wr:=⟨_,rfl⟩;go_wp2_with fail;go_loopw [49] (fun iv wr=>Hid (∃ b:Nat,b<=s.size+1/\iv=.int .i64 b/\NoneOf b (fun b=>endsL p.marks.fold p.es s.toList (0) b&&endL s.toList b)/\Ext w1 wr)) (fun iv _=>s.size+1 - (intOf iv).toNat)
      case atStart=>exact ⟨0,by omega,rfl,NoneOf.zero _,Ext.refl _⟩
      case round =>
       obtain ⟨b,hb,rfl,hN,hY⟩:=hrel.out;clear hrel;have HN2:=lh hN;have HY:=lh hY;by_cases hbs:b<s.size+1
       ·have c1:wr.cell? ⟨g,b,none⟩=some (.bool (endsL p.marks.fold p.es s.toList (0) b)):=(cell_of_block ((hY.block (lt_of_block HG.out)).trans HG.out)).trans (blA_at _ _ _ _ hbs hbs);clear hN hY
        cases hb1:endsL p.marks.fold p.es s.toList (0) b with
        | false =>
         rw [hb1] at c1;have HNN:=lh (HN2.out.succ (show (endsL p.marks.fold p.es s.toList (0) b&&endL s.toList b)=false from by rw [hb1];rfl));clear hb1;go_wp2_with fail;go_roundw
         case rel=>exact ⟨b+1,by omega,by go_num,HNN.out,HY.out⟩
         case measure=>simp [intOf] <;> omega
        | true =>
         rw [hb1] at c1
         have hit:endL s.toList b=true->M=true:=fun q=>by
          rw [HM2.out];refine any_of (i:=0) (by omega) ?_;unfold rowL;rw [HST.out,Bool.true_and,len_toList];exact any_of hbs (by rw [hb1,q];rfl)
         have HH:=lh hit;clear hit;by_cases hbe:b=s.size
         ·have HF:=lh (HH.out (by rw [hbe];exact endL_last s));have e0:((b:Int)==s.size)=true:=by rw [hbe];simp
          clear hb1 HH hbe;go_wp2_with fail;go_ret;exact ⟨ret_bool HF.out.symm,HX1.out.trans HY.out⟩
         ·have e0:((b:Int)==s.size)=false:=beq_eq_false_iff_ne.2 (by omega);have hb2:b<s.size:=by omega
          have hel:=endL_at s b s[b] hb2 (getElem_toList s b hb2);by_cases h47:s[b]=47
          ·have HF:=lh (HH.out (by rw [hel,h47];rfl));have e1:((s[b].toNat:Int)==47)=true:=by rw [h47];rfl
           clear hb1 HH hel h47 hbe;go_wp2_with fail;go_ret;exact ⟨ret_bool HF.out.symm,HX1.out.trans HY.out⟩
          ·have HNN:=lh (HN2.out.succ (show (endsL p.marks.fold p.es s.toList (0) b&&endL s.toList b)=false from by rw [hel];simp [h47]));have e1:=toNat_ne47 h47;clear hb1 HH hel h47 hbe;go_wp2_with fail;go_roundw
           case rel=>exact ⟨b+1,by omega,by go_num,HNN.out,HY.out⟩
           case measure=>simp [intOf] <;> omega
       ·obtain rfl:b=s.size+1:=by omega
        have HNN:=lh (HN.out.succ (show rowL p s.toList (0)=false from by
         unfold rowL;rw [HST.out,Bool.true_and,len_toList]
         exact HN2.out.any))
        clear hN hY;go_wp2_with fail;go_roundw
        case rel=>exact ⟨0+1,by omega,by go_num,HNN.out,HX1.out.trans HY.out⟩
        case measure=>simp [intOf] <;> omega
     ·rw [hr] at c4;have e47:((s[j].toNat:Int) != 47)=false:=by rw [h47];rfl
      clear hst hr h47;go_wp2_with fail;refine ((HE (j+1) _ (by omega) HX.out).out).mono ?_;rintro e w1 ⟨v,rfl,⟨g,rfl,hg⟩,x1⟩;have HG:=lh hg;have HX1:=lh (HX.out.trans x1);clear hg x1 c4;obtain ⟨wo,rfl⟩:∃ wo:World,wo=wr:=⟨_,rfl⟩;go_wp2_with fail;go_loopw [49] (fun iv wr=>Hid (∃ b:Nat,b<=s.size+1/\iv=.int .i64 b/\NoneOf b (fun b=>endsL p.marks.fold p.es s.toList (j+1) b&&endL s.toList b)/\Ext w1 wr)) (fun iv _=>s.size+1 - (intOf iv).toNat)
      case atStart=>exact ⟨0,by omega,rfl,NoneOf.zero _,Ext.refl _⟩
      case round =>
       obtain ⟨b,hb,rfl,hN,hY⟩:=hrel.out;clear hrel;have HN2:=lh hN;have HY:=lh hY;by_cases hbs:b<s.size+1
       ·have c1:wr.cell? ⟨g,b,none⟩=some (.bool (endsL p.marks.fold p.es s.toList (j+1) b)):=(cell_of_block ((hY.block (lt_of_block HG.out)).trans HG.out)).trans (blA_at _ _ _ _ hbs hbs);clear hN hY
        cases hb1:endsL p.marks.fold p.es s.toList (j+1) b with
        | false =>
         rw [hb1] at c1;have HNN:=lh (HN2.out.succ (show (endsL p.marks.fold p.es s.toList (j+1) b&&endL s.toList b)=false from by rw [hb1];rfl));clear hb1;go_wp2_with fail;go_roundw
         case rel=>exact ⟨b+1,by omega,by go_num,HNN.out,HY.out⟩
         case measure=>simp [intOf] <;> omega
        | true =>
         rw [hb1] at c1
         have hit:endL s.toList b=true->M=true:=fun q=>by
          rw [HM2.out];refine any_of (i:=j+1) (by omega) ?_;unfold rowL;rw [HST.out,Bool.true_and,len_toList];exact any_of hbs (by rw [hb1,q];rfl)
         have HH:=lh hit;clear hit;by_cases hbe:b=s.size
         ·have HF:=lh (HH.out (by rw [hbe];exact endL_last s));have e0:((b:Int)==s.size)=true:=by rw [hbe];simp
          clear hb1 HH hbe;go_wp2_with fail;go_ret;exact ⟨ret_bool HF.out.symm,HX1.out.trans HY.out⟩
         ·have e0:((b:Int)==s.size)=false:=beq_eq_false_iff_ne.2 (by omega);have hb2:b<s.size:=by omega
          have hel:=endL_at s b s[b] hb2 (getElem_toList s b hb2);by_cases h47:s[b]=47
          ·have HF:=lh (HH.out (by rw [hel,h47];rfl));have e1:((s[b].toNat:Int)==47)=true:=by rw [h47];rfl
           clear hb1 HH hel h47 hbe;go_wp2_with fail;go_ret;exact ⟨ret_bool HF.out.symm,HX1.out.trans HY.out⟩
          ·have HNN:=lh (HN2.out.succ (show (endsL p.marks.fold p.es s.toList (j+1) b&&endL s.toList b)=false from by rw [hel];simp [h47]));have e1:=toNat_ne47 h47;clear hb1 HH hel h47 hbe;go_wp2_with fail;go_roundw
           case rel=>exact ⟨b+1,by omega,by go_num,HNN.out,HY.out⟩
           case measure=>simp [intOf] <;> omega
       ·obtain rfl:b=s.size+1:=by omega
        have HNN:=lh (HN.out.succ (show rowL p s.toList (j+1)=false from by
         unfold rowL;rw [HST.out,Bool.true_and,len_toList]
         exact HN2.out.any))
        clear hN hY;go_wp2_with fail;go_roundw
        case rel=>exact ⟨j+1+1,by omega,by go_num,HNN.out,HX1.out.trans HY.out⟩
        case measure=>simp [intOf] <;> omega
    ·have HNN:=lh (HN.out.succ (show rowL p s.toList a=false from by unfold rowL;rw [hst];rfl));rcases hcase with hr | ⟨j,hj,rfl,hr,h47⟩
     ·rw [hr] at c4;have d0:decide ((0:Int)<(a:Int))=true:=by rw [decide_eq_true_eq];omega
      clear hst hr HE;go_wp2_with fail;go_roundw
      case rel=>exact ⟨a+1,by omega,by go_num,HNN.out,HX.out⟩
      case measure=>simp [intOf] <;> omega
     ·rw [hr] at c4;have e47:((s[j].toNat:Int) != 47)=true:=by rw [bne,toNat_ne47 h47];rfl
      clear hst hr h47 HE;go_wp2_with fail;go_roundw
      case rel=>exact ⟨j+1+1,by omega,by go_num,HNN.out,HX.out⟩
      case measure=>simp [intOf] <;> omega
   ·obtain rfl:a=s.size+1:=by omega
    have HF:=lh (show M=false from by rw [HM2.out];exact HN.out.any);clear HM2 HE;go_wp2_with fail;go_ret;exact ⟨ret_bool HF.out.symm,HX.out⟩
theorem negated_any (bp:Nat) (t:ByteArray) (p:Pat) (Far:Nat->Prop) (w:World) (hp:PatAt w Far bp t p) :
  Calls prog 134 #[.pointer (some ⟨bp,0,none⟩)] w fun e w'=>e=.returned (.bool p.marks.neg)/\w'=w:=by
 obtain ⟨v,l,hb,he,hl⟩:=hp.blk;have c:w.cell? ⟨bp,1,none⟩=some (.bool p.marks.neg):=cell_of_block hb;clear he hl hp hb;go_enter func134,ntmps134;go_wp2_with fail;go_ret;exact ⟨rfl,rfl⟩
theorem deletable_any (bp:Nat) (t:ByteArray) (p:Pat) (Far:Nat->Prop) (w:World) (hp:PatAt w Far bp t p) :
  Calls prog 135 #[.pointer (some ⟨bp,0,none⟩)] w fun e w'=>e=.returned (.bool p.marks.del)/\w'=w:=by
 obtain ⟨v,l,hb,he,hl⟩:=hp.blk;have c:w.cell? ⟨bp,2,none⟩=some (.bool p.marks.del):=cell_of_block hb;clear he hl hp hb;go_enter func135,ntmps135;go_wp2_with fail;go_ret;exact ⟨rfl,rfl⟩
end
section
theorem quad {w:World} {b:Nat} {a0 a1 a2 a3:Value} {t:TypeId} (h:w.heap[b]?=some (.cells #[a0,a1,a2,a3] t (0,0))) :
  (w.cell? ⟨b,0,none⟩=some a0/\w.cell? ⟨b,1,none⟩=some a1/\w.cell? ⟨b,2,none⟩=some a2/\w.cell? ⟨b,3,none⟩=some a3) /\
  (w.frozen? ⟨b,0,none⟩=false/\w.frozen? ⟨b,1,none⟩=false/\w.frozen? ⟨b,2,none⟩=false/\w.frozen? ⟨b,3,none⟩=false) :=
 ⟨⟨cell_of_block h,cell_of_block h,cell_of_block h,cell_of_block h⟩,frozen_of_block h,frozen_of_block h,frozen_of_block h,frozen_of_block h⟩
theorem written_ext (s:ByteArray) (w:World) (hs:s.size<=maxLen) :
  Calls prog 274 #[.string s] w fun e w'=>e=.returned (.tuple #[.int .u8 (wrS s).1.toNat,.string (wrS s).2.1,.bool (wrS s).2.2])/\Ext w w' :=
 (written_any s w hs).mono fun _ _ ⟨h1,n,h2⟩=>⟨h1,h2▸(Ext.refl w).drewN n⟩
theorem wr_cases (u:ByteArray):(wrS u=(0,⟨#[]⟩,false)/\writtenL u.toList=none)\/∃ c r,wrS u=(c,r,true)/\writtenL u.toList=some (c,r.toList)/\r.size<u.size:=by
 unfold wrS
 cases h:writtenL u.toList with
 | none=>left;exact ⟨rfl,rfl⟩
 | some x =>
  obtain ⟨c,r⟩:=x;right;have h1:=writtenL_lt h;rw [len_toList] at h1;exact ⟨c,bsL r,rfl,by rw [bsL_toList],by rw [<-len_toList,bsL_toList];exact h1⟩
def dashB (r:ByteArray):Prop:=∃ h:1<r.size,r[0]=45/\r[1]≠93
theorem rrange_cases (u:ByteArray) :
  (wrS u=(0,⟨#[]⟩,false)/\rangeL u.toList=none) \/
  ∃ f r,wrS u=(f,r,true)/\r.size<u.size /\
   ((¬ dashB r/\rangeL u.toList=some ((f,f),r.toList)) \/
    (dashB r /\
     ((wrS (r.extract 1 r.size)=(0,⟨#[]⟩,false)/\rangeL u.toList=none) \/
     ∃ t r2,wrS (r.extract 1 r.size)=(t,r2,true)/\r2.size<r.size /\
      ((t.toNat<f.toNat/\rangeL u.toList=none)\/(¬ t.toNat<f.toNat/\rangeL u.toList=some ((f,t),r2.toList)))))):=by
 rcases wr_cases u with ⟨h1,h2⟩ | ⟨f,r,h1,h2,h3⟩
 ·left;refine ⟨h1,?_⟩;unfold rangeL;rw [h2]
 ·right;refine ⟨f,r,h1,h3,?_⟩;by_cases hd:dashB r
  ·right;refine ⟨hd,?_⟩;obtain ⟨hl,d1,d2⟩:=hd;have e1:=toList_cons r (by omega);have e2:=toList_cons (r.extract 1 r.size) (by simp;omega);have g0:(r.extract 1 r.size)[0]'(by simp;omega)=r[1]:=by simp [ByteArray.getElem_extract]
   rw [d1] at e1;rw [e1] at h2;rw [e2,g0] at h2;have hr:=rangeL_dash h2 d2;rw [<-g0,<-e2] at hr;rcases wr_cases (r.extract 1 r.size) with ⟨q1,q2⟩ | ⟨t,r2,q1,q2,q3⟩
   ·left;exact ⟨q1,by rw [hr,q2]⟩
   ·right;refine ⟨t,r2,q1,by simp at q3;omega,?_⟩;rw [hr,q2];by_cases ht:t.toNat<f.toNat
    ·left;exact ⟨ht,by simp [ht]⟩
    ·right;exact ⟨ht,by simp [ht]⟩
  ·left;refine ⟨hd,rangeL_plain h2 ?_⟩;intro d v hdv;by_cases hl:1<r.size
   ·rw [toList_cons2 r hl] at hdv;simp only [List.cons.injEq] at hdv;obtain ⟨q1,q2,_⟩:=hdv;rw [<-q2];by_cases q:r[1]=93
    ·exact q
    ·exact absurd ⟨hl,q1,q⟩ hd
   ·have:=congrArg List.length hdv;rw [len_toList] at this;simp at this;omega
theorem rrangesL_end {m:Nat} {rs:List (UInt8×UInt8)} {u:ByteArray} (h:u.size=0):rangesL m rs u.toList=none:=by
 rw [toList_nil u h];cases m <;> rfl
theorem rrangesL_close {m:Nat} {rs:List (UInt8×UInt8)} {u:ByteArray} (hk:0<u.size) (h:u[0]=93):rangesL (m+1) rs u.toList=if rs.isEmpty then none else some (rs,(u.extract 1 u.size).toList):=by
 have:=rangesL_close (m:=m) (rs:=rs) hk h;rw [List.drop_zero] at this;rw [this,ext_toList]
theorem rrangesL_none {m:Nat} {rs:List (UInt8×UInt8)} {u:ByteArray} (hk:0<u.size) (h:u[0]≠93) (hr:rangeL u.toList=none):rangesL (m+1) rs u.toList=none:=by
 have:=rangesL_none (m:=m) (rs:=rs) hk h (by rw [List.drop_zero];exact hr)
 rwa [List.drop_zero] at this
theorem rrangesL_some {m:Nat} {rs:List (UInt8×UInt8)} {u:ByteArray} {r:UInt8×UInt8} {v:List UInt8} (hk:0<u.size) (h:u[0]≠93) (hr:rangeL u.toList=some (r,v)):rangesL (m+1) rs u.toList=rangesL m (rs++[r]) v:=by
 have:=rangesL_some (m:=m) (rs:=rs) hk h (by rw [List.drop_zero];exact hr)
 rwa [List.drop_zero] at this
def RElt (w:World) (Far:Nat->Prop):GE->Array Value->Prop
 | .all,cs=>cs=#[.int .i64 1,.int .u8 0,.bool false,.slice none 0 0]
 | .some,cs=>cs=#[.int .i64 2,.int .u8 0,.bool false,.slice none 0 0]
 | .any,cs=>cs=#[.int .i64 3,.int .u8 0,.bool false,.slice none 0 0]
 | .set neg rs,cs=>∃ v,cs=#[.int .i64 4,.int .u8 0,.bool neg,v]/\RangesFrom w Far v rs
 | .byt c,cs=>cs=#[.int .i64 5,.int .u8 c.toNat,.bool false,.slice none 0 0]
def RShape (cs:Array Value):Prop:=∃ k b nn a n c,cs=#[.int .i64 k,.int .u8 b,.bool nn,.slice a n c]
theorem RangesFrom.ffar {w:World} {Far Far':Nat->Prop} {v:Value} {rs:List (UInt8×UInt8)} (h:RangesFrom w Far v rs) (k:∀ b,b<w.heap.size->Far b->Far' b):RangesFrom w Far' v rs :=
 ⟨h.at_,fun g n cap hv=>⟨k _ (h.far g n cap hv).2 (h.far g n cap hv).1,(h.far g n cap hv).2⟩⟩
theorem RElt.keeps {w w':World} {Far:Nat->Prop} {e:GE} {cs:Array Value} (h:RElt w Far e cs) (k:Keeps Far w w'):RElt w' Far e cs:=by
 cases e with
 | set neg rs=>obtain ⟨v,h1,h2⟩:=h;exact ⟨v,h1,h2.keeps k⟩
 | _=>exact h
theorem RElt.far {w:World} {Far Far':Nat->Prop} {e:GE} {cs:Array Value} (h:RElt w Far e cs) (k:∀ b,b<w.heap.size->Far b->Far' b):RElt w Far' e cs:=by
 cases e with
 | set neg rs=>obtain ⟨v,h1,h2⟩:=h;exact ⟨v,h1,h2.ffar k⟩
 | _=>exact h
def REltPost (w:World) (R:Option (GE×List UInt8)) (e:Ending) (w':World):Prop:=(∃ cs r ok,e=.returned (.tuple #[.agg cs,.string r,.bool ok])/\RShape cs /\
   (match R with | none=>ok=false | some (x,r')=>ok=true/\r.toList=r'/\RElt w' (fun b=>w.heap.size<=b) x cs))/\Ext w w'
theorem REltPost.of_none {w w':World} {R:Option (GE×List UInt8)} {k b:Int} {nn:Bool} {a:Option Addr} {n c:Nat} {r:ByteArray} (h:R=none) (x:Ext w w') :
  REltPost w R (.returned (.tuple #[.agg #[.int .i64 k,.int .u8 b,.bool nn,.slice a n c],.string r,.bool false])) w':=⟨⟨_,_,_,rfl,⟨_,_,_,_,_,_,rfl⟩,by rw [h]⟩,x⟩
theorem REltPost.of_some {w w':World} {R:Option (GE×List UInt8)} {k b:Int} {nn:Bool} {a:Option Addr} {n c:Nat} {r:ByteArray} {x:GE} {r':List UInt8} (h:R=some (x,r')) (hr:r.toList=r')
  (he:RElt w' (fun b=>w.heap.size<=b) x #[.int .i64 k,.int .u8 b,.bool nn,.slice a n c]) (y:Ext w w') :
  REltPost w R (.returned (.tuple #[.agg #[.int .i64 k,.int .u8 b,.bool nn,.slice a n c],.string r,.bool true])) w':=⟨⟨_,_,_,rfl,⟨_,_,_,_,_,_,rfl⟩,by rw [h];exact ⟨rfl,hr,he⟩⟩,y⟩
structure RClsInv (w:World) (neg:Bool) (wr:World) (v:Value) (rs:List (UInt8×UInt8)):Prop where
 ext:Ext w wr
 res:wr.heap[w.heap.size]?=some (.cells #[.int .i64 0,.int .u8 0,.bool false,.slice none 0 0] 303 (0,0))
 x:wr.heap[w.heap.size+1]?=some (.cells #[.int .i64 4,.int .u8 0,.bool neg,v] 303 (0,0))
 own:wr.ownsRow (w.heap.size+2) 337 2 v rs.length (flatR rs)
theorem RClsInv.on {w wr w1:World} {neg:Bool} {v:Value} {rs:List (UInt8×UInt8)} (I:RClsInv w neg wr v rs) (x:Ext wr w1):RClsInv w neg w1 v rs :=
 ⟨I.ext.trans x,(x.block (lt_of_block I.res)).trans I.res,(x.block (lt_of_block I.x)).trans I.x,owns_ext I.own x⟩
theorem RClsInv.push {w wr w1:World} {neg:Bool} {v v':Value} {rs:List (UInt8×UInt8)} {r:UInt8×UInt8} {o:Obj} (I:RClsInv w neg wr v rs)
  (hown:w1.ownsRow (w.heap.size+2) 337 2 v' (rs.length+1) (flatR rs++[.int .u8 r.1.toNat,.int .u8 r.2.toNat])) (hg:(wr.alloc o).grownBy w1 v.ownBlock) :
  RClsInv w neg (w1.setCell ⟨w.heap.size+1,3,none⟩ v') v' (rs++[r]):=by
 have hge:=own_block_ge_k I.own;have hsz:=lt_of_block I.x
 have hbl:∀ i,i<w.heap.size+2->w1.heap[i]?=wr.heap[i]?:=fun i hi=>by
  rw [hg.block i (by simp;omega) (fun e=>by have:=hge i e.symm;omega),((Ext.refl wr).alloc o).block (by omega)]
 refine ⟨?_,?_,?_,?_⟩
 ·exact ((I.ext.alloc o).grown hg (by have:=I.ext.size;simp;omega) (fun k hk=>by have:=hge k hk;omega)).setCell (by simp) _
 ·rw [heap_setCell_other _ _ _ _ (by simp),hbl _ (by omega)];exact I.res
 ·exact heap_setCell_same _ _ _ _ _ _ ((hbl _ (by omega)).trans I.x)
 ·rw [List.length_append,flatR_snoc];exact owns_setCell hown (by omega)
theorem RClsInv.elt {w wr:World} {neg:Bool} {v:Value} {rs:List (UInt8×UInt8)} (I:RClsInv w neg wr v rs):RElt wr (fun b=>w.heap.size+2<=b) (.set neg rs) #[.int .i64 4,.int .u8 0,.bool neg,v] :=
 ⟨v,rfl,RangesFrom.of_owns I.own fun _ hb=>hb⟩
theorem rcls_start (w:World) (neg:Bool):RClsInv w neg ((w.alloc (.cells #[.int .i64 0,.int .u8 0,.bool false,.slice none 0 0] 303)).alloc (.cells #[.int .i64 4,.int .u8 0,.bool neg,.slice none 0 0] 303)) (.slice none 0 0) []:=by
 refine ⟨((Ext.refl w).alloc _).alloc _,?_,?_,World.ownsRow_nil _ _ _ _⟩
 ·rw [((Ext.refl _).alloc _).block (by simp)];exact heap_alloc_new _ _
 ·have:=heap_alloc_new (w.alloc (.cells #[.int .i64 0,.int .u8 0,.bool false,.slice none 0 0] 303)) (.cells #[.int .i64 4,.int .u8 0,.bool neg,.slice none 0 0] 303)
  rwa [show (w.alloc (.cells #[.int .i64 0,.int .u8 0,.bool false,.slice none 0 0] 303)).heap.size=w.heap.size+1 from by simp] at this
theorem rset4 {w:World} {b:Nat} {a0 a1 a2 a3:Value} {t:TypeId} (h:w.heap[b]?=some (.cells #[a0,a1,a2,a3] t (0,0))) (c0 c1 c2 c3:Value) :
  ((((w.setCell ⟨b,0,none⟩ c0).setCell ⟨b,1,none⟩ c1).setCell ⟨b,2,none⟩ c2).setCell ⟨b,3,none⟩ c3).heap[b]?=some (.cells #[c0,c1,c2,c3] t (0,0)) :=
 heap_setCell_same _ _ _ _ _ _ (heap_setCell_same _ _ _ _ _ _ (heap_setCell_same _ _ _ _ _ _ (heap_setCell_same _ _ _ _ _ _ h)))
theorem ext4 {w wr:World} (x:Ext w wr) (c0 c1 c2 c3:Value):Ext w ((((wr.setCell ⟨w.heap.size,0,none⟩ c0).setCell ⟨w.heap.size,1,none⟩ c1).setCell ⟨w.heap.size,2,none⟩ c2).setCell ⟨w.heap.size,3,none⟩ c3) :=
 (((x.setCell (Nat.le_refl _) _).setCell (Nat.le_refl _) _).setCell (Nat.le_refl _) _).setCell (Nat.le_refl _) _
theorem keep4 {Far:Nat->Prop} {wr:World} {b:Nat} (hb:¬ Far b) (c0 c1 c2 c3:Value):Keeps Far wr ((((wr.setCell ⟨b,0,none⟩ c0).setCell ⟨b,1,none⟩ c1).setCell ⟨b,2,none⟩ c2).setCell ⟨b,3,none⟩ c3) :=
 ((((Stays.setCell wr hb _).trans (Stays.setCell _ hb _)).trans (Stays.setCell _ hb _)).trans (Stays.setCell _ hb _)).keeps
set_option maxHeartbeats 4000000 in
set_option maxRecDepth 100000 in
theorem rclass_any (s:ByteArray) (w:World) (hs:s.size<=1024) :
  Calls prog 273 #[.string s] w (REltPost w (classL s.toList)):=by
 have HP:=fun w=>lh (begins07_any s ⟨#[33]⟩ w);have HO:=fun u w (h:u.size<=1024)=>lh (written_ext u w (by unfold maxLen;omega));have HR:=fun u=>lh (rrange_cases u);generalize hneg:Lib.hasPrefix s.toList (⟨#[33]⟩:ByteArray).toList=neg at HP;have HN:=lh (negL_of (s:=s) (neg:=neg) (by rw [<-hneg];rw [Lib.toList_data,Lib.toList_data]))
 have hs0:neg=true->0<s.size:=fun q=>by
  rcases Nat.eq_zero_or_pos s.size with h0 | h0
  ·rw [q,toList_nil s h0] at hneg;simp [Lib.hasPrefix,Lib.toList_data] at hneg
  ·exact h0
 clear hneg;go_enter func273,ntmps273;go_wp2_with fail;refine ((HP _).out).mono ?_;rintro e w1 ⟨rfl,hw1⟩;obtain rfl:=hw1.symm;clear HP
 cases neg
 case' false =>
  obtain ⟨R,hR0⟩:∃ R,R=rangesL (s.size+1) [] s.toList:=⟨_,rfl⟩;have HC:=lh (show classL s.toList=clsOf false R from by rw [hR0];exact classL_of (k:=0) HN.out);have HR0:=lh hR0;clear hR0 hs0;go_wp2_with fail;go_loopw [0] (fun sv wr=>Hid (∃ (u:ByteArray) (m:Nat) (rs:List (UInt8×UInt8)) (v:Value),sv=.string u/\u.size<m/\u.size<=s.size/\rs.length+u.size<=s.size/\rangesL m rs u.toList=R/\RClsInv w false wr v rs)) (fun sv _=>match sv with | .string u=>u.size | _=>0)
  case atStart=>exact ⟨s,s.size+1,[],_,rfl,by omega,by omega,by simp,HR0.out.symm,rcls_start w false⟩
 case' true =>
  obtain ⟨R,hR0⟩:∃ R,R=rangesL (s.size+1) [] (s.toList.drop 1):=⟨_,rfl⟩;have HC:=lh (show classL s.toList=clsOf true R from by rw [hR0];exact classL_of (k:=1) HN.out);have HR0:=lh hR0;have hs1:=hs0 rfl;clear hR0 hs0;go_wp2_with fail;go_loopw [0] (fun sv wr=>Hid (∃ (u:ByteArray) (m:Nat) (rs:List (UInt8×UInt8)) (v:Value),sv=.string u/\u.size<m/\u.size<=s.size/\rs.length+u.size<=s.size/\rangesL m rs u.toList=R/\RClsInv w true wr v rs)) (fun sv _=>match sv with | .string u=>u.size | _=>0)
  case atStart=>exact ⟨s.extract 1 s.size,s.size+1,[],_,rfl,by simp;omega,by simp,by simp,by rw [ext_toList];exact HR0.out.symm,rcls_start w true⟩
 all_goals
  obtain ⟨u,m,rs,v,rfl,hm,hu,hrl,hR,I⟩:=hrel.out;clear hrel;obtain ⟨va,vc,rfl,hvc,hvc2,_⟩:=RangesAt.of_owns I.own;unfold maxLen at hvc2;obtain ⟨m,rfl⟩:∃ m',m=m'+1:=⟨m - 1,by omega⟩;have HRR:=lh hR;have HI:=lh I;clear hR I HN;obtain ⟨⟨p0,p1,p2,p3⟩,pf0,pf1,pf2,pf3⟩:=quad HI.out.res;obtain ⟨⟨x0,x1,x2,x3⟩,xf0,xf1,xf2,xf3⟩:=quad HI.out.x;have rlt:w.heap.size+1<_:=lt_of_block HI.out.x;by_cases hlt:0<u.size
  ·by_cases h93:u[0]=93
   ·have n93:((u[0].toNat:Int) != 93)=false:=by rw [h93];rfl
    have n0:((u.size:Int)==0)=false:=beq_eq_false_iff_ne.2 (by omega)
    cases rs with
    | nil =>
     have HF:=lh (HRR.out.symm.trans (rrangesL_close hlt h93));clear HR HO h93;go_wp2_with fail;refine bodyPost_ret (results_row2 rfl _ _ w.heap.size 303 _ (0,0) _ rfl (by exact rset4 HI.out.res _ _ _ _) underlying303 rfl (by kernel_rfl)) rfl ?_;exact REltPost.of_none (by rw [HC.out,HF.out];rfl) (ext4 HI.out.ext _ _ _ _)
    | cons q rs' =>
     have HF:=lh (HRR.out.symm.trans (rrangesL_close hlt h93));have nl:(((q::rs').length:Int)==0)=false:=beq_eq_false_iff_ne.2 (by simp;omega);generalize hqr:q::rs'=rs at *;have HQ:=lh hqr;clear hqr HR HO h93;go_wp2_with fail;go_region
     all_goals
      go_wp2_with fail;refine bodyPost_ret (results_row2 rfl _ _ w.heap.size 303 _ (0,0) _ rfl (by exact rset4 HI.out.res _ _ _ _) underlying303 rfl (by kernel_rfl)) rfl ?_;exact REltPost.of_some (by rw [HC.out,HF.out,<-HQ.out];rfl) rfl (by rw [HQ.out];exact ((HI.out.elt.keeps (keep4 (by simp) _ _ _ _)).keeps (((Ext.refl _).drew).keeps _)).far (fun b _ hb=>by omega)) ((ext4 HI.out.ext _ _ _ _).drew)
   ·have n93:((u[0].toNat:Int) != 93)=true:=by rw [bne,beq_eq_false_iff_ne.2 (fun e=>h93 (UInt8.toNat_inj.1 (by simp;omega)))];rfl
    go_wp2_with fail;refine ((HO u _ (by omega)).out).mono ?_;rintro e w2 ⟨rfl,hx2⟩;have HI2:=lh (HI.out.on hx2);clear p0 p1 p2 p3 pf0 pf1 pf2 pf3 x0 x1 x2 x3 xf0 xf1 xf2 xf3 rlt;obtain ⟨⟨p0,p1,p2,p3⟩,pf0,pf1,pf2,pf3⟩:=quad HI2.out.res;obtain ⟨⟨x0,x1,x2,x3⟩,xf0,xf1,xf2,xf3⟩:=quad HI2.out.x;have rlt:w.heap.size+1<_:=lt_of_block HI2.out.x;clear hx2 HI;rcases (HR u).out with ⟨q1,q2⟩ | ⟨f,r,q1,q2,q3⟩
    ·rw [q1];have HF:=lh (HRR.out.symm.trans (rrangesL_none hlt h93 q2));clear HR q2 HO;go_wp2_with fail;refine bodyPost_ret (results_row2 rfl _ _ w.heap.size 303 _ (0,0) _ rfl (by exact rset4 HI2.out.res _ _ _ _) underlying303 rfl (by kernel_rfl)) rfl ?_;exact REltPost.of_none (by rw [HC.out,HF.out];rfl) (ext4 HI2.out.ext _ _ _ _)
    ·rw [q1];simp only;rcases q3 with ⟨nd,q3⟩ | ⟨nd,q3⟩
     ·have HF:=lh (HRR.out.symm.trans (rrangesL_some hlt h93 q3));clear HR q3 HO
      have key:r.size<=1\/(∃ h:1<r.size,((r[0].toNat:Int)==45)=false)\/(∃ h:1<r.size,((r[0].toNat:Int)==45)=true/\((r[1].toNat:Int) != 93)=false):=by
       by_cases d:1<r.size
       ·by_cases d2:r[0]=45
        ·by_cases d3:r[1]=93
         ·exact .inr (.inr ⟨d,by rw [d2];rfl,by rw [d3];rfl⟩)
         ·exact absurd ⟨d,d2,d3⟩ nd
        ·exact .inr (.inl ⟨d,beq_eq_false_iff_ne.2 (fun e=>d2 (UInt8.toNat_inj.1 (by simp;omega)))⟩)
       ·exact .inl (by omega)
      clear nd;rcases key with d | ⟨d,d2⟩ | ⟨d,d2,d3⟩
      ·have d1:decide ((1:Int)<(r.size:Int))=false:=by rw [decide_eq_false_iff_not];omega
       go_wp2_with (at_builtin;refine append_kw elR (w.heap.size+2) _ rs.length (flatR rs) (HI2.out.own.alloc _) w2.heap.size [.int .u8 f.toNat,.int .u8 f.toNat] rfl (.tmp 63) (.tmp 67) rfl rfl rfl rfl (news2 _ _ _ _) (ones2 _ _) (by omega) (by simp;omega) ?_);intro v' w3 hown3 hgr3 hv3 _;obtain ⟨g3,cap3,rfl,_⟩:=hv3;have I3:=lh (RClsInv.push (r:=(f,f)) HI2.out hown3 hgr3);have hb3:w3.heap[w.heap.size+1]?=_:=(hgr3.block _ (by simp;omega) (fun e=>by have:=own_block_ge_k HI2.out.own _ e.symm;omega)).trans ((((Ext.refl w2).alloc _).block rlt).trans HI2.out.x);clear p0 p1 p2 p3 pf0 pf1 pf2 pf3 x0 x1 x2 x3 xf0 xf1 xf2 xf3 rlt;obtain ⟨⟨x0,x1,x2,x3⟩,xf0,xf1,xf2,xf3⟩:=quad hb3;clear hb3 hown3 hgr3;go_wp2_with fail;go_roundw
       case rel=>exact ⟨r,m,rs++[(f,f)],_,rfl,by omega,by omega,by simp;omega,HF.out.symm,I3.out⟩
       case measure=>simp <;> omega
      ·go_wp2_with (at_builtin;refine append_kw elR (w.heap.size+2) _ rs.length (flatR rs) (HI2.out.own.alloc _) w2.heap.size [.int .u8 f.toNat,.int .u8 f.toNat] rfl (.tmp 63) (.tmp 67) rfl rfl rfl rfl (news2 _ _ _ _) (ones2 _ _) (by omega) (by simp;omega) ?_);intro v' w3 hown3 hgr3 hv3 _;obtain ⟨g3,cap3,rfl,_⟩:=hv3;have I3:=lh (RClsInv.push (r:=(f,f)) HI2.out hown3 hgr3);have hb3:w3.heap[w.heap.size+1]?=_:=(hgr3.block _ (by simp;omega) (fun e=>by have:=own_block_ge_k HI2.out.own _ e.symm;omega)).trans ((((Ext.refl w2).alloc _).block rlt).trans HI2.out.x);clear p0 p1 p2 p3 pf0 pf1 pf2 pf3 x0 x1 x2 x3 xf0 xf1 xf2 xf3 rlt;obtain ⟨⟨x0,x1,x2,x3⟩,xf0,xf1,xf2,xf3⟩:=quad hb3;clear hb3 hown3 hgr3;go_wp2_with fail;go_roundw
       case rel=>exact ⟨r,m,rs++[(f,f)],_,rfl,by omega,by omega,by simp;omega,HF.out.symm,I3.out⟩
       case measure=>simp <;> omega
      ·go_wp2_with (at_builtin;refine append_kw elR (w.heap.size+2) _ rs.length (flatR rs) (HI2.out.own.alloc _) w2.heap.size [.int .u8 f.toNat,.int .u8 f.toNat] rfl (.tmp 63) (.tmp 67) rfl rfl rfl rfl (news2 _ _ _ _) (ones2 _ _) (by omega) (by simp;omega) ?_);intro v' w3 hown3 hgr3 hv3 _;obtain ⟨g3,cap3,rfl,_⟩:=hv3;have I3:=lh (RClsInv.push (r:=(f,f)) HI2.out hown3 hgr3);have hb3:w3.heap[w.heap.size+1]?=_:=(hgr3.block _ (by simp;omega) (fun e=>by have:=own_block_ge_k HI2.out.own _ e.symm;omega)).trans ((((Ext.refl w2).alloc _).block rlt).trans HI2.out.x);clear p0 p1 p2 p3 pf0 pf1 pf2 pf3 x0 x1 x2 x3 xf0 xf1 xf2 xf3 rlt;obtain ⟨⟨x0,x1,x2,x3⟩,xf0,xf1,xf2,xf3⟩:=quad hb3;clear hb3 hown3 hgr3;go_wp2_with fail;go_roundw
       case rel=>exact ⟨r,m,rs++[(f,f)],_,rfl,by omega,by omega,by simp;omega,HF.out.symm,I3.out⟩
       case measure=>simp <;> omega
     ·obtain ⟨d,d2,d3⟩:=nd;have e2:((r[0].toNat:Int)==45)=true:=by rw [d2];rfl
      have e3:((r[1].toNat:Int) != 93)=true:=by rw [bne,beq_eq_false_iff_ne.2 (fun e=>d3 (UInt8.toNat_inj.1 (by simp;omega)))];rfl
      clear d2 d3;have HQ3:=lh q3;clear q3;go_wp2_with fail;refine ((HO (r.extract 1 r.size) _ (by simp;omega)).out).mono ?_;rintro e w4 ⟨rfl,hx4⟩;obtain ⟨w2',rfl⟩:∃ w':World,w'=w2:=⟨_,rfl⟩;have HI3:=HI2;clear HI2;have HI2:=lh (HI3.out.on hx4);obtain ⟨w2,rfl⟩:∃ w':World,w'=w4:=⟨_,rfl⟩;clear HI3;clear p0 p1 p2 p3 pf0 pf1 pf2 pf3 x0 x1 x2 x3 xf0 xf1 xf2 xf3 rlt;obtain ⟨⟨p0,p1,p2,p3⟩,pf0,pf1,pf2,pf3⟩:=quad HI2.out.res;obtain ⟨⟨x0,x1,x2,x3⟩,xf0,xf1,xf2,xf3⟩:=quad HI2.out.x;have rlt:w.heap.size+1<_:=lt_of_block HI2.out.x;clear hx4;rcases HQ3.out with ⟨p1',p2'⟩ | ⟨t,r2,p1',p2',p3'⟩
      ·rw [p1'];have HF:=lh (HRR.out.symm.trans (rrangesL_none hlt h93 p2'));clear HR p2' HQ3 HO;go_wp2_with fail;refine bodyPost_ret (results_row2 rfl _ _ w.heap.size 303 _ (0,0) _ rfl (by exact rset4 HI2.out.res _ _ _ _) underlying303 rfl (by kernel_rfl)) rfl ?_;exact REltPost.of_none (by rw [HC.out,HF.out];rfl) (ext4 HI2.out.ext _ _ _ _)
      ·rw [p1'];simp only;rcases p3' with ⟨p4',p5'⟩ | ⟨p4',p5'⟩
       ·have HF:=lh (HRR.out.symm.trans (rrangesL_none hlt h93 p5'));clear HR p5' HQ3 HO;go_wp2_with fail;refine bodyPost_ret (results_row2 rfl _ _ w.heap.size 303 _ (0,0) _ rfl (by exact rset4 HI2.out.res _ _ _ _) underlying303 rfl (by kernel_rfl)) rfl ?_;exact REltPost.of_none (by rw [HC.out,HF.out];rfl) (ext4 HI2.out.ext _ _ _ _)
       ·have HF:=lh (HRR.out.symm.trans (rrangesL_some hlt h93 p5'));clear HR p5' HQ3 HO;go_wp2_with (at_builtin;refine append_kw elR (w.heap.size+2) _ rs.length (flatR rs) (HI2.out.own.alloc _) w2.heap.size [.int .u8 f.toNat,.int .u8 t.toNat] rfl (.tmp 63) (.tmp 67) rfl rfl rfl rfl (news2 _ _ _ _) (ones2 _ _) (by omega) (by simp;omega) ?_);intro v' w3 hown3 hgr3 hv3 _;obtain ⟨g3,cap3,rfl,_⟩:=hv3;have I3:=lh (RClsInv.push (r:=(f,t)) HI2.out hown3 hgr3);have hb3:w3.heap[w.heap.size+1]?=_:=(hgr3.block _ (by simp;omega) (fun e=>by have:=own_block_ge_k HI2.out.own _ e.symm;omega)).trans ((((Ext.refl w2).alloc _).block rlt).trans HI2.out.x);clear p0 p1 p2 p3 pf0 pf1 pf2 pf3 x0 x1 x2 x3 xf0 xf1 xf2 xf3 rlt;obtain ⟨⟨x0,x1,x2,x3⟩,xf0,xf1,xf2,xf3⟩:=quad hb3;clear hb3 hown3 hgr3;go_wp2_with fail;go_roundw
        case rel=>exact ⟨r2,m,rs++[(f,t)],_,rfl,by omega,by omega,by simp;omega,HF.out.symm,I3.out⟩
        case measure=>simp <;> omega
  ·have hu0:u.size=0:=by omega
   have HF:=lh (HRR.out.symm.trans (rrangesL_end hu0));have n0:((u.size:Int)==0)=true:=by rw [hu0];rfl
   clear HR HO;go_wp2_with fail;refine bodyPost_ret (results_row2 rfl _ _ w.heap.size 303 _ (0,0) _ rfl (by exact rset4 HI.out.res _ _ _ _) underlying303 rfl (by kernel_rfl)) rfl ?_;exact REltPost.of_none (by rw [HC.out,HF.out];rfl) (ext4 HI.out.ext _ _ _ _)
end
section
set_option maxHeartbeats 4000000 in
set_option maxRecDepth 100000 in
theorem relement_any (s:ByteArray) (w:World) (h0:0<s.size) (hs:s.size<=1024) :
  Calls prog 220 #[.string s] w (REltPost w (elementL s.toList)):=by
 have HP:=fun w=>lh (begins07_any s ⟨#[42,42]⟩ w);have HO:=fun w=>lh (written_ext s w (by unfold maxLen;omega));have HC:=fun w=>lh (rclass_any (s.extract 1 s.size) w (by simp;omega));have H1:=lh (wr_cases s);rw [show Lib.hasPrefix s.toList (⟨#[42,42]⟩:ByteArray).toList=Lib.hasPrefix s.data.toList [42,42] from by rw [Lib.toList_data,Lib.toList_data]] at HP;rcases element_cases s h0 with ⟨hp,hz,he⟩ | ⟨hp,hc,he⟩ | ⟨hp,hc,he⟩ | ⟨hp,hc,he⟩ | ⟨hp,hc,he⟩ | ⟨hp,n1,n2,n3,n4,he⟩
 ·have HE:=lh he;rw [hp] at HP;clear he hp HO HC H1;go_enter func220,ntmps220;go_wp2_with fail;refine ((HP _).out).mono ?_;rintro e w1 ⟨rfl,hw1⟩;obtain rfl:=hw1.symm;go_wp2_with fail;go_region
  all_goals
   go_wp2_with fail;refine bodyPost_ret (results_row2 rfl _ _ w.heap.size 303 _ (0,0) _ rfl (by first | exact heap_new_drew rfl | exact heap_alloc_new _ _) underlying303 rfl (by kernel_rfl)) rfl ?_;exact REltPost.of_some (x:=.all) HE.out (by rw [ext_toList]) rfl (((Ext.refl w).alloc _).drew)
 ·have HE:=lh he;rw [hp] at HP;have q0:((s[0].toNat:Int)==42)=true:=by rw [hc];rfl
  clear he hp HO HC H1 hc;go_enter func220,ntmps220;go_wp2_with fail;refine ((HP _).out).mono ?_;rintro e w1 ⟨rfl,hw1⟩;obtain rfl:=hw1.symm;go_wp2_with fail;go_region
  all_goals
   go_wp2_with fail;refine bodyPost_ret (results_row2 rfl _ _ w.heap.size 303 _ (0,0) _ rfl (by first | exact heap_new_drew rfl | exact heap_alloc_new _ _) underlying303 rfl (by kernel_rfl)) rfl ?_;exact REltPost.of_some (x:=.some) HE.out (by rw [ext_toList]) rfl (((Ext.refl w).alloc _).drew)
 ·have HE:=lh he;rw [hp] at HP;have q0:((s[0].toNat:Int)==42)=false:=by rw [hc];rfl
  have q1:((s[0].toNat:Int)==63)=true:=by rw [hc];rfl
  clear he hp HO HC H1 hc;go_enter func220,ntmps220;go_wp2_with fail;refine ((HP _).out).mono ?_;rintro e w1 ⟨rfl,hw1⟩;obtain rfl:=hw1.symm;go_wp2_with fail;go_region
  all_goals
   go_wp2_with fail;refine bodyPost_ret (results_row2 rfl _ _ w.heap.size 303 _ (0,0) _ rfl (by first | exact heap_new_drew rfl | exact heap_alloc_new _ _) underlying303 rfl (by kernel_rfl)) rfl ?_;exact REltPost.of_some (x:=.any) HE.out (by rw [ext_toList]) rfl (((Ext.refl w).alloc _).drew)
 ·have HE:=lh he;rw [hp] at HP;have q0:((s[0].toNat:Int)==42)=false:=by rw [hc];rfl
  have q1:((s[0].toNat:Int)==63)=false:=by rw [hc];rfl
  have q2:((s[0].toNat:Int)==91)=false:=by rw [hc];rfl
  have q3:((s[0].toNat:Int)==47)=true:=by rw [hc];rfl
  clear he hp HO HC H1 hc;go_enter func220,ntmps220;go_wp2_with fail;refine ((HP _).out).mono ?_;rintro e w1 ⟨rfl,hw1⟩;obtain rfl:=hw1.symm;go_wp2_with fail;go_region
  all_goals
   go_wp2_with fail;refine bodyPost_ret (results_row2 rfl _ _ w.heap.size 303 _ (0,0) _ rfl (by first | exact heap_new_drew rfl | exact heap_alloc_new _ _) underlying303 rfl (by kernel_rfl)) rfl ?_;exact REltPost.of_some (x:=(.byt 47)) HE.out (by rw [ext_toList]) rfl (((Ext.refl w).alloc _).drew)
 ·have HE:=lh he;rw [hp] at HP;have q0:((s[0].toNat:Int)==42)=false:=by rw [hc];rfl
  have q1:((s[0].toNat:Int)==63)=false:=by rw [hc];rfl
  have q2:((s[0].toNat:Int)==91)=true:=by rw [hc];rfl
  clear he hp HO H1 hc;go_enter func220,ntmps220;go_wp2_with fail;refine ((HP _).out).mono ?_;rintro e w1 ⟨rfl,hw1⟩;obtain rfl:=hw1.symm;go_wp2_with fail;refine ((HC _).out).mono ?_;rintro e w1 ⟨⟨cs,r,ok,rfl,⟨k,b,nn,a,n,c,rfl⟩,hcl⟩,x1⟩;rw [ext_toList] at hcl;have hb:=first_block x1;obtain ⟨⟨p0,p1,p2,p3⟩,pf0,pf1,pf2,pf3⟩:=quad hb;have HB:=lh hb;have HX:=lh (((Ext.refl w).alloc _).trans x1);have HCL:=lh hcl;clear hb x1 hcl;go_wp2_with fail;refine bodyPost_ret (results_row2 rfl _ _ w.heap.size 303 _ (0,0) _ rfl (by exact rset4 HB.out _ _ _ _) underlying303 rfl (by kernel_rfl)) rfl ?_;rw [HE.out];have hcl:=HCL.out
  cases hq:classL (s.toList.drop 1) with
  | none =>
   rw [hq] at hcl;obtain rfl:ok=false:=hcl;exact REltPost.of_none rfl (ext4 HX.out _ _ _ _)
  | some y =>
   rw [hq] at hcl;obtain ⟨rfl,h2,h3⟩:=hcl;exact REltPost.of_some rfl h2 ((h3.keeps (keep4 (by simp) _ _ _ _)).far (fun b' _ hb'=>Nat.le_trans (Nat.le_succ _) (by simpa using hb'))) (ext4 HX.out _ _ _ _)
 ·have q0:((s[0].toNat:Int)==42)=false:=toNat_ne n1;have q1:((s[0].toNat:Int)==63)=false:=toNat_ne n2;have q2:((s[0].toNat:Int)==47)=false:=toNat_ne n3;have q3:((s[0].toNat:Int)==91)=false:=toNat_ne n4;rw [hp] at HP
  have key:∃ c r ok,wrS s=(c,r,ok)/\((ok=false/\elementL s.toList=none)\/(ok=true/\elementL s.toList=some (.byt c,r.toList))):=by
   rcases H1.out with ⟨h1,h2⟩ | ⟨c,r,h1,h2,h3⟩
   ·exact ⟨_,_,_,h1,.inl ⟨rfl,by rw [he,h2]⟩⟩
   ·exact ⟨_,_,_,h1,.inr ⟨rfl,by rw [he,h2]⟩⟩
  obtain ⟨c,r,ok,hck,HE⟩:=key;have HE:=lh HE;rw [hck] at HO;clear he hp HC H1 n1 n2 n3 n4 hck;simp only at HO;go_enter func220,ntmps220;go_wp2_with fail;refine ((HP _).out).mono ?_;rintro e w1 ⟨rfl,hw1⟩;obtain rfl:=hw1.symm;go_wp2_with fail;refine ((HO _).out).mono ?_;rintro e w1 ⟨rfl,x1⟩;have hb:=first_block x1;obtain ⟨⟨p0,p1,p2,p3⟩,pf0,pf1,pf2,pf3⟩:=quad hb;have HB:=lh hb;have HX:=lh (((Ext.refl w).alloc _).trans x1);clear hb x1;go_wp2_with fail;refine bodyPost_ret (results_row2 rfl _ _ w.heap.size 303 _ (0,0) _ rfl (by exact rset4 HB.out _ _ _ _) underlying303 rfl (by kernel_rfl)) rfl ?_;rcases HE.out with ⟨rfl,hn⟩ | ⟨rfl,hn⟩
  ·exact REltPost.of_none hn (ext4 HX.out _ _ _ _)
  ·exact REltPost.of_some hn rfl rfl (ext4 HX.out _ _ _ _)
theorem elC:ElemK prog 245 303 (.agg #[.int .i64 0,.int .u8 0,.bool false,.slice none 0 0]) 4 40:=⟨by kernel_rfl,by kernel_rfl,rfl,by decide,by decide⟩
def flatC (l:List (GE×Array Value)):List Value:=l.flatMap fun x=>x.2.toList
theorem flatC_snoc (l:List (GE×Array Value)) (x:GE×Array Value):flatC (l++[x])=flatC l++x.2.toList:=by simp [flatC]
theorem flatC_at:∀ (l:List (GE×Array Value)),(∀ x∈l,RShape x.2)->∀ (j:Nat) (x:GE×Array Value),l[j]?=some x->∀ (i:Nat) u,x.2[i]?=some u->(flatC l)[4*j+i]?=some u
 | [],_,_,_,h=>by cases h
 | y::l,_,0,x,h=>by
  cases h
  intro i u hu
  show (y.2.toList++flatC l)[4*0+i]?=some u
  rw [Nat.mul_zero,Nat.zero_add,List.getElem?_append_left (by
   have:=(Array.getElem?_eq_some_iff.1 hu).1
   simpa using this)]
  simpa using hu
 | y::l,hs,j+1,x,h=>by
  intro i u hu;have:=flatC_at l (fun z hz=>hs z (List.mem_cons_of_mem _ hz)) j x h i u hu;obtain ⟨k,b,nn,a,n,c,hy⟩:=hs y List.mem_cons_self
  show (y.2.toList++flatC l)[4*(j+1)+i]?=some u
  rw [List.getElem?_append_right (by rw [hy];simp;omega),hy];rw [show 4*(j+1)+i - (List.length (Array.toList #[Value.int .i64 k,.int .u8 b,.bool nn,.slice a n c]))=4*j+i from by simp;omega];exact this
structure REltsAt (w:World) (Far:Nat->Prop) (v:Value) (l:List (GE×Array Value)):Prop where
 row:∃ a cap,v=.slice a l.length cap/\l.length<=cap/\cap<=maxLen/\∀ (j:Nat) x,l[j]?=some x->∃ g,a=some ⟨g,0,none⟩/\Far g/\∀ (i:Nat) u,x.2[i]?=some u->w.cell? ⟨g,4*j+i,none⟩=some u
 elts:∀ x∈l,RElt w Far x.1 x.2/\RShape x.2
theorem REltsAt.keeps {w w':World} {Far:Nat->Prop} {v:Value} {l:List (GE×Array Value)} (h:REltsAt w Far v l) (k:Keeps Far w w'):REltsAt w' Far v l:=by
 obtain ⟨a,cap,h1,h2,h3,h4⟩:=h.row;refine ⟨⟨a,cap,h1,h2,h3,fun j x hj=>?_⟩,fun x hx=>⟨(h.elts x hx).1.keeps k,(h.elts x hx).2⟩⟩;obtain ⟨g,h5,h6,h7⟩:=h4 j x hj;exact ⟨g,h5,h6,fun i u hu=>k.at_ h6 (h7 i u hu)⟩
theorem REltsAt.ext {w w':World} {Far:Nat->Prop} {v:Value} {l:List (GE×Array Value)} (h:REltsAt w Far v l) (k:Ext w w'):REltsAt w' Far v l:=h.keeps (k.keeps Far)
theorem REltsAt.far {w:World} {Far Far':Nat->Prop} {v:Value} {l:List (GE×Array Value)} (h:REltsAt w Far v l) (k:∀ b,b<w.heap.size->Far b->Far' b):REltsAt w Far' v l:=by
 obtain ⟨a,cap,h1,h2,h3,h4⟩:=h.row;refine ⟨⟨a,cap,h1,h2,h3,fun j x hj=>?_⟩,fun x hx=>⟨(h.elts x hx).1.far k,(h.elts x hx).2⟩⟩;obtain ⟨g,h5,h6,h7⟩:=h4 j x hj;obtain ⟨k1,b1,nn,a1,n1,c1,hy⟩:=(h.elts x (List.mem_of_getElem? hj)).2;exact ⟨g,h5,k _ (lt_of_cell (h7 0 (.int .i64 k1) (by rw [hy];rfl))) h6,h7⟩
structure RParInv (w:World) (m:Marks) (r:Bool) (wr:World) (v:Value) (l:List (GE×Array Value)):Prop where
 ext:Ext w wr
 res:wr.heap[w.heap.size]?=some (.cells #[.bool false,.bool false,.bool false,.bool false,.slice none 0 0] 247 (0,0))
 p:wr.heap[w.heap.size+1]?=some (.cells #[.bool m.neg,.bool m.fold,.bool m.del,.bool r,v] 247 (0,0))
 own:wr.ownsRow (w.heap.size+2) 303 4 v l.length (flatC l)
 elts:∀ x∈l,RElt wr (fun b=>w.heap.size+2<=b/\some b≠v.ownBlock) x.1 x.2/\RShape x.2
theorem RParInv.push {w wr w1 w2:World} {m:Marks} {r:Bool} {v v':Value} {l:List (GE×Array Value)} {x:GE×Array Value} (I:RParInv w m r wr v l) (h1:Ext wr w1)
  (hx:RElt w1 (fun b=>wr.heap.size<=b) x.1 x.2) (hs:RShape x.2) (hown:w2.ownsRow (w.heap.size+2) 303 4 v' (l.length+1) (flatC l++x.2.toList)) (hg:w1.grownBy w2 v.ownBlock)
  (hw:v'.ownBlock=v.ownBlock\/v'.ownBlock=some w1.heap.size):RParInv w m r (w2.setCell ⟨w.heap.size+1,4,none⟩ v') v' (l++[x]):=by
 have hlt:=lt_of_block I.p;have hge:=own_block_ge_k I.own;have hlo:=fun k hk=>(I.own.lt k hk).2
 have hS:Stays (fun b=>w.heap.size+2<=b/\some b≠v.ownBlock) w1 (w2.setCell ⟨w.heap.size+1,4,none⟩ v') :=
  (Stays.grown hg (fun k hk hf=>hf.2 hk.symm)).trans (Stays.setCell _ (fun hf=>by have:=hf.1;omega) _)
 have hbl:∀ i,i<w.heap.size+2->w2.heap[i]?=wr.heap[i]?:=fun i hi=>by
  rw [hg.block i (by have:=h1.size;omega) (fun e=>by have:=hge i e.symm;omega),h1.block (by omega)]
 have farv:∀ b,b<w1.heap.size->(w.heap.size+2<=b/\some b≠v.ownBlock)->(w.heap.size+2<=b/\some b≠v'.ownBlock):=fun b hb hf=>by
  refine ⟨hf.1,fun e=>?_⟩;rcases hw with h | h
  ·exact hf.2 (e.trans h)
  ·have:=Option.some.inj (e.trans h);omega
 refine ⟨?_,?_,?_,?_,?_⟩
 ·exact ((I.ext.trans h1).grown hg (Nat.le_trans I.ext.size h1.size) (fun k hk=>by have:=hge k hk;omega)).setCell (by simp) _
 ·rw [heap_setCell_other _ _ _ _ (by simp),hbl _ (by omega)];exact I.res
 ·exact heap_setCell_same w2 _ 4 _ _ v' ((hbl _ (by omega)).trans I.p)
 ·rw [List.length_append,flatC_snoc];exact owns_setCell hown (by omega)
 ·intro y hy
  have key:RElt w1 (fun b=>w.heap.size+2<=b/\some b≠v.ownBlock) y.1 y.2/\RShape y.2:=by
   rcases List.mem_append.1 hy with h | h
   ·exact ⟨(I.elts y h).1.keeps (h1.keeps _),(I.elts y h).2⟩
   ·obtain rfl:=List.mem_singleton.1 h;exact ⟨hx.far (fun b _ hb=>⟨by omega,fun e=>by have:=hlo b e.symm;omega⟩),hs⟩
  have key2:RElt w1 (fun b=>(w.heap.size+2<=b/\some b≠v.ownBlock)/\some b≠v'.ownBlock) y.1 y.2:=key.1.far fun b hb hf=>⟨hf,(farv b hb hf).2⟩;exact ⟨(key2.keeps (hS.weaken fun b _ hf=>hf.1).keeps).far fun b _ hf=>⟨hf.1.1,hf.2⟩,key.2⟩
theorem RParInv.done {w wr:World} {m:Marks} {r:Bool} {v:Value} {l:List (GE×Array Value)} (I:RParInv w m r wr v l):REltsAt wr (fun b=>w.heap.size+2<=b) v l:=by
 refine ⟨?_,fun x hx=>⟨(I.elts x hx).1.far fun b _ hb=>hb.1,(I.elts x hx).2⟩⟩;rcases I.own.2 with ⟨h1,h2⟩ | ⟨g,cap,cur,hv,hb,hh,hc,hm,hs,ht⟩
 ·exact ⟨none,0,by rw [h1,h2],by omega,by unfold maxLen;omega,fun j x hj=>by rw [List.length_eq_zero_iff.1 h2] at hj;cases hj⟩
 ·refine ⟨_,cap,hv,hc,hm,fun j x hj=>⟨g,rfl,hb,fun i u hu=>?_⟩⟩;have own:=I.own;rw [hv] at own;have hj':j<l.length:=(List.getElem?_eq_some_iff.1 hj).1
  have hi:i<4:=by
   obtain ⟨k,b,nn,a,n,c,hy⟩:=(I.elts x (List.mem_of_getElem? hj)).2;have:=(Array.getElem?_eq_some_iff.1 hu).1;rw [hy] at this
   simpa using this
  rw [own.cellAt (4*j+i) (by omega)];exact flatC_at l (fun x hx=>(I.elts x hx).2) j x hj i u hu
def RParPost (w:World) (s:ByteArray) (e:Ending) (w':World):Prop:=(∃ (m:Marks) (r:Bool) (a:Option Addr) (n c:Nat) (k:Nat),e=.returned (.tuple #[.agg #[.bool m.neg,.bool m.fold,.bool m.del,.bool r,.slice a n c],.int .i64 k]) /\
  (match patL s.toList with
  | .error k'=>k=k'/\k≠0
  | .ok p=>k=0/\p.marks=m/\p.rooted=r/\∃ l,l.map (·.1)=p.es/\REltsAt w' (fun b=>w.heap.size<=b) (.slice a n c) l))/\Ext w w'
theorem RParPost.err {w w':World} {s:ByteArray} {k:Nat} (h:patL s.toList=.error k) (hk:k≠0) (x:Ext w w') :
  RParPost w s (.returned (.tuple #[.agg #[.bool false,.bool false,.bool false,.bool false,.slice none 0 0],.int .i64 k])) w' :=
 ⟨⟨⟨false,false,false⟩,false,none,0,0,k,rfl,by rw [h];exact ⟨rfl,hk⟩⟩,x⟩
theorem ext5 {w wr:World} (x:Ext w wr) (c0 c1 c2 c3 c4:Value):Ext w (((((wr.setCell ⟨w.heap.size,0,none⟩ c0).setCell ⟨w.heap.size,1,none⟩ c1).setCell ⟨w.heap.size,2,none⟩ c2).setCell ⟨w.heap.size,3,none⟩ c3).setCell ⟨w.heap.size,4,none⟩ c4) :=
 (ext4 x _ _ _ _).setCell (Nat.le_refl _) _
theorem set5 {w:World} {b:Nat} {a0 a1 a2 a3 a4:Value} {t:TypeId} (h:w.heap[b]?=some (.cells #[a0,a1,a2,a3,a4] t (0,0))) (c0 c1 c2 c3 c4:Value) :
  (((((w.setCell ⟨b,0,none⟩ c0).setCell ⟨b,1,none⟩ c1).setCell ⟨b,2,none⟩ c2).setCell ⟨b,3,none⟩ c3).setCell ⟨b,4,none⟩ c4).heap[b]?=some (.cells #[c0,c1,c2,c3,c4] t (0,0)) :=
 heap_setCell_same _ _ _ _ _ _ (heap_setCell_same _ _ _ _ _ _ (heap_setCell_same _ _ _ _ _ _ (heap_setCell_same _ _ _ _ _ _ (heap_setCell_same _ _ _ _ _ _ h))))
theorem keep5 {Far:Nat->Prop} {wr:World} {b:Nat} (hb:¬ Far b) (c0 c1 c2 c3 c4:Value):Keeps Far wr (((((wr.setCell ⟨b,0,none⟩ c0).setCell ⟨b,1,none⟩ c1).setCell ⟨b,2,none⟩ c2).setCell ⟨b,3,none⟩ c3).setCell ⟨b,4,none⟩ c4) :=
 (keep4 hb _ _ _ _).trans (Stays.setCell _ hb _).keeps
theorem quint {w:World} {b:Nat} {a0 a1 a2 a3 a4:Value} {t:TypeId} (h:w.heap[b]?=some (.cells #[a0,a1,a2,a3,a4] t (0,0))) :
  (w.cell? ⟨b,0,none⟩=some a0/\w.cell? ⟨b,1,none⟩=some a1/\w.cell? ⟨b,2,none⟩=some a2/\w.cell? ⟨b,3,none⟩=some a3/\w.cell? ⟨b,4,none⟩=some a4) /\
  (w.frozen? ⟨b,0,none⟩=false/\w.frozen? ⟨b,1,none⟩=false/\w.frozen? ⟨b,2,none⟩=false/\w.frozen? ⟨b,3,none⟩=false/\w.frozen? ⟨b,4,none⟩=false) :=
 ⟨⟨cell_of_block h,cell_of_block h,cell_of_block h,cell_of_block h,cell_of_block h⟩,frozen_of_block h,frozen_of_block h,frozen_of_block h,frozen_of_block h,frozen_of_block h⟩
theorem markL_of (u:ByteArray):gmarkL u.toList=if Lib.hasPrefix u.toList (⟨#[33]⟩:ByteArray).toList then some (1,1) else if Lib.hasPrefix u.toList (⟨#[40,63,105,41]⟩:ByteArray).toList then some (3,4) else if Lib.hasPrefix u.toList (⟨#[40,63,100,41]⟩:ByteArray).toList then some (2,4) else none:=by
 rw [Lib.toList_data (⟨#[33]⟩:ByteArray),Lib.toList_data (⟨#[40,63,105,41]⟩:ByteArray),Lib.toList_data (⟨#[40,63,100,41]⟩:ByteArray)];rfl
theorem pre_le {u p:ByteArray} (h:Lib.hasPrefix u.toList p.toList=true):p.size<=u.size:=by
 have:=(List.isPrefixOf_iff_prefix.1 h).length_le
 rwa [len_toList,len_toList] at this
def patOf (m:Marks) (r:Bool):Option (List GE)->Except Nat Pat
 | none=>.error 4
 | some es=>.ok ⟨m,r,es⟩
theorem patL_of {s:ByteArray} {m:Marks} {r q:List UInt8} {b:Bool} (h:s.size<=128) (hm:marksL (s.size+1) ⟨false,false,false⟩ s.toList=some (m,r)) (hr:rootL r=(b,q)) (he:0<q.length) :
  patL s.toList=patOf m b (elementsL (s.size+1) [] q):=by
 rw [patL_some h hm (by rw [hr];exact he),hr];simp only
 cases elementsL (s.size+1) [] q <;> rfl
structure RMkInv (w:World) (m:Marks) (wr:World):Prop where
 ext:Ext w wr
 res:wr.heap[w.heap.size]?=some (.cells #[.bool false,.bool false,.bool false,.bool false,.slice none 0 0] 247 (0,0))
 p:wr.heap[w.heap.size+1]?=some (.cells #[.bool m.neg,.bool m.fold,.bool m.del,.bool false,.slice none 0 0] 247 (0,0))
theorem RMkInv.start (w:World):RMkInv w ⟨false,false,false⟩ ((w.alloc (.cells #[.bool false,.bool false,.bool false,.bool false,.slice none 0 0] 247)).alloc (.cells #[.bool false,.bool false,.bool false,.bool false,.slice none 0 0] 247)):=by
 refine ⟨((Ext.refl w).alloc _).alloc _,?_,?_⟩
 ·rw [((Ext.refl _).alloc _).block (by simp)];exact heap_alloc_new _ _
 ·have:=heap_alloc_new (w.alloc (.cells #[.bool false,.bool false,.bool false,.bool false,.slice none 0 0] 247)) (.cells #[.bool false,.bool false,.bool false,.bool false,.slice none 0 0] 247)
  rwa [show (w.alloc (.cells #[.bool false,.bool false,.bool false,.bool false,.slice none 0 0] 247)).heap.size=w.heap.size+1 from by simp] at this
theorem RMkInv.set {w wr:World} {m m':Marks} (I:RMkInv w m wr) (o:Nat) (h:(#[.bool m.neg,.bool m.fold,.bool m.del,.bool false,.slice none 0 0]:Array Value).setIfInBounds o (.bool true)=#[.bool m'.neg,.bool m'.fold,.bool m'.del,.bool false,.slice none 0 0]) :
  RMkInv w m' (wr.setCell ⟨w.heap.size+1,o,none⟩ (.bool true)):=by
 refine ⟨I.ext.setCell (by simp) _,?_,?_⟩
 ·rw [heap_setCell_other _ _ _ _ (by simp)];exact I.res
 ·rw [<-h];exact heap_setCell_same _ _ _ _ _ _ I.p
theorem RMkInv.par {w wr:World} {m:Marks} (I:RMkInv w m wr):RParInv w m false wr (.slice none 0 0) []:=⟨I.ext,I.res,I.p,World.ownsRow_nil _ _ _ _,fun x hx=>by cases hx⟩
theorem RMkInv.root {w wr:World} {m:Marks} (I:RMkInv w m wr):RParInv w m true (wr.setCell ⟨w.heap.size+1,3,none⟩ (.bool true)) (.slice none 0 0) [] :=
 ⟨I.ext.setCell (by simp) _,by rw [heap_setCell_other _ _ _ _ (by simp)];exact I.res,heap_setCell_same _ _ _ _ _ _ I.p,World.ownsRow_nil _ _ _ _,fun x hx=>by cases hx⟩
set_option maxHeartbeats 8000000 in
set_option maxRecDepth 100000 in
theorem rparse_any (s:ByteArray) (w:World) (hs:s.size<=maxLen) :
  Calls prog 152 #[.string s] w (RParPost w s):=by
 unfold maxLen at hs;by_cases h128:128<s.size
 ·have HF:=lh (patL_long h128);go_enter func152,ntmps152;go_wp2_with fail;refine bodyPost_ret (results_row1 rfl _ _ w.heap.size 247 _ (0,0) _ rfl (heap_alloc_new _ _) underlying247 rfl (by kernel_rfl)) rfl ?_;exact RParPost.err HF.out (by decide) ((Ext.refl w).alloc _)
 ·have hs1:s.size<=128:=by omega
  have HB:=fun u p w=>lh (begins07_any u p w);have HE:=fun u w h1 h2=>lh (relement_any u w h1 h2);obtain ⟨R,hR⟩:∃ R,R=marksL (s.size+1) ⟨false,false,false⟩ s.toList:=⟨_,rfl⟩;have HR0:=lh hR;clear hR;go_enter func152,ntmps152;go_wp2_with fail;go_loopw [0] (fun sv wr=>Hid (∃ (u:ByteArray) (m:Marks) (f:Nat),sv=.string u/\u.size<f/\u.size<=s.size/\marksL f m u.toList=R/\RMkInv w m wr)) (fun sv _=>match sv with | .string u=>u.size | _=>0)
  case atStart=>exact ⟨s,_,s.size+1,rfl,by omega,by omega,HR0.out.symm,RMkInv.start w⟩
  case round =>
   obtain ⟨u,m,f,rfl,hf,hu,hRR,I⟩:=hrel.out;clear hrel;obtain ⟨f,rfl⟩:∃ g,f=g+1:=⟨f - 1,by omega⟩;have HRR:=lh hRR;have HI:=lh I;clear hRR I;obtain ⟨⟨p0,p1,p2,p3,p4⟩,pf0,pf1,pf2,pf3,pf4⟩:=quint HI.out.res;obtain ⟨⟨x0,x1,x2,x3,x4⟩,xf0,xf1,xf2,xf3,xf4⟩:=quint HI.out.p;have rlt:w.heap.size+1<_:=lt_of_block HI.out.p;have hml:=markL_of u;have H1:=fun w=>HB u ⟨#[33]⟩ w;have H2:=fun w=>HB u ⟨#[40,63,105,41]⟩ w;have H3:=fun w=>HB u ⟨#[40,63,100,41]⟩ w;obtain ⟨b1,hb1⟩:∃ b,b=Lib.hasPrefix u.toList (⟨#[33]⟩:ByteArray).toList:=⟨_,rfl⟩;obtain ⟨b2,hb2⟩:∃ b,b=Lib.hasPrefix u.toList (⟨#[40,63,105,41]⟩:ByteArray).toList:=⟨_,rfl⟩;obtain ⟨b3,hb3⟩:∃ b,b=Lib.hasPrefix u.toList (⟨#[40,63,100,41]⟩:ByteArray).toList:=⟨_,rfl⟩;rw [<-hb1,<-hb2,<-hb3] at hml;rw [<-hb1] at H1;rw [<-hb2] at H2;rw [<-hb3] at H3
   cases b1 with
   | true =>
    have PRE:=hb1;clear hb1 hb2 hb3 HB HE;have hk:gmarkL u.toList=some (1,1):=by rw [hml];rfl
    have HK:=lh (show R=if m.get 1 then none else marksL f (m.put 1) (u.toList.drop 1) from by rw [<-HRR.out,marksL,hk]);have hle:1<=u.size:=pre_le PRE.symm
    cases hg:m.neg with
    | false =>
     rw [show m.get 1=false from hg] at HK;rw [hg] at x0;clear hk hml hg PRE;go_wp2_with fail;refine ((H1 _).out).mono ?_;rintro e w1 ⟨rfl,hw1⟩;obtain rfl:=hw1.symm;go_wp2_with fail;refine ((H1 _).out).mono ?_;rintro e w1 ⟨rfl,hw1⟩;obtain rfl:=hw1.symm;go_wp2_with fail;go_roundw
     case rel=>exact ⟨u.extract 1 u.size,m.put 1,f,rfl,by simp;omega,by simp;omega,by rw [ext_toList];exact HK.out.symm,HI.out.set 0 rfl⟩
     case measure=>simp <;> omega
    | true =>
     rw [show m.get 1=true from hg] at HK;rw [hg] at x0;have HF:=lh (show patL s.toList=.error 4 from patL_marks hs1 (by rw [<-HR0.out,HK.out];rfl));have HI2:=lh (HI.out.set (m':=m.put 1) 0 rfl);clear hk hml hg PRE;go_wp2_with fail;refine ((H1 _).out).mono ?_;rintro e w1 ⟨rfl,hw1⟩;obtain rfl:=hw1.symm;go_wp2_with fail;refine ((H1 _).out).mono ?_;rintro e w1 ⟨rfl,hw1⟩;obtain rfl:=hw1.symm;go_wp2_with fail;refine bodyPost_ret (results_row1 rfl _ _ w.heap.size 247 _ (0,0) _ rfl (by exact set5 HI2.out.res _ _ _ _ _) underlying247 rfl (by kernel_rfl)) rfl ?_;exact RParPost.err HF.out (by decide) (ext5 HI2.out.ext _ _ _ _ _)
   | false =>
    cases b2 with
    | true =>
     have PRE:=hb2;clear hb1 hb2 hb3 HB HE;have hk:gmarkL u.toList=some (3,4):=by rw [hml];rfl
     have HK:=lh (show R=if m.get 3 then none else marksL f (m.put 3) (u.toList.drop 4) from by rw [<-HRR.out,marksL,hk]);have hle:4<=u.size:=pre_le PRE.symm
     cases hg:m.fold with
     | false =>
      rw [show m.get 3=false from hg] at HK;rw [hg] at x1;clear hk hml hg PRE;go_wp2_with fail;refine ((H1 _).out).mono ?_;rintro e w1 ⟨rfl,hw1⟩;obtain rfl:=hw1.symm;go_wp2_with fail;refine ((H2 _).out).mono ?_;rintro e w1 ⟨rfl,hw1⟩;obtain rfl:=hw1.symm;go_wp2_with fail;refine ((H1 _).out).mono ?_;rintro e w1 ⟨rfl,hw1⟩;obtain rfl:=hw1.symm;go_wp2_with fail;refine ((H2 _).out).mono ?_;rintro e w1 ⟨rfl,hw1⟩;obtain rfl:=hw1.symm;go_wp2_with fail;go_roundw
      case rel=>exact ⟨u.extract 4 u.size,m.put 3,f,rfl,by simp;omega,by simp;omega,by rw [ext_toList];exact HK.out.symm,HI.out.set 1 rfl⟩
      case measure=>simp <;> omega
     | true =>
      rw [show m.get 3=true from hg] at HK;rw [hg] at x1;have HF:=lh (show patL s.toList=.error 4 from patL_marks hs1 (by rw [<-HR0.out,HK.out];rfl));have HI2:=lh (HI.out.set (m':=m.put 3) 1 rfl);clear hk hml hg PRE;go_wp2_with fail;refine ((H1 _).out).mono ?_;rintro e w1 ⟨rfl,hw1⟩;obtain rfl:=hw1.symm;go_wp2_with fail;refine ((H2 _).out).mono ?_;rintro e w1 ⟨rfl,hw1⟩;obtain rfl:=hw1.symm;go_wp2_with fail;refine ((H1 _).out).mono ?_;rintro e w1 ⟨rfl,hw1⟩;obtain rfl:=hw1.symm;go_wp2_with fail;refine ((H2 _).out).mono ?_;rintro e w1 ⟨rfl,hw1⟩;obtain rfl:=hw1.symm;go_wp2_with fail;refine bodyPost_ret (results_row1 rfl _ _ w.heap.size 247 _ (0,0) _ rfl (by exact set5 HI2.out.res _ _ _ _ _) underlying247 rfl (by kernel_rfl)) rfl ?_;exact RParPost.err HF.out (by decide) (ext5 HI2.out.ext _ _ _ _ _)
    | false =>
     cases b3 with
     | true =>
      have PRE:=hb3;clear hb1 hb2 hb3 HB HE;have hk:gmarkL u.toList=some (2,4):=by rw [hml];rfl
      have HK:=lh (show R=if m.get 2 then none else marksL f (m.put 2) (u.toList.drop 4) from by rw [<-HRR.out,marksL,hk]);have hle:4<=u.size:=pre_le PRE.symm
      cases hg:m.del with
      | false =>
       rw [show m.get 2=false from hg] at HK;rw [hg] at x2;clear hk hml hg PRE;go_wp2_with fail;refine ((H1 _).out).mono ?_;rintro e w1 ⟨rfl,hw1⟩;obtain rfl:=hw1.symm;go_wp2_with fail;refine ((H2 _).out).mono ?_;rintro e w1 ⟨rfl,hw1⟩;obtain rfl:=hw1.symm;go_wp2_with fail;refine ((H3 _).out).mono ?_;rintro e w1 ⟨rfl,hw1⟩;obtain rfl:=hw1.symm;go_wp2_with fail;refine ((H1 _).out).mono ?_;rintro e w1 ⟨rfl,hw1⟩;obtain rfl:=hw1.symm;go_wp2_with fail;refine ((H2 _).out).mono ?_;rintro e w1 ⟨rfl,hw1⟩;obtain rfl:=hw1.symm;go_wp2_with fail;go_roundw
       case rel=>exact ⟨u.extract 4 u.size,m.put 2,f,rfl,by simp;omega,by simp;omega,by rw [ext_toList];exact HK.out.symm,HI.out.set 2 rfl⟩
       case measure=>simp <;> omega
      | true =>
       rw [show m.get 2=true from hg] at HK;rw [hg] at x2;have HF:=lh (show patL s.toList=.error 4 from patL_marks hs1 (by rw [<-HR0.out,HK.out];rfl));have HI2:=lh (HI.out.set (m':=m.put 2) 2 rfl);clear hk hml hg PRE;go_wp2_with fail;refine ((H1 _).out).mono ?_;rintro e w1 ⟨rfl,hw1⟩;obtain rfl:=hw1.symm;go_wp2_with fail;refine ((H2 _).out).mono ?_;rintro e w1 ⟨rfl,hw1⟩;obtain rfl:=hw1.symm;go_wp2_with fail;refine ((H3 _).out).mono ?_;rintro e w1 ⟨rfl,hw1⟩;obtain rfl:=hw1.symm;go_wp2_with fail;refine ((H1 _).out).mono ?_;rintro e w1 ⟨rfl,hw1⟩;obtain rfl:=hw1.symm;go_wp2_with fail;refine ((H2 _).out).mono ?_;rintro e w1 ⟨rfl,hw1⟩;obtain rfl:=hw1.symm;go_wp2_with fail;refine bodyPost_ret (results_row1 rfl _ _ w.heap.size 247 _ (0,0) _ rfl (by exact set5 HI2.out.res _ _ _ _ _) underlying247 rfl (by kernel_rfl)) rfl ?_;exact RParPost.err HF.out (by decide) (ext5 HI2.out.ext _ _ _ _ _)
     | false =>
      have hk:gmarkL u.toList=none:=by rw [hml];rfl
      have hRm:R=some (m,u.toList):=by rw [<-HRR.out,marksL,hk]
      have hrt:=rootL_eq u;have H4:=fun w=>HB u ⟨#[47]⟩ w;rw [show Lib.hasPrefix u.toList (⟨#[47]⟩:ByteArray).toList=Lib.hasPrefix u.data.toList [47] from by rw [Lib.toList_data,Lib.toList_data]] at H4;have hm':marksL (s.size+1) ⟨false,false,false⟩ s.toList=some (m,u.toList):=by rw [<-HR0.out];exact hRm
      cases hr:Lib.hasPrefix u.data.toList [47] with
      | false =>
       have hrr:rootL u.toList=(false,u.toList):=by rw [hrt,hr,Lib.trimPrefix,hr,<-Lib.toList_data];rfl
       rw [hr] at H4;by_cases hu0:u.size=0
       ·have HF:=lh (patL_empty hs1 hm' (by rw [hrr,len_toList];exact hu0));have n0:((u.size:Int)==0)=true:=by rw [hu0];rfl
        clear hb1 hb2 hb3 HB HE hk hRm hrt hm' hr hrr hml;go_wp2_with fail;refine ((H1 _).out).mono ?_;rintro e w1 ⟨rfl,hw1⟩;obtain rfl:=hw1.symm;go_wp2_with fail;refine ((H2 _).out).mono ?_;rintro e w1 ⟨rfl,hw1⟩;obtain rfl:=hw1.symm;go_wp2_with fail;refine ((H3 _).out).mono ?_;rintro e w1 ⟨rfl,hw1⟩;obtain rfl:=hw1.symm;go_wp2_with fail;refine ((H4 _).out).mono ?_;rintro e w1 ⟨rfl,hw1⟩;obtain rfl:=hw1.symm;go_wp2_with fail;refine bodyPost_ret (results_row1 rfl _ _ w.heap.size 247 _ (0,0) _ rfl (by exact set5 HI.out.res _ _ _ _ _) underlying247 rfl (by kernel_rfl)) rfl ?_;exact RParPost.err HF.out (by decide) (ext5 HI.out.ext _ _ _ _ _)
       ·obtain ⟨R2,hR2⟩:∃ R2,R2=elementsL (s.size+1) [] u.toList:=⟨_,rfl⟩;have HFin:=lh (show patL s.toList=patOf m false R2 from by rw [patL_of hs1 hm' hrr (by rw [len_toList];omega),hR2]);have HR2:=lh hR2;have n0:((u.size:Int)==0)=false:=beq_eq_false_iff_ne.2 (by omega);have HPI:=lh HI.out.par;clear hb1 hb2 hb3 HB hk hRm hrt hm' hr hrr hml hR2;go_wp2_with fail;refine ((H1 _).out).mono ?_;rintro e w1 ⟨rfl,hw1⟩;obtain rfl:=hw1.symm;go_wp2_with fail;refine ((H2 _).out).mono ?_;rintro e w1 ⟨rfl,hw1⟩;obtain rfl:=hw1.symm;go_wp2_with fail;refine ((H3 _).out).mono ?_;rintro e w1 ⟨rfl,hw1⟩;obtain rfl:=hw1.symm;go_wp2_with fail;refine ((H4 _).out).mono ?_;rintro e w1 ⟨rfl,hw1⟩;obtain rfl:=hw1.symm;clear H1 H2 H3 H4 HRR HI HR0;obtain ⟨wo,rfl⟩:∃ wo:World,wo=wr:=⟨_,rfl⟩;obtain ⟨u0,rfl⟩:∃ u0:ByteArray,u0=u:=⟨_,rfl⟩;have hu0:=hu;go_wp2_with fail;go_loopw [0] (fun sv wr=>Hid (∃ (u:ByteArray) (f:Nat) (v:Value) (l:List (GE×Array Value)),sv=.string u/\u.size<f/\u.size<=s.size/\l.length+u.size<=s.size/\elementsL f (l.map (·.1)) u.toList=R2/\RParInv w m false wr v l)) (fun sv _=>match sv with | .string u=>u.size | _=>0)
        case atStart=>exact ⟨u0,s.size+1,_,[],rfl,by omega,hu0,by simpa using hu0,HR2.out.symm,HPI.out⟩
        case round =>
         obtain ⟨u,f,v,l,rfl,hf,hu,hl,hRR,I⟩:=hrel.out;clear hrel HPI HR2 hu0;obtain ⟨f,rfl⟩:∃ g,f=g+1:=⟨f - 1,by omega⟩;obtain ⟨va,vc,rfl,_⟩:=I.done.row;have HI:=lh I;have HRR:=lh hRR;clear I hRR;obtain ⟨⟨p0,p1,p2,p3,p4⟩,pf0,pf1,pf2,pf3,pf4⟩:=quint HI.out.res;obtain ⟨⟨x0,x1,x2,x3,x4⟩,xf0,xf1,xf2,xf3,xf4⟩:=quint HI.out.p;have rlt:w.heap.size+1<_:=lt_of_block HI.out.p;by_cases hu1:0<u.size
         ·have n0:decide ((0:Int)<u.size)=true:=by simpa using hu1
          go_wp2_with fail;refine ((HE u _ hu1 (by omega)).out).mono ?_;rintro e w2 ⟨⟨cs,r,ok,rfl,⟨k,b,nn,a,n,c,rfl⟩,hcl⟩,hx2⟩;have hres:=(hx2.block (lt_of_block HI.out.res)).trans HI.out.res;have hpp:=(hx2.block (lt_of_block HI.out.p)).trans HI.out.p;clear p0 p1 p2 p3 p4 pf0 pf1 pf2 pf3 pf4 x0 x1 x2 x3 x4 xf0 xf1 xf2 xf3 xf4 rlt;obtain ⟨⟨p0,p1,p2,p3,p4⟩,pf0,pf1,pf2,pf3,pf4⟩:=quint hres;obtain ⟨⟨x0,x1,x2,x3,x4⟩,xf0,xf1,xf2,xf3,xf4⟩:=quint hpp;have rlt:w.heap.size+1<w2.heap.size:=lt_of_block hpp;have rlt0:w.heap.size<w2.heap.size:=lt_of_block hres;have HRES:=lh hres;have HPP:=lh hpp;clear hres hpp
          cases hq:elementL u.toList with
          | none =>
           rw [hq] at hcl;obtain rfl:ok=false:=hcl;have HF:=lh (show patL s.toList=.error 4 from by rw [HFin.out,<-HRR.out,elementsL_none hu1 hq];rfl);have HX:=lh (HI.out.ext.trans hx2);clear hq hx2 HRR HFin HE;go_wp2_with fail;refine bodyPost_ret (results_row1 rfl _ _ w.heap.size 247 _ (0,0) _ rfl (by exact (((Ext.refl _).alloc _).block (by simpa using Nat.lt_of_succ_lt rlt)).trans (set5 HRES.out _ _ _ _ _)) underlying247 rfl (by kernel_rfl)) rfl ?_;exact RParPost.err HF.out (by decide) ((ext5 HX.out _ _ _ _ _).alloc _)
          | some y =>
           obtain ⟨x,r'⟩:=y;rw [hq] at hcl;obtain ⟨rfl,hr,hel⟩:=hcl;have hlt2:=elementL_lt hq;rw [len_toList,<-hr,len_toList] at hlt2;have HN:=lh (HRR.out.symm.trans (elementsL_some hu1 hq));have HR':=lh hr;have HEL:=lh hel;have HX:=lh hx2;have HO:=lh (owns_ext HI.out.own hx2);clear hq hx2 hel hr HRR HFin HE;go_wp2_with (at_builtin;refine append_kw elC (w.heap.size+2) _ l.length (flatC l) ((HO.out.alloc _).alloc _) (w2.heap.size+1) [.int .i64 k,.int .u8 b,.bool nn,.slice a n c] rfl (.tmp 66) (.tmp 68) rfl rfl rfl rfl ?_ ?_ (by omega) (by simp;omega) ?_)
           ·intro j u' hj;rw [cell_alloc_new (by simp),<-hj];simp
           ·intro u' hu';simp at hu';rcases hu' with rfl | rfl | rfl | rfl <;> rfl
           intro v' w3 hown3 hgr3 hv3 hwh3;obtain ⟨g3,cap3,rfl,_⟩:=hv3;have I3:=lh (RParInv.push (x:=(x,#[.int .i64 k,.int .u8 b,.bool nn,.slice a n c])) HI.out ((HX.out.alloc _).alloc _) (HEL.out.keeps ((((Ext.refl w2).alloc _).alloc _).keeps _)) ⟨_,_,_,_,_,_,rfl⟩ hown3 hgr3 (by simpa using hwh3));have hb3:w3.heap[w.heap.size+1]?=_:=(hgr3.block _ (by simp;omega) (fun e=>by have:=own_block_ge_k HO.out _ e.symm;omega)).trans (((((Ext.refl w2).alloc _).alloc _).block rlt).trans HPP.out);clear p0 p1 p2 p3 p4 pf0 pf1 pf2 pf3 pf4 x0 x1 x2 x3 x4 xf0 xf1 xf2 xf3 xf4;obtain ⟨⟨x0,x1,x2,x3,x4⟩,xf0,xf1,xf2,xf3,xf4⟩:=quint hb3;clear hb3 hown3 hgr3 hwh3;go_wp2_with fail;go_roundw
           case rel=>exact ⟨r,f,_,l++[(x,#[.int .i64 k,.int .u8 b,.bool nn,.slice a n c])],rfl,by omega,by omega,by simp;omega,by rw [HR'.out,List.map_append];exact HN.out.symm,I3.out⟩
           case measure=>simp <;> omega
         ·have hu2:u.size=0:=by omega
          have HN:=lh (show patL s.toList=.ok ⟨m,false,l.map (·.1)⟩ from by rw [HFin.out,<-HRR.out,elementsL_end hu2];rfl);have n0:decide ((0:Int)<u.size)=false:=by simpa using hu1
          clear HRR HFin HE;go_wp2_with fail;refine bodyPost_ret (results_row1 rfl _ _ w.heap.size 247 _ (0,0) _ rfl (by exact set5 HI.out.res _ _ _ _ _) underlying247 rfl (by kernel_rfl)) rfl ?_;refine ⟨⟨m,false,_,_,_,0,rfl,?_⟩,ext5 HI.out.ext _ _ _ _ _⟩;rw [HN.out];refine ⟨rfl,rfl,rfl,l,rfl,?_⟩;exact (HI.out.done.keeps (keep5 (by simp) _ _ _ _ _)).far (fun b _ hb=>by omega)
      | true =>
       have hle:1<=u.size:=by
        have:=(List.isPrefixOf_iff_prefix.1 hr).length_le;rw [<-Lib.toList_data,len_toList] at this
        simpa using this
       have hrr:rootL u.toList=(true,(u.extract 1 u.size).toList):=by rw [hrt,hr,Lib.trimPrefix,hr,<-Lib.toList_data,ext_toList];rfl
       rw [hr] at H4;by_cases hu0:u.size=1
       ·have HF:=lh (patL_empty hs1 hm' (by rw [hrr,len_toList];simp [hu0]));have n0:((↑(u.size - 1):Int)==0)=true:=by rw [hu0];rfl
        have HPI:=lh HI.out.root;clear hb1 hb2 hb3 HB HE hk hRm hrt hm' hr hrr hml;go_wp2_with fail;refine ((H1 _).out).mono ?_;rintro e w1 ⟨rfl,hw1⟩;obtain rfl:=hw1.symm;go_wp2_with fail;refine ((H2 _).out).mono ?_;rintro e w1 ⟨rfl,hw1⟩;obtain rfl:=hw1.symm;go_wp2_with fail;refine ((H3 _).out).mono ?_;rintro e w1 ⟨rfl,hw1⟩;obtain rfl:=hw1.symm;go_wp2_with fail;refine ((H4 _).out).mono ?_;rintro e w1 ⟨rfl,hw1⟩;obtain rfl:=hw1.symm;go_wp2_with fail;refine bodyPost_ret (results_row1 rfl _ _ w.heap.size 247 _ (0,0) _ rfl (by exact set5 HPI.out.res _ _ _ _ _) underlying247 rfl (by kernel_rfl)) rfl ?_;exact RParPost.err HF.out (by decide) (ext5 HPI.out.ext _ _ _ _ _)
       ·obtain ⟨R2,hR2⟩:∃ R2,R2=elementsL (s.size+1) [] (u.extract 1 u.size).toList:=⟨_,rfl⟩;have HFin:=lh (show patL s.toList=patOf m true R2 from by rw [patL_of hs1 hm' hrr (by rw [len_toList];simp;omega),hR2]);have HR2:=lh hR2;have n0:((↑(u.size - 1):Int)==0)=false:=beq_eq_false_iff_ne.2 (by omega);have HPI:=lh HI.out.root;clear hb1 hb2 hb3 HB hk hRm hrt hm' hr hrr hml hR2;go_wp2_with fail;refine ((H1 _).out).mono ?_;rintro e w1 ⟨rfl,hw1⟩;obtain rfl:=hw1.symm;go_wp2_with fail;refine ((H2 _).out).mono ?_;rintro e w1 ⟨rfl,hw1⟩;obtain rfl:=hw1.symm;go_wp2_with fail;refine ((H3 _).out).mono ?_;rintro e w1 ⟨rfl,hw1⟩;obtain rfl:=hw1.symm;go_wp2_with fail;refine ((H4 _).out).mono ?_;rintro e w1 ⟨rfl,hw1⟩;obtain rfl:=hw1.symm;clear H1 H2 H3 H4 HRR HI HR0;obtain ⟨wo,rfl⟩:∃ wo:World,wo=wr:=⟨_,rfl⟩;have hu0:(u.extract 1 u.size).size<=s.size:=by simp;omega
        go_wp2_with fail;go_loopw [0] (fun sv wr=>Hid (∃ (u:ByteArray) (f:Nat) (v:Value) (l:List (GE×Array Value)),sv=.string u/\u.size<f/\u.size<=s.size/\l.length+u.size<=s.size/\elementsL f (l.map (·.1)) u.toList=R2/\RParInv w m true wr v l)) (fun sv _=>match sv with | .string u=>u.size | _=>0)
        case atStart=>exact ⟨u.extract 1 u.size,s.size+1,_,[],rfl,by omega,hu0,by simpa using hu0,HR2.out.symm,HPI.out⟩
        case round =>
         obtain ⟨u,f,v,l,rfl,hf,hu,hl,hRR,I⟩:=hrel.out;clear hrel HPI HR2 hu0;obtain ⟨f,rfl⟩:∃ g,f=g+1:=⟨f - 1,by omega⟩;obtain ⟨va,vc,rfl,_⟩:=I.done.row;have HI:=lh I;have HRR:=lh hRR;clear I hRR;obtain ⟨⟨p0,p1,p2,p3,p4⟩,pf0,pf1,pf2,pf3,pf4⟩:=quint HI.out.res;obtain ⟨⟨x0,x1,x2,x3,x4⟩,xf0,xf1,xf2,xf3,xf4⟩:=quint HI.out.p;have rlt:w.heap.size+1<_:=lt_of_block HI.out.p;by_cases hu1:0<u.size
         ·have n0:decide ((0:Int)<u.size)=true:=by simpa using hu1
          go_wp2_with fail;refine ((HE u _ hu1 (by omega)).out).mono ?_;rintro e w2 ⟨⟨cs,r,ok,rfl,⟨k,b,nn,a,n,c,rfl⟩,hcl⟩,hx2⟩;have hres:=(hx2.block (lt_of_block HI.out.res)).trans HI.out.res;have hpp:=(hx2.block (lt_of_block HI.out.p)).trans HI.out.p;clear p0 p1 p2 p3 p4 pf0 pf1 pf2 pf3 pf4 x0 x1 x2 x3 x4 xf0 xf1 xf2 xf3 xf4 rlt;obtain ⟨⟨p0,p1,p2,p3,p4⟩,pf0,pf1,pf2,pf3,pf4⟩:=quint hres;obtain ⟨⟨x0,x1,x2,x3,x4⟩,xf0,xf1,xf2,xf3,xf4⟩:=quint hpp;have rlt:w.heap.size+1<w2.heap.size:=lt_of_block hpp;have rlt0:w.heap.size<w2.heap.size:=lt_of_block hres;have HRES:=lh hres;have HPP:=lh hpp;clear hres hpp
          cases hq:elementL u.toList with
          | none =>
           rw [hq] at hcl;obtain rfl:ok=false:=hcl;have HF:=lh (show patL s.toList=.error 4 from by rw [HFin.out,<-HRR.out,elementsL_none hu1 hq];rfl);have HX:=lh (HI.out.ext.trans hx2);clear hq hx2 HRR HFin HE;go_wp2_with fail;refine bodyPost_ret (results_row1 rfl _ _ w.heap.size 247 _ (0,0) _ rfl (by exact (((Ext.refl _).alloc _).block (by simpa using Nat.lt_of_succ_lt rlt)).trans (set5 HRES.out _ _ _ _ _)) underlying247 rfl (by kernel_rfl)) rfl ?_;exact RParPost.err HF.out (by decide) ((ext5 HX.out _ _ _ _ _).alloc _)
          | some y =>
           obtain ⟨x,r'⟩:=y;rw [hq] at hcl;obtain ⟨rfl,hr,hel⟩:=hcl;have hlt2:=elementL_lt hq;rw [len_toList,<-hr,len_toList] at hlt2;have HN:=lh (HRR.out.symm.trans (elementsL_some hu1 hq));have HR':=lh hr;have HEL:=lh hel;have HX:=lh hx2;have HO:=lh (owns_ext HI.out.own hx2);clear hq hx2 hel hr HRR HFin HE;go_wp2_with (at_builtin;refine append_kw elC (w.heap.size+2) _ l.length (flatC l) ((HO.out.alloc _).alloc _) (w2.heap.size+1) [.int .i64 k,.int .u8 b,.bool nn,.slice a n c] rfl (.tmp 66) (.tmp 68) rfl rfl rfl rfl ?_ ?_ (by omega) (by simp;omega) ?_)
           ·intro j u' hj;rw [cell_alloc_new (by simp),<-hj];simp
           ·intro u' hu';simp at hu';rcases hu' with rfl | rfl | rfl | rfl <;> rfl
           intro v' w3 hown3 hgr3 hv3 hwh3;obtain ⟨g3,cap3,rfl,_⟩:=hv3;have I3:=lh (RParInv.push (x:=(x,#[.int .i64 k,.int .u8 b,.bool nn,.slice a n c])) HI.out ((HX.out.alloc _).alloc _) (HEL.out.keeps ((((Ext.refl w2).alloc _).alloc _).keeps _)) ⟨_,_,_,_,_,_,rfl⟩ hown3 hgr3 (by simpa using hwh3));have hb3:w3.heap[w.heap.size+1]?=_:=(hgr3.block _ (by simp;omega) (fun e=>by have:=own_block_ge_k HO.out _ e.symm;omega)).trans (((((Ext.refl w2).alloc _).alloc _).block rlt).trans HPP.out);clear p0 p1 p2 p3 p4 pf0 pf1 pf2 pf3 pf4 x0 x1 x2 x3 x4 xf0 xf1 xf2 xf3 xf4;obtain ⟨⟨x0,x1,x2,x3,x4⟩,xf0,xf1,xf2,xf3,xf4⟩:=quint hb3;clear hb3 hown3 hgr3 hwh3;go_wp2_with fail;go_roundw
           case rel=>exact ⟨r,f,_,l++[(x,#[.int .i64 k,.int .u8 b,.bool nn,.slice a n c])],rfl,by omega,by omega,by simp;omega,by rw [HR'.out,List.map_append];exact HN.out.symm,I3.out⟩
           case measure=>simp <;> omega
         ·have hu2:u.size=0:=by omega
          have HN:=lh (show patL s.toList=.ok ⟨m,true,l.map (·.1)⟩ from by rw [HFin.out,<-HRR.out,elementsL_end hu2];rfl);have n0:decide ((0:Int)<u.size)=false:=by simpa using hu1
          clear HRR HFin HE;go_wp2_with fail;refine bodyPost_ret (results_row1 rfl _ _ w.heap.size 247 _ (0,0) _ rfl (by exact set5 HI.out.res _ _ _ _ _) underlying247 rfl (by kernel_rfl)) rfl ?_;refine ⟨⟨m,true,_,_,_,0,rfl,?_⟩,ext5 HI.out.ext _ _ _ _ _⟩;rw [HN.out];refine ⟨rfl,rfl,rfl,l,rfl,?_⟩;exact (HI.out.done.keeps (keep5 (by simp) _ _ _ _ _)).far (fun b _ hb=>by omega)
end
section
theorem rholds_set (f neg:Bool) (rs:List (UInt8×UInt8)) (c:UInt8) (h:c≠47):(GE.set neg rs).holds f c=((inR rs c||f&&inR rs (otherC c)) != neg):=by
 rw [holds_set f neg rs c h]
 cases f
 ·cases inR rs c <;> cases neg <;> rfl
 ·have:=fold_in rs c;simp only [Bool.true_and];rw [this]
  cases neg <;> cases (inR rs c||inR rs (otherC c)) <;> rfl
theorem rholds_byt (f:Bool) (b c:UInt8):(GE.byt b).holds f c=(c==b||f&&otherC c==b):=by
 show (c==b||f&&lowerC c==lowerC b)=_
 cases f
 ·simp
 ·simp only [Bool.true_and];exact fold_byte c b
def patV (m:Marks) (r:Bool) (v:Value):Value:=.agg #[.bool m.neg,.bool m.fold,.bool m.del,.bool r,v]
set_option maxHeartbeats 4000000 in
theorem rholds_any (m:Marks) (r:Bool) (a:Option Addr) (n cap:Nat) (e:GE) (cs:Array Value) (c:UInt8) (Far:Nat->Prop) (w:World) (h:RElt w Far e cs) :
  Calls prog 317 #[patV m r (.slice a n cap),.agg cs,.int .u8 c.toNat] w fun e' w'=>e'=.returned (.bool (e.holds m.fold c))/\Ext w w':=by
 have hc:=c.toNat_lt;unfold patV
 cases e with
 | all =>
  obtain rfl:=h;go_enter func317,ntmps317;go_wp2_with fail;go_ret;exact ⟨rfl,(((Ext.refl w).alloc _).alloc _)⟩
 | some =>
  obtain rfl:=h
  rw [show (GE.some).holds m.fold c=((c.toNat:Int) != 47) from by
   show (c != 47)=_
   by_cases h47:c=47
   ·rw [h47];rfl
   ·rw [show ((c.toNat:Int) != 47)=true from by rw [bne,toNat_ne47 h47];rfl];simp [h47]]
  go_enter func317,ntmps317;go_wp2_with fail;go_ret;exact ⟨rfl,(((Ext.refl w).alloc _).alloc _)⟩
 | any =>
  obtain rfl:=h
  rw [show (GE.any).holds m.fold c=((c.toNat:Int) != 47) from by
   show (c != 47)=_
   by_cases h47:c=47
   ·rw [h47];rfl
   ·rw [show ((c.toNat:Int) != 47)=true from by rw [bne,toNat_ne47 h47];rfl];simp [h47]]
  go_enter func317,ntmps317;go_wp2_with fail;go_ret;exact ⟨rfl,(((Ext.refl w).alloc _).alloc _)⟩
 | set neg rs =>
  obtain ⟨v,rfl,hv⟩:=h;obtain ⟨va,vc,rfl,h1,h2,h3⟩:=hv.at_;have HR:=lh hv.at_;unfold maxLen at h2;clear hv h3;obtain ⟨X,hX⟩:∃ X,X=(w.alloc (.cells #[.bool m.neg,.bool m.fold,.bool m.del,.bool r,.slice a n cap] 247)).alloc (.cells #[.int .i64 4,.int .u8 0,.bool neg,.slice va rs.length vc] 303):=⟨_,rfl⟩;have hXE:Ext w X:=hX▸(((Ext.refl w).alloc _).alloc _);have G1:=After.cell (show X.cell? ⟨w.heap.size,1,none⟩=some (.bool m.fold) from by rw [hX,cell_alloc_old (by simp),cell_alloc_new rfl];rfl);have G2:=After.cell (show X.cell? ⟨w.heap.size+1,2,none⟩=some (.bool neg) from by rw [hX,cell_alloc_new (by simp)];rfl);have G3:=After.cell (show X.cell? ⟨w.heap.size+1,3,none⟩=some (.slice va rs.length vc) from by rw [hX,cell_alloc_new (by simp)];rfl);have HXE:=lh hXE;have HW:=fun (d:UInt8) (x:After X)=>lh (gwithin_any (.slice va rs.length vc) rs d x.v (HR.out.ext (hXE.trans x.x)));have HWc:=HW c;have HWo:=HW (otherC c);have HO:=fun x=>lh (other_any c x);clear HW hXE;generalize hi:inR rs c=i1 at *;generalize ho:inR rs (otherC c)=i2 at *;generalize hf:m.fold=fold at *;generalize hoc:otherC c=oc at *;by_cases h47:c=47
  ·have n47:((c.toNat:Int) != 47)=false:=by rw [h47];rfl
   rw [show (GE.set neg rs).holds fold c=false from by rw [h47];rfl];clear h47 hi ho hoc hf
   cases i1
   ·cases fold
    ·go_enter func317,ntmps317;go_wp2_with fail;rw [<-hX];clear hX;refine wp_region_after (by kernel_rfl) (by kernel_rfl) ?_
     repeat (go_big_quiet_step (first | (go_at_call_of 340 c;exact After.draws (HWc _).out) | (go_at_call_of 340 oc;exact After.draws (HWo _).out) | (go_at_call_of 341 c;exact After.same (HO _).out)))
     refine wpQuiet_nil ?_;rintro _ ⟨y,rfl⟩;go_wp2_with fail;go_ret;exact ⟨ret_bool (by rfl),HXE.out.trans y.x⟩
    ·go_enter func317,ntmps317;go_wp2_with fail;rw [<-hX];clear hX;refine wp_region_after (by kernel_rfl) (by kernel_rfl) ?_
     repeat (go_big_quiet_step (first | (go_at_call_of 340 c;exact After.draws (HWc _).out) | (go_at_call_of 340 oc;exact After.draws (HWo _).out) | (go_at_call_of 341 c;exact After.same (HO _).out)))
     refine wpQuiet_nil ?_;rintro _ ⟨y,rfl⟩;go_wp2_with fail;go_ret;exact ⟨ret_bool (by rfl),HXE.out.trans y.x⟩
   ·go_enter func317,ntmps317;go_wp2_with fail;rw [<-hX];clear hX;refine wp_region_after (by kernel_rfl) (by kernel_rfl) ?_
    repeat (go_big_quiet_step (first | (go_at_call_of 340 c;exact After.draws (HWc _).out) | (go_at_call_of 340 oc;exact After.draws (HWo _).out) | (go_at_call_of 341 c;exact After.same (HO _).out)))
    refine wpQuiet_nil ?_;rintro _ ⟨y,rfl⟩;go_wp2_with fail;go_ret;exact ⟨ret_bool (by rfl),HXE.out.trans y.x⟩
  ·have n47:((c.toNat:Int) != 47)=true:=by rw [bne,toNat_ne47 h47];rfl
   rw [rholds_set fold neg rs c h47,hi,hoc,ho];clear h47 hi ho hoc hf
   cases i1
   ·cases fold
    ·go_enter func317,ntmps317;go_wp2_with fail;rw [<-hX];clear hX;refine wp_region_after (by kernel_rfl) (by kernel_rfl) ?_
     repeat (go_big_quiet_step (first | (go_at_call_of 340 c;exact After.draws (HWc _).out) | (go_at_call_of 340 oc;exact After.draws (HWo _).out) | (go_at_call_of 341 c;exact After.same (HO _).out)))
     refine wpQuiet_nil ?_;rintro _ ⟨y,rfl⟩;go_wp2_with fail;go_ret;exact ⟨ret_bool (by first | rfl | (cases neg <;> rfl)),HXE.out.trans y.x⟩
    ·go_enter func317,ntmps317;go_wp2_with fail;rw [<-hX];clear hX;refine wp_region_after (by kernel_rfl) (by kernel_rfl) ?_
     repeat (go_big_quiet_step (first | (go_at_call_of 340 c;exact After.draws (HWc _).out) | (go_at_call_of 340 oc;exact After.draws (HWo _).out) | (go_at_call_of 341 c;exact After.same (HO _).out)))
     refine wpQuiet_nil ?_;rintro _ ⟨y,rfl⟩;go_wp2_with fail;go_ret;exact ⟨ret_bool (by first | rfl | (cases neg <;> cases i2 <;> rfl)),HXE.out.trans y.x⟩
   ·go_enter func317,ntmps317;go_wp2_with fail;rw [<-hX];clear hX;refine wp_region_after (by kernel_rfl) (by kernel_rfl) ?_
    repeat (go_big_quiet_step (first | (go_at_call_of 340 c;exact After.draws (HWc _).out) | (go_at_call_of 340 oc;exact After.draws (HWo _).out) | (go_at_call_of 341 c;exact After.same (HO _).out)))
    refine wpQuiet_nil ?_;rintro _ ⟨y,rfl⟩;go_wp2_with fail;go_ret;exact ⟨ret_bool (by first | rfl | (cases neg <;> rfl)),HXE.out.trans y.x⟩
 | byt b =>
  obtain rfl:=h;obtain ⟨X,hX⟩:∃ X,X=(w.alloc (.cells #[.bool m.neg,.bool m.fold,.bool m.del,.bool r,.slice a n cap] 247)).alloc (.cells #[.int .i64 5,.int .u8 b.toNat,.bool false,.slice none 0 0] 303):=⟨_,rfl⟩;have hXE:Ext w X:=hX▸(((Ext.refl w).alloc _).alloc _);have G1:=After.cell (show X.cell? ⟨w.heap.size,1,none⟩=some (.bool m.fold) from by rw [hX,cell_alloc_old (by simp),cell_alloc_new rfl];rfl);have G2:=After.cell (show X.cell? ⟨w.heap.size+1,1,none⟩=some (.int .u8 b.toNat) from by rw [hX,cell_alloc_new (by simp)];rfl);have HXE:=lh hXE;have HO:=fun x=>lh (other_any c x);clear hXE;rw [rholds_byt m.fold b c]
  have key:∀ d:UInt8,((d.toNat:Int)==(b.toNat:Int))=(d==b):=fun d=>by
   by_cases h:d=b
   ·rw [h];simp
   ·rw [toNat_ne h,beq_eq_false_iff_ne.2 h]
  have kc:=key c;have ko:=key (otherC c);clear key;generalize hf:m.fold=fold at *;generalize (c==b)=i1 at *;generalize (otherC c==b)=i2 at *;generalize hoc:otherC c=oc at *;clear hoc hf
  cases i1
  ·cases fold
   ·go_enter func317,ntmps317;go_wp2_with fail;rw [<-hX];clear hX;refine wp_region_after (by kernel_rfl) (by kernel_rfl) ?_
    repeat (go_big_quiet_step (exact After.same (HO _).out))
    refine wpQuiet_nil ?_;rintro _ ⟨y,rfl⟩;go_wp2_with fail;go_ret;exact ⟨ret_bool (by rfl),HXE.out.trans y.x⟩
   ·go_enter func317,ntmps317;go_wp2_with fail;rw [<-hX];clear hX;refine wp_region_after (by kernel_rfl) (by kernel_rfl) ?_
    repeat (go_big_quiet_step (exact After.same (HO _).out))
    refine wpQuiet_nil ?_;rintro _ ⟨y,rfl⟩;go_wp2_with fail;go_ret;exact ⟨ret_bool (by first | rfl | (cases i2 <;> rfl)),HXE.out.trans y.x⟩
  ·go_enter func317,ntmps317;go_wp2_with fail;rw [<-hX];clear hX;refine wp_region_after (by kernel_rfl) (by kernel_rfl) ?_
   repeat (go_big_quiet_step (exact After.same (HO _).out))
   refine wpQuiet_nil ?_;rintro _ ⟨y,rfl⟩;go_wp2_with fail;go_ret;exact ⟨ret_bool (by first | rfl | (cases fold <;> rfl)),HXE.out.trans y.x⟩
end
section
def brA (n k:Nat) (f:Nat->Bool):Array Value:=blA n n fun i=>decide (k<=i)&&f i
theorem brA_get (n k:Nat) (f:Nat->Bool) (i:Nat) (hi:i<n):(brA n k f)[i]?=some (.bool (decide (k<=i)&&f i)):=blA_at n n _ i hi hi
theorem brA_at (n k:Nat) (f:Nat->Bool) (i:Nat) (hi:i<n) (hk:k<=i):(brA n k f)[i]?=some (.bool (f i)):=by
 rw [brA_get n k f i hi,show decide (k<=i)=true from by simpa using hk];rfl
theorem brA_made (n:Nat) (f:Nat->Bool):madeCells #[.bool false] n=brA n n f:=by
 rw [blA_made n f];refine blA_ext _ _ _ _ (blA_size _ _ _) fun i hi=>?_;rw [blA_get _ _ _ _ hi];simp;omega
theorem brA_set (n k:Nat) (f:Nat->Bool) (hk:k<n) {b:Bool} (hb:f k=b):(brA n (k+1) f).setIfInBounds k (.bool b)=brA n k f:=by
 subst hb;refine blA_ext _ _ _ _ (by rw [Array.size_setIfInBounds];exact blA_size _ _ _) fun i hi=>?_;rw [Array.getElem?_setIfInBounds];by_cases e:k=i
 ·subst e;rw [if_pos rfl,if_pos (by rw [show (brA n (k+1) f).size=n from blA_size _ _ _];exact hk)];simp [hk]
 ·rw [if_neg e,brA_get n (k+1) f i hi];rw [show decide (k+1<=i)=decide (k<=i) from by rw [decide_eq_decide];omega];simp [hi]
structure WhInv (w:World) (T n m q:Nat) (f:Nat->Nat->Bool) (wr:World):Prop where
 ext:Ext w wr
 tab:∃ A,wr.heap[T]?=some (.cells A 290 (0,0))/\A.size=n/\(q<n->∃ r,A[q]?=some (.slice (some ⟨r,0,none⟩) m m)/\T<r/\wr.heap[r]?=some (.cells (blA m m (f q)) 4 (0,0)))
 ge:w.heap.size<=T
structure WrInv (w:World) (T R n m q k:Nat) (f:Nat->Nat->Bool) (wr:World):Prop where
 ext:Ext w wr
 ge:w.heap.size<=T
 lt:T<R
 tab:∃ A,wr.heap[T]?=some (.cells A 290 (0,0))/\A.size=n/\A[q]?=some (.slice (some ⟨R,0,none⟩) m m)/\(q+1<n->∃ r,A[q+1]?=some (.slice (some ⟨r,0,none⟩) m m)/\T<r/\r≠R/\wr.heap[r]?=some (.cells (blA m m (f (q+1))) 4 (0,0)))
 row:wr.heap[R]?=some (.cells (brA m k (f q)) 4 (0,0))
theorem WhInv.row {w wr:World} {T n m q:Nat} {f:Nat->Nat->Bool} (I:WhInv w T n m (q+1) f wr) (hq:q<n) :
  WrInv w T wr.heap.size n m q m f ((wr.setCell ⟨T,q,none⟩ (.slice (some ⟨wr.heap.size,0,none⟩) m m)).alloc (.cells (madeCells #[.bool false] m) 4)):=by
 obtain ⟨A,h1,h2,h3⟩:=I.tab;have hT:=lt_of_block h1;have hz:(wr.setCell ⟨T,q,none⟩ (.slice (some ⟨wr.heap.size,0,none⟩) m m)).heap.size=wr.heap.size:=by simp
 refine ⟨(I.ext.setCell I.ge _).alloc _,I.ge,hT,⟨A.setIfInBounds q (.slice (some ⟨wr.heap.size,0,none⟩) m m),?_,by rw [Array.size_setIfInBounds,h2],?_,fun hn=>?_⟩,?_⟩
 ·rw [((Ext.refl _).alloc _).block (by rw [hz];exact hT)];exact heap_setCell_same _ _ _ _ _ _ h1
 ·rw [Array.getElem?_setIfInBounds,if_pos rfl,if_pos (by omega)]
 ·obtain ⟨r,g1,g2,g3⟩:=h3 hn;have hr:=lt_of_block g3;refine ⟨r,?_,g2,by omega,?_⟩
  ·rw [Array.getElem?_setIfInBounds,if_neg (by omega)];exact g1
  ·rw [((Ext.refl _).alloc _).block (by rw [hz];exact hr),heap_setCell_other _ _ _ _ (by show r≠T;omega)];exact g3
 ·have:=heap_alloc_new (wr.setCell ⟨T,q,none⟩ (.slice (some ⟨wr.heap.size,0,none⟩) m m)) (.cells (madeCells #[.bool false] m) 4);rw [hz] at this;rw [this,brA_made m (f q)]
theorem WrInv.on {w wr w1:World} {T R n m q k:Nat} {f:Nat->Nat->Bool} (I:WrInv w T R n m q k f wr) (x:Ext wr w1):WrInv w T R n m q k f w1:=by
 obtain ⟨A,h1,h2,h3,h4⟩:=I.tab;refine ⟨I.ext.trans x,I.ge,I.lt,⟨A,(x.block (lt_of_block h1)).trans h1,h2,h3,fun hn=>?_⟩,(x.block (lt_of_block I.row)).trans I.row⟩;obtain ⟨r,g1,g2,g3,g4⟩:=h4 hn;exact ⟨r,g1,g2,g3,(x.block (lt_of_block g4)).trans g4⟩
theorem WrInv.step {w wr:World} {T R n m q k:Nat} {f:Nat->Nat->Bool} (I:WrInv w T R n m q (k+1) f wr) (hk:k<m) {b:Bool} (hb:f q k=b) :
  WrInv w T R n m q k f (wr.setCell ⟨R,k,none⟩ (.bool b)):=by
 obtain ⟨A,h1,h2,h3,h4⟩:=I.tab;have hl:=I.lt;have hg:=I.ge;refine ⟨I.ext.setCell (by show w.heap.size<=R;omega) _,hg,hl,⟨A,by rw [heap_setCell_other _ _ _ _ (by show T≠R;omega)];exact h1,h2,h3,fun hn=>?_⟩,?_⟩
 ·obtain ⟨r,g1,g2,g3,g4⟩:=h4 hn;exact ⟨r,g1,g2,g3,by rw [heap_setCell_other _ _ _ _ g3];exact g4⟩
 ·rw [<-brA_set m k (f q) hk hb];exact heap_setCell_same _ _ _ _ _ _ I.row
theorem WrInv.done {w wr:World} {T R n m q:Nat} {f:Nat->Nat->Bool} (I:WrInv w T R n m q 0 f wr):WhInv w T n m q f wr:=by
 obtain ⟨A,h1,h2,h3,h4⟩:=I.tab;refine ⟨I.ext,⟨A,h1,h2,fun _=>⟨R,h3,I.lt,?_⟩⟩,I.ge⟩;rw [I.row];unfold brA
 congr 3
def tabF (fold:Bool) (es:List GE) (s:List UInt8) (i k:Nat):Bool:=wholeL fold (es.drop i) (s.drop k)
theorem tabF_last (fold:Bool) (es:List GE) (s:ByteArray) (i k:Nat) (hi:es.length<=i) (hk:k<=s.size):tabF fold es s.toList i k=(k==s.size):=by
 unfold tabF;rw [List.drop_of_length_le hi,wholeL_nil,Bool.eq_iff_iff,List.isEmpty_iff_length_eq_zero,List.length_drop,len_toList,beq_iff_eq];omega
theorem tabF_end (fold:Bool) (es:List GE) (s:ByteArray) (i:Nat) (e:GE) (he:es[i]?=some e):tabF fold es s.toList i s.size=(e.many&&tabF fold es s.toList (i+1) s.size):=by
 unfold tabF;obtain ⟨hi,e1⟩:=List.getElem?_eq_some_iff.1 he;rw [List.drop_of_length_le (show s.toList.length<=s.size by rw [len_toList];exact Nat.le_refl _),List.drop_eq_getElem_cons hi,e1,wholeL_cons_nil]
theorem tabF_many (fold:Bool) (es:List GE) (s:ByteArray) (i k:Nat) (e:GE) (he:es[i]?=some e) (hk:k<s.size) (hm:e.many=true) :
  tabF fold es s.toList i k=(tabF fold es s.toList (i+1) k||e.holds fold s[k]&&tabF fold es s.toList i (k+1)):=by
 unfold tabF;obtain ⟨hi,e1⟩:=List.getElem?_eq_some_iff.1 he;rw [drop_cons s k hk,List.drop_eq_getElem_cons hi,e1,wholeL_many fold e _ _ _ hm]
theorem tabF_one (fold:Bool) (es:List GE) (s:ByteArray) (i k:Nat) (e:GE) (he:es[i]?=some e) (hk:k<s.size) (hm:e.many=false) :
  tabF fold es s.toList i k=(e.holds fold s[k]&&tabF fold es s.toList (i+1) (k+1)):=by
 unfold tabF;obtain ⟨hi,e1⟩:=List.getElem?_eq_some_iff.1 he;rw [drop_cons s k hk,List.drop_eq_getElem_cons hi,e1,wholeL_one fold e _ _ _ hm]
theorem RElt.kind {w:World} {Far:Nat->Prop} {e:GE} {cs:Array Value} (h:RElt w Far e cs):∃ (K:Int) (B:Int) (N:Bool) (a:Option Addr) (n c:Nat),cs=#[.int .i64 K,.int .u8 B,.bool N,.slice a n c] /\
  ((e.many=true/\K=1)\/(e.many=true/\K=2)\/(e.many=false/\(K==1)=false/\(K==2)=false)):=by
 cases e with
 | all=>obtain rfl:=h;exact ⟨_,_,_,_,_,_,rfl,.inl ⟨rfl,rfl⟩⟩
 | some=>obtain rfl:=h;exact ⟨_,_,_,_,_,_,rfl,.inr (.inl ⟨rfl,rfl⟩)⟩
 | any=>obtain rfl:=h;exact ⟨_,_,_,_,_,_,rfl,.inr (.inr ⟨rfl,rfl,rfl⟩)⟩
 | byt c=>obtain rfl:=h;exact ⟨_,_,_,_,_,_,rfl,.inr (.inr ⟨rfl,rfl,rfl⟩)⟩
 | set neg rs =>
  obtain ⟨v,rfl,hv⟩:=h;obtain ⟨a,c,rfl,_⟩:=hv.at_;exact ⟨_,_,_,_,_,_,rfl,.inr (.inr ⟨rfl,rfl,rfl⟩)⟩
theorem WhInv.start (w:World) (n m:Nat) (f:Nat->Nat->Bool):WhInv w w.heap.size n m n f (w.alloc (.cells (madeCells #[.slice none 0 0] n) 290)) :=
 ⟨(Ext.refl w).alloc _,⟨_,heap_alloc_new _ _,size_madeCells _ _,fun h=>absurd h (Nat.lt_irrefl _)⟩,Nat.le_refl _⟩
set_option maxHeartbeats 8000000 in
set_option maxRecDepth 100000 in
theorem rwhole_any (m:Marks) (r:Bool) (v:Value) (l:List (GE×Array Value)) (s:ByteArray) (Far:Nat->Prop) (w:World) (hs:s.size<=1024) (hl:l.length<=1024) (h:REltsAt w Far v l) :
  Calls prog 275 #[patV m r v,.string s] w fun e w'=>e=.returned (.bool (wholeL m.fold (l.map (·.1)) s.toList))/\Ext w w':=by
 obtain ⟨va,cap,rfl,h1,h2,h3⟩:=h.row;unfold maxLen at h2;unfold patV;obtain ⟨es,hes⟩:∃ es,es=l.map (·.1):=⟨_,rfl⟩;rw [<-hes];have hesl:es.length=l.length:=by rw [hes];simp
 have H3:=lh h3;have HEL:=lh h.elts;have HES:=lh hes;have HESL:=lh hesl;clear h h3 hes hesl;obtain ⟨i0,hi,hz0,hz1,hz2⟩:=info_parts (show (prog.info? 4).map (fun i=>(i.zero,i.size,i.bytes))=some (some (.bool false),1,1) from by kernel_rfl);have hmk:=fun w=>run_make (P:=prog) w 290 4 i0 (.bool false) underlying290 hi hz0 .i64 .i64 (s.size+1) (s.size+1) (by omega) (by omega) (by rw [hz2];omega) (by omega);obtain ⟨i1,hi1,hy0,hy1,hy2⟩:=info_parts (show (prog.info? 290).map (fun i=>(i.zero,i.size,i.bytes))=some (some (.slice none 0 0),1,24) from by kernel_rfl);have hmk2:=fun w=>run_make (P:=prog) w 383 290 i1 (.slice none 0 0) underlying383 hi1 hy0 .i64 .i64 (l.length+1) (l.length+1) (by omega) (by omega) (by rw [hy2];omega) (by omega);clear hi hz0 hz2 hi1 hy0 hy2;obtain ⟨W1,hW1⟩:∃ W1,W1=w.alloc (.cells #[.bool m.neg,.bool m.fold,.bool m.del,.bool r,.slice va l.length cap] 247):=⟨_,rfl⟩;have hx1:Ext w W1:=hW1▸(Ext.refl w).alloc _;have hwz:W1.heap.size=w.heap.size+1:=by rw [hW1];simp
 have hP:W1.heap[w.heap.size]?=some (.cells #[.bool m.neg,.bool m.fold,.bool m.del,.bool r,.slice va l.length cap] 247 (0,0)):=by rw [hW1];exact heap_alloc_new _ _
 have HP:=lh hP;have HX:=lh hx1;have HW1:=lh hW1;clear hP hx1 hW1;go_enter func275,ntmps275;go_wp2_with fail;rw [<-HW1.out];have HST:=lh (WhInv.start W1 (l.length+1) (s.size+1) (tabF m.fold es s.toList));rw [<-hwz];generalize W1.heap.size=T at *;have HWZ:=lh hwz;clear hwz;go_loopw [8] (fun iv wr=>Hid (∃ (q:Nat) (z:Int),q<=l.length+1/\z=(q:Int) - 1/\iv=.int .i64 z/\WhInv W1 T (l.length+1) (s.size+1) q (tabF m.fold es s.toList) wr)) (fun iv _=>(intOf iv+1).toNat)
 case atStart=>exact ⟨l.length+1,(l.length:Int),by omega,by omega,rfl,HST.out⟩
 case round =>
  obtain ⟨q,z,hq,hz,rfl,I⟩:=hrel.out;clear hrel HST;rcases Nat.eq_zero_or_pos q with h0 | h0
  ·subst h0;obtain rfl:z=-1:=by omega
   obtain ⟨A,g1,g2,g3⟩:=I.tab;obtain ⟨r0,g4,g5,g6⟩:=g3 (by omega);have T0:wr.cell? ⟨T,0,none⟩=some (.slice (some ⟨r0,0,none⟩) (s.size+1) (s.size+1)):=(cell_of_block g1).trans g4;have Q0:wr.cell? ⟨r0,0,none⟩=some (.bool (tabF m.fold es s.toList 0 0)):=(cell_of_block g6).trans (blA_at _ _ _ _ (by omega) (by omega));have HF:=lh (show tabF m.fold es s.toList 0 0=wholeL m.fold es s.toList from rfl);have HI:=lh I.ext;clear I g1 g2 g3 g4 g5 g6 hz;generalize tabF m.fold es s.toList 0 0=bb at *;go_wp2_with fail;go_ret;exact ⟨ret_bool HF.out,HX.out.trans HI.out⟩
  ·obtain ⟨i,rfl⟩:∃ i,q=i+1:=⟨q - 1,by omega⟩;obtain rfl:z=(i:Int):=by omega
   clear hz h0
   have hcT:∃ u,wr.cell? ⟨T,i,none⟩=some u:=by
    obtain ⟨A,g1,g2,g3⟩:=I.tab;exact ⟨A[i]'(by omega),(cell_of_block g1).trans (Array.getElem?_eq_getElem (by omega))⟩
   obtain ⟨u0,hcT⟩:=hcT
   have hfT:wr.frozen? ⟨T,i,none⟩=false:=by
    obtain ⟨A,g1,g2,g3⟩:=I.tab;exact frozen_of_block g1
   have hTl:T<wr.heap.size:=by
    obtain ⟨A,g1,g2,g3⟩:=I.tab;exact lt_of_block g1
   have HR:=lh (I.row (by omega:i<l.length+1));clear I;go_wp2_with fail;obtain ⟨wo,hwo⟩:∃ wo:World,wo=(wr.setCell ⟨T,i,none⟩ (.slice (some ⟨wr.heap.size,0,none⟩) (s.size+1) (s.size+1))).alloc (.cells (madeCells #[.bool false] (s.size+1)) 4):=⟨_,rfl⟩;rw [<-hwo] at HR ⊢;clear hwo;generalize wr.heap.size=R at *;go_loopw [9] (fun kv wr=>Hid (∃ (q:Nat) (z:Int),q<=s.size+1/\z=(q:Int) - 1/\kv=.int .i64 z/\WrInv W1 T R (l.length+1) (s.size+1) i q (tabF m.fold es s.toList) wr)) (fun kv _=>(intOf kv+1).toNat)
   case atStart=>exact ⟨s.size+1,(s.size:Int),by omega,by omega,rfl,HR.out⟩
   case round =>
    obtain ⟨q2,z2,hq2,hz2,rfl,J⟩:=hrel.out;clear hrel HR;rcases Nat.eq_zero_or_pos q2 with h0 | h0
    ·subst h0;obtain rfl:z2=-1:=by omega
     have HJ:=lh J.done;clear J hz2;go_wp2_with fail;go_roundw
     case rel=>exact ⟨i,(i:Int) - 1,by omega,rfl,by go_num,HJ.out⟩
     case measure=>simp [intOf] <;> omega
    ·obtain ⟨k,rfl⟩:∃ k,q2=k+1:=⟨q2 - 1,by omega⟩;obtain rfl:z2=(k:Int):=by omega
     clear hz2 h0;have HJ0:=lh J;clear J;by_cases hin:i=l.length
     ·have e0:((i:Int)==(l.length:Int))=true:=by rw [hin];simp
      have hTb:tabF m.fold es s.toList i k=(k==s.size):=tabF_last m.fold es s i k (by rw [HESL.out];omega) (by omega);obtain ⟨A,g1,g2,g3,g4⟩:=HJ0.out.tab;have T0:wr.cell? ⟨T,i,none⟩=some (.slice (some ⟨R,0,none⟩) (s.size+1) (s.size+1)):=(cell_of_block g1).trans g3;have R0:wr.cell? ⟨R,k,none⟩=some (.bool false):=(cell_of_block HJ0.out.row).trans (by rw [brA_get _ _ _ _ (by omega),show decide (k+1<=k)=false from by rw [decide_eq_false_iff_not];omega];rfl);have RF:wr.frozen? ⟨R,k,none⟩=false:=frozen_of_block HJ0.out.row;clear g1 g2 g3 g4 hin;by_cases hks:k=s.size
      ·have e1:((k:Int)==(s.size:Int))=true:=by rw [hks];simp
       have HB:=lh (show tabF m.fold es s.toList i k=true from by rw [hTb,hks];simp);clear hTb hks;go_wp2_with fail;go_roundw
       case rel=>exact ⟨k,(k:Int) - 1,by omega,rfl,by go_num,HJ0.out.step (by omega) HB.out⟩
       case measure=>simp [intOf] <;> omega
      ·have e1:((k:Int)==(s.size:Int))=false:=beq_eq_false_iff_ne.2 (by omega);have HB:=lh (show tabF m.fold es s.toList i k=false from by rw [hTb];simpa using hks);clear hTb hks;go_wp2_with fail;go_roundw
       case rel=>exact ⟨k,(k:Int) - 1,by omega,rfl,by go_num,HJ0.out.step (by omega) HB.out⟩
       case measure=>simp [intOf] <;> omega
     ·have hil:i<l.length:=by omega
      have e0:((i:Int)==(l.length:Int))=false:=beq_eq_false_iff_ne.2 (by omega);obtain ⟨x,hx⟩:∃ x,l[i]?=some x:=⟨_,List.getElem?_eq_getElem hil⟩;have hxe:es[i]?=some x.1:=by rw [HES.out,List.getElem?_map,hx];rfl
      have HX1:=lh hxe;obtain ⟨hrel0,_⟩:=HEL.out x (List.mem_of_getElem? hx);obtain ⟨K,B,N,ra,rn,rc,hcs,hkind⟩:=hrel0.kind;obtain ⟨g0,rfl,_,hg⟩:=H3.out i x hx;have hww:Ext w wr:=HX.out.trans HJ0.out.ext;have y0:wr.cell? ⟨g0,i*4,none⟩=some (.int .i64 K):=by rw [Nat.mul_comm];have h0:=hg 0 (.int .i64 K) (by rw [hcs];rfl);exact (hww.cell (lt_of_cell h0)).trans h0
      have y1:wr.cell? ⟨g0,i*4+1,none⟩=some (.int .u8 B):=by rw [Nat.mul_comm];have h0:=hg 1 (.int .u8 B) (by rw [hcs];rfl);exact (hww.cell (lt_of_cell h0)).trans h0
      have y2:wr.cell? ⟨g0,i*4+2,none⟩=some (.bool N):=by rw [Nat.mul_comm];have h0:=hg 2 (.bool N) (by rw [hcs];rfl);exact (hww.cell (lt_of_cell h0)).trans h0
      have y3:wr.cell? ⟨g0,i*4+3,none⟩=some (.slice ra rn rc):=by rw [Nat.mul_comm];have h0:=hg 3 (.slice ra rn rc) (by rw [hcs];rfl);exact (hww.cell (lt_of_cell h0)).trans h0
      obtain ⟨⟨z0,z1,z2,z3,z4⟩,_⟩:=quint ((HJ0.out.ext.block (lt_of_block HP.out)).trans HP.out);obtain ⟨X,hX⟩:∃ X,X=wr.alloc (.cells #[.int .i64 K,.int .u8 B,.bool N,.slice ra rn rc] 303):=⟨_,rfl⟩;have hXE:Ext wr X:=hX▸(Ext.refl wr).alloc _;have hXb:X.heap[wr.heap.size]?=some (.cells #[.int .i64 K,.int .u8 B,.bool N,.slice ra rn rc] 303 (0,0)):=by rw [hX];exact heap_alloc_new _ _
      have X0:=After.cell (show X.cell? ⟨wr.heap.size,0,none⟩=some (.int .i64 K) from cell_of_block hXb);have X1:=After.cell (show X.cell? ⟨wr.heap.size,1,none⟩=some (.int .u8 B) from cell_of_block hXb);have X2:=After.cell (show X.cell? ⟨wr.heap.size,2,none⟩=some (.bool N) from cell_of_block hXb);have X3:=After.cell (show X.cell? ⟨wr.heap.size,3,none⟩=some (.slice ra rn rc) from cell_of_block hXb);have P0:=After.cell ((hXE.cell (lt_of_cell z0)).trans z0);have P1:=After.cell ((hXE.cell (lt_of_cell z1)).trans z1);have P2:=After.cell ((hXE.cell (lt_of_cell z2)).trans z2);have P3:=After.cell ((hXE.cell (lt_of_cell z3)).trans z3);have P4:=After.cell ((hXE.cell (lt_of_cell z4)).trans z4);have HH0:=fun (c:UInt8) (y:After X)=>lh (rholds_any m r (some ⟨g0,0,none⟩) l.length cap x.1 x.2 c Far y.v (hrel0.keeps (((hww.trans hXE).trans y.x).keeps _)));rw [hcs] at HH0;unfold patV at HH0;have HXE:=lh hXE;obtain ⟨i1,hi1⟩:∃ i1,i1=i+1:=⟨_,rfl⟩;obtain ⟨k1,hk1⟩:∃ k1,k1=k+1:=⟨_,rfl⟩;have wi:IntKind.i64.wrap ((i:Int)+1)=(i1:Int):=(IntWalk.i64_in _ (by omega)).trans (by omega);have wk:IntKind.i64.wrap ((k:Int)+1)=(k1:Int):=(IntWalk.i64_in _ (by omega)).trans (by omega);have bi:i1<l.length+1:=by omega
      have bk:k<s.size->k1<s.size+1:=fun _=>by omega
      have Hi1:=lh hi1;have Hk1:=lh hk1;clear hi1 hk1 hXE hXb z0 z1 z2 z3 hg hww hrel0 hcs hx hxe;by_cases hks:k<s.size
      ·have bk1:k1<s.size+1:=bk hks;have d0:decide ((k:Int)<(s.size:Int))=true:=by rw [decide_eq_true_eq];omega
       have d1:decide (k<s.size)=true:=by rw [decide_eq_true_eq];omega
       have HH:=HH0 s[k];clear HH0 bk
       cases hhb:x.1.holds m.fold s[k] with
       | true =>
        rw [hhb] at HH;go_wp2_with fail;rw [<-hX];clear hX;refine wp_region_after (by kernel_rfl) (by kernel_rfl) ?_
        repeat (go_big_quiet_step (exact After.of (HH _).out))
        refine wpQuiet_nil ?_;rintro _ ⟨y,rfl⟩;have HJ:=lh (HJ0.out.on (HXE.out.trans y.x));rcases hkind with ⟨hm,rfl⟩ | ⟨hm,rfl⟩ | ⟨hm,hK1,hK2⟩
        rotate_left 2
        ·have JJ:=HJ.out;obtain ⟨A,g1,g2,g3,g4⟩:=JJ.tab;obtain ⟨r0,g5,g6,g7,g8⟩:=g4 (by omega);have T0:=After.cell (show y.v.cell? ⟨T,i,none⟩=some (.slice (some ⟨R,0,none⟩) (s.size+1) (s.size+1)) from (cell_of_block g1).trans g3);have T1:=After.cell (show y.v.cell? ⟨T,i1,none⟩=some (.slice (some ⟨r0,0,none⟩) (s.size+1) (s.size+1)) from by rw [Hi1.out];exact (cell_of_block g1).trans g5);have R0:=After.cell (show y.v.cell? ⟨R,k,none⟩=some (.bool false) from (cell_of_block JJ.row).trans (by rw [brA_get _ _ _ _ (by omega),show decide (k+1<=k)=false from by rw [decide_eq_false_iff_not];omega];rfl));have RF:=After.frozen (lt_of_block JJ.row) (show y.v.frozen? ⟨R,k,none⟩=false from frozen_of_block JJ.row);have Q0:=After.cell (show y.v.cell? ⟨r0,k,none⟩=some (.bool (tabF m.fold es s.toList i1 k)) from by rw [Hi1.out];exact (cell_of_block g8).trans (blA_at _ _ _ _ (by omega) (by omega)));have R1:=After.cell (show y.v.cell? ⟨R,k1,none⟩=some (.bool (tabF m.fold es s.toList i k1)) from by rw [Hk1.out];exact (cell_of_block JJ.row).trans (brA_at _ _ _ _ (by omega) (by omega)));have Q1:=After.cell (show y.v.cell? ⟨r0,k1,none⟩=some (.bool (tabF m.fold es s.toList i1 k1)) from by rw [Hk1.out,Hi1.out];exact (cell_of_block g8).trans (blA_at _ _ _ _ (by omega) (by omega)));have HBX:=tabF_one m.fold es s i k x.1 HX1.out hks hm;rw [hhb,<-Hi1.out,<-Hk1.out] at HBX;clear hm hhb;rw [Bool.true_and] at HBX;have HB:=lh HBX;clear HBX;clear JJ g1 g2 g3 g4 g5 g6 g7 g8;generalize tabF m.fold es s.toList i1 k1=b3 at *;go_wp2_with fail;refine wp_region_after_tail 18 (by kernel_rfl) (by kernel_rfl) ?_;simp only [List.take_succ_cons,List.take_zero,List.drop_succ_cons,List.drop_zero]
         repeat (go_big_quiet_step (fail))
         refine wpQuiet_nil ?_;rintro _ ⟨z,rfl⟩;go_wp2_with fail;go_roundw
         case rel=>exact ⟨k,(k:Int) - 1,by omega,rfl,by go_num,(HJ.out.on z.x).step (by omega) HB.out⟩
         case measure=>simp [intOf] <;> omega
        all_goals
         have JJ:=HJ.out;obtain ⟨A,g1,g2,g3,g4⟩:=JJ.tab;obtain ⟨r0,g5,g6,g7,g8⟩:=g4 (by omega);have T0:=After.cell (show y.v.cell? ⟨T,i,none⟩=some (.slice (some ⟨R,0,none⟩) (s.size+1) (s.size+1)) from (cell_of_block g1).trans g3);have T1:=After.cell (show y.v.cell? ⟨T,i1,none⟩=some (.slice (some ⟨r0,0,none⟩) (s.size+1) (s.size+1)) from by rw [Hi1.out];exact (cell_of_block g1).trans g5);have R0:=After.cell (show y.v.cell? ⟨R,k,none⟩=some (.bool false) from (cell_of_block JJ.row).trans (by rw [brA_get _ _ _ _ (by omega),show decide (k+1<=k)=false from by rw [decide_eq_false_iff_not];omega];rfl));have RF:=After.frozen (lt_of_block JJ.row) (show y.v.frozen? ⟨R,k,none⟩=false from frozen_of_block JJ.row);have Q0:=After.cell (show y.v.cell? ⟨r0,k,none⟩=some (.bool (tabF m.fold es s.toList i1 k)) from by rw [Hi1.out];exact (cell_of_block g8).trans (blA_at _ _ _ _ (by omega) (by omega)));have R1:=After.cell (show y.v.cell? ⟨R,k1,none⟩=some (.bool (tabF m.fold es s.toList i k1)) from by rw [Hk1.out];exact (cell_of_block JJ.row).trans (brA_at _ _ _ _ (by omega) (by omega)));have Q1:=After.cell (show y.v.cell? ⟨r0,k1,none⟩=some (.bool (tabF m.fold es s.toList i1 k1)) from by rw [Hk1.out,Hi1.out];exact (cell_of_block g8).trans (blA_at _ _ _ _ (by omega) (by omega)));have HBX:=tabF_many m.fold es s i k x.1 HX1.out hks hm;rw [hhb,<-Hi1.out,<-Hk1.out] at HBX;clear hm hhb
         cases hb1:tabF m.fold es s.toList i1 k with
         | true =>
          rw [hb1] at Q0 HBX;have HB:=lh (show tabF m.fold es s.toList i k=true from HBX);clear hb1 HBX;clear JJ g1 g2 g3 g4 g5 g6 g7 g8;go_wp2_with fail;refine wp_region_after_tail 27 (by kernel_rfl) (by kernel_rfl) ?_;simp only [List.take_succ_cons,List.take_zero,List.drop_succ_cons,List.drop_zero]
          repeat (go_big_quiet_step (fail))
          refine wpQuiet_nil ?_;rintro _ ⟨z,rfl⟩;go_wp2_with fail;go_roundw
          case rel=>exact ⟨k,(k:Int) - 1,by omega,rfl,by go_num,(HJ.out.on z.x).step (by omega) HB.out⟩
          case measure=>simp [intOf] <;> omega
         | false =>
          rw [hb1] at Q0 HBX;rw [Bool.false_or,Bool.true_and] at HBX;have HB:=lh HBX;clear hb1 HBX;clear JJ g1 g2 g3 g4 g5 g6 g7 g8;generalize tabF m.fold es s.toList i k1=b2 at *;go_wp2_with fail;refine wp_region_after_tail 27 (by kernel_rfl) (by kernel_rfl) ?_;simp only [List.take_succ_cons,List.take_zero,List.drop_succ_cons,List.drop_zero]
          repeat (go_big_quiet_step (fail))
          refine wpQuiet_nil ?_;rintro _ ⟨z,rfl⟩;go_wp2_with fail;go_roundw
          case rel=>exact ⟨k,(k:Int) - 1,by omega,rfl,by go_num,(HJ.out.on z.x).step (by omega) HB.out⟩
          case measure=>simp [intOf] <;> omega
       | false =>
        rw [hhb] at HH;go_wp2_with fail;rw [<-hX];clear hX;refine wp_region_after (by kernel_rfl) (by kernel_rfl) ?_
        repeat (go_big_quiet_step (exact After.of (HH _).out))
        refine wpQuiet_nil ?_;rintro _ ⟨y,rfl⟩;have HJ:=lh (HJ0.out.on (HXE.out.trans y.x));rcases hkind with ⟨hm,rfl⟩ | ⟨hm,rfl⟩ | ⟨hm,hK1,hK2⟩
        rotate_left 2
        ·have JJ:=HJ.out;obtain ⟨A,g1,g2,g3,g4⟩:=JJ.tab;obtain ⟨r0,g5,g6,g7,g8⟩:=g4 (by omega);have T0:=After.cell (show y.v.cell? ⟨T,i,none⟩=some (.slice (some ⟨R,0,none⟩) (s.size+1) (s.size+1)) from (cell_of_block g1).trans g3);have T1:=After.cell (show y.v.cell? ⟨T,i1,none⟩=some (.slice (some ⟨r0,0,none⟩) (s.size+1) (s.size+1)) from by rw [Hi1.out];exact (cell_of_block g1).trans g5);have R0:=After.cell (show y.v.cell? ⟨R,k,none⟩=some (.bool false) from (cell_of_block JJ.row).trans (by rw [brA_get _ _ _ _ (by omega),show decide (k+1<=k)=false from by rw [decide_eq_false_iff_not];omega];rfl));have RF:=After.frozen (lt_of_block JJ.row) (show y.v.frozen? ⟨R,k,none⟩=false from frozen_of_block JJ.row);have Q0:=After.cell (show y.v.cell? ⟨r0,k,none⟩=some (.bool (tabF m.fold es s.toList i1 k)) from by rw [Hi1.out];exact (cell_of_block g8).trans (blA_at _ _ _ _ (by omega) (by omega)));have R1:=After.cell (show y.v.cell? ⟨R,k1,none⟩=some (.bool (tabF m.fold es s.toList i k1)) from by rw [Hk1.out];exact (cell_of_block JJ.row).trans (brA_at _ _ _ _ (by omega) (by omega)));have Q1:=After.cell (show y.v.cell? ⟨r0,k1,none⟩=some (.bool (tabF m.fold es s.toList i1 k1)) from by rw [Hk1.out,Hi1.out];exact (cell_of_block g8).trans (blA_at _ _ _ _ (by omega) (by omega)));have HBX:=tabF_one m.fold es s i k x.1 HX1.out hks hm;rw [hhb,<-Hi1.out,<-Hk1.out] at HBX;rw [Bool.false_and] at HBX;clear hm hhb;have HB:=lh (show tabF m.fold es s.toList i k=false from HBX);clear HBX;clear JJ g1 g2 g3 g4 g5 g6 g7 g8;go_wp2_with fail;refine wp_region_after_tail 18 (by kernel_rfl) (by kernel_rfl) ?_;simp only [List.take_succ_cons,List.take_zero,List.drop_succ_cons,List.drop_zero]
         repeat (go_big_quiet_step (fail))
         refine wpQuiet_nil ?_;rintro _ ⟨z,rfl⟩;go_wp2_with fail;go_roundw
         case rel=>exact ⟨k,(k:Int) - 1,by omega,rfl,by go_num,(HJ.out.on z.x).step (by omega) HB.out⟩
         case measure=>simp [intOf] <;> omega
        all_goals
         have JJ:=HJ.out;obtain ⟨A,g1,g2,g3,g4⟩:=JJ.tab;obtain ⟨r0,g5,g6,g7,g8⟩:=g4 (by omega);have T0:=After.cell (show y.v.cell? ⟨T,i,none⟩=some (.slice (some ⟨R,0,none⟩) (s.size+1) (s.size+1)) from (cell_of_block g1).trans g3);have T1:=After.cell (show y.v.cell? ⟨T,i1,none⟩=some (.slice (some ⟨r0,0,none⟩) (s.size+1) (s.size+1)) from by rw [Hi1.out];exact (cell_of_block g1).trans g5);have R0:=After.cell (show y.v.cell? ⟨R,k,none⟩=some (.bool false) from (cell_of_block JJ.row).trans (by rw [brA_get _ _ _ _ (by omega),show decide (k+1<=k)=false from by rw [decide_eq_false_iff_not];omega];rfl));have RF:=After.frozen (lt_of_block JJ.row) (show y.v.frozen? ⟨R,k,none⟩=false from frozen_of_block JJ.row);have Q0:=After.cell (show y.v.cell? ⟨r0,k,none⟩=some (.bool (tabF m.fold es s.toList i1 k)) from by rw [Hi1.out];exact (cell_of_block g8).trans (blA_at _ _ _ _ (by omega) (by omega)));have R1:=After.cell (show y.v.cell? ⟨R,k1,none⟩=some (.bool (tabF m.fold es s.toList i k1)) from by rw [Hk1.out];exact (cell_of_block JJ.row).trans (brA_at _ _ _ _ (by omega) (by omega)));have Q1:=After.cell (show y.v.cell? ⟨r0,k1,none⟩=some (.bool (tabF m.fold es s.toList i1 k1)) from by rw [Hk1.out,Hi1.out];exact (cell_of_block g8).trans (blA_at _ _ _ _ (by omega) (by omega)));have HBX:=tabF_many m.fold es s i k x.1 HX1.out hks hm;rw [hhb,<-Hi1.out,<-Hk1.out] at HBX;rw [Bool.false_and] at HBX;have HBX:tabF m.fold es s.toList i k=(tabF m.fold es s.toList i1 k||false&&false):=HBX;clear hm hhb
         cases hb1:tabF m.fold es s.toList i1 k with
         | true =>
          rw [hb1] at Q0 HBX;have HB:=lh (show tabF m.fold es s.toList i k=true from HBX);clear hb1 HBX;clear JJ g1 g2 g3 g4 g5 g6 g7 g8;go_wp2_with fail;refine wp_region_after_tail 27 (by kernel_rfl) (by kernel_rfl) ?_;simp only [List.take_succ_cons,List.take_zero,List.drop_succ_cons,List.drop_zero]
          repeat (go_big_quiet_step (fail))
          refine wpQuiet_nil ?_;rintro _ ⟨z,rfl⟩;go_wp2_with fail;go_roundw
          case rel=>exact ⟨k,(k:Int) - 1,by omega,rfl,by go_num,(HJ.out.on z.x).step (by omega) HB.out⟩
          case measure=>simp [intOf] <;> omega
         | false =>
          rw [hb1] at Q0 HBX;have HB:=lh (show tabF m.fold es s.toList i k=false from HBX);clear hb1 HBX;clear JJ g1 g2 g3 g4 g5 g6 g7 g8;go_wp2_with fail;refine wp_region_after_tail 27 (by kernel_rfl) (by kernel_rfl) ?_;simp only [List.take_succ_cons,List.take_zero,List.drop_succ_cons,List.drop_zero]
          repeat (go_big_quiet_step (fail))
          refine wpQuiet_nil ?_;rintro _ ⟨z,rfl⟩;go_wp2_with fail;go_roundw
          case rel=>exact ⟨k,(k:Int) - 1,by omega,rfl,by go_num,(HJ.out.on z.x).step (by omega) HB.out⟩
          case measure=>simp [intOf] <;> omega
      ·have hkl:k=s.size:=by omega
       have d0:decide ((k:Int)<(s.size:Int))=false:=by rw [decide_eq_false_iff_not];omega
       have d1:decide (k<s.size)=false:=by rw [decide_eq_false_iff_not];omega
       clear HH0 bk;go_wp2_with fail;rw [<-hX];clear hX;refine wp_region_after (by kernel_rfl) (by kernel_rfl) ?_
       repeat (go_big_quiet_step (fail))
       refine wpQuiet_nil ?_;rintro _ ⟨y,rfl⟩;have HJ:=lh (HJ0.out.on (HXE.out.trans y.x));rcases hkind with ⟨hm,rfl⟩ | ⟨hm,rfl⟩ | ⟨hm,hK1,hK2⟩
       rotate_left 2
       ·have JJ:=HJ.out;obtain ⟨A,g1,g2,g3,g4⟩:=JJ.tab;obtain ⟨r0,g5,g6,g7,g8⟩:=g4 (by omega);have T0:=After.cell (show y.v.cell? ⟨T,i,none⟩=some (.slice (some ⟨R,0,none⟩) (s.size+1) (s.size+1)) from (cell_of_block g1).trans g3);have T1:=After.cell (show y.v.cell? ⟨T,i1,none⟩=some (.slice (some ⟨r0,0,none⟩) (s.size+1) (s.size+1)) from by rw [Hi1.out];exact (cell_of_block g1).trans g5);have R0:=After.cell (show y.v.cell? ⟨R,k,none⟩=some (.bool false) from (cell_of_block JJ.row).trans (by rw [brA_get _ _ _ _ (by omega),show decide (k+1<=k)=false from by rw [decide_eq_false_iff_not];omega];rfl));have RF:=After.frozen (lt_of_block JJ.row) (show y.v.frozen? ⟨R,k,none⟩=false from frozen_of_block JJ.row);have Q0:=After.cell (show y.v.cell? ⟨r0,k,none⟩=some (.bool (tabF m.fold es s.toList i1 k)) from by rw [Hi1.out];exact (cell_of_block g8).trans (blA_at _ _ _ _ (by omega) (by omega)));have HBX:=tabF_end m.fold es s i x.1 HX1.out;rw [hm,Bool.false_and,<-hkl] at HBX;clear hm hkl;have HB:=lh (show tabF m.fold es s.toList i k=false from HBX);clear HBX;clear JJ g1 g2 g3 g4 g5 g6 g7 g8;go_wp2_with fail;refine wp_region_after_tail 18 (by kernel_rfl) (by kernel_rfl) ?_;simp only [List.take_succ_cons,List.take_zero,List.drop_succ_cons,List.drop_zero]
        repeat (go_big_quiet_step (fail))
        refine wpQuiet_nil ?_;rintro _ ⟨z,rfl⟩;go_wp2_with fail;go_roundw
        case rel=>exact ⟨k,(k:Int) - 1,by omega,rfl,by go_num,(HJ.out.on z.x).step (by omega) HB.out⟩
        case measure=>simp [intOf] <;> omega
       all_goals
        have JJ:=HJ.out;obtain ⟨A,g1,g2,g3,g4⟩:=JJ.tab;obtain ⟨r0,g5,g6,g7,g8⟩:=g4 (by omega);have T0:=After.cell (show y.v.cell? ⟨T,i,none⟩=some (.slice (some ⟨R,0,none⟩) (s.size+1) (s.size+1)) from (cell_of_block g1).trans g3);have T1:=After.cell (show y.v.cell? ⟨T,i1,none⟩=some (.slice (some ⟨r0,0,none⟩) (s.size+1) (s.size+1)) from by rw [Hi1.out];exact (cell_of_block g1).trans g5);have R0:=After.cell (show y.v.cell? ⟨R,k,none⟩=some (.bool false) from (cell_of_block JJ.row).trans (by rw [brA_get _ _ _ _ (by omega),show decide (k+1<=k)=false from by rw [decide_eq_false_iff_not];omega];rfl));have RF:=After.frozen (lt_of_block JJ.row) (show y.v.frozen? ⟨R,k,none⟩=false from frozen_of_block JJ.row);have Q0:=After.cell (show y.v.cell? ⟨r0,k,none⟩=some (.bool (tabF m.fold es s.toList i1 k)) from by rw [Hi1.out];exact (cell_of_block g8).trans (blA_at _ _ _ _ (by omega) (by omega)));have HBX:=tabF_end m.fold es s i x.1 HX1.out;rw [hm,Bool.true_and,<-Hi1.out,<-hkl] at HBX;have HBX:tabF m.fold es s.toList i k=(tabF m.fold es s.toList i1 k||false&&false):=by rw [HBX];simp
        clear hm hkl
        cases hb1:tabF m.fold es s.toList i1 k with
        | true =>
         rw [hb1] at Q0 HBX;have HB:=lh (show tabF m.fold es s.toList i k=true from HBX);clear hb1 HBX;clear JJ g1 g2 g3 g4 g5 g6 g7 g8;go_wp2_with fail;refine wp_region_after_tail 27 (by kernel_rfl) (by kernel_rfl) ?_;simp only [List.take_succ_cons,List.take_zero,List.drop_succ_cons,List.drop_zero]
         repeat (go_big_quiet_step (fail))
         refine wpQuiet_nil ?_;rintro _ ⟨z,rfl⟩;go_wp2_with fail;go_roundw
         case rel=>exact ⟨k,(k:Int) - 1,by omega,rfl,by go_num,(HJ.out.on z.x).step (by omega) HB.out⟩
         case measure=>simp [intOf] <;> omega
        | false =>
         rw [hb1] at Q0 HBX;have HB:=lh (show tabF m.fold es s.toList i k=false from HBX);clear hb1 HBX;clear JJ g1 g2 g3 g4 g5 g6 g7 g8;go_wp2_with fail;refine wp_region_after_tail 27 (by kernel_rfl) (by kernel_rfl) ?_;simp only [List.take_succ_cons,List.take_zero,List.drop_succ_cons,List.drop_zero]
         repeat (go_big_quiet_step (fail))
         refine wpQuiet_nil ?_;rintro _ ⟨z,rfl⟩;go_wp2_with fail;go_roundw
         case rel=>exact ⟨k,(k:Int) - 1,by omega,rfl,by go_num,(HJ.out.on z.x).step (by omega) HB.out⟩
         case measure=>simp [intOf] <;> omega
end
section
theorem noneBelow (f:Bool) (es:List GE) (s:List UInt8) (a:Nat):NoneOf a fun b=>endsL f es s a b&&endL s b:=fun i hi=>by
 show (endsL f es s a i&&endL s i)=false
 unfold endsL;rw [show decide (a<=i)=false from by rw [decide_eq_false_iff_not];omega];rfl
set_option maxHeartbeats 8000000 in
set_option maxRecDepth 100000 in
theorem rmatch_any (p:Pat) (v:Value) (l:List (GE×Array Value)) (s:ByteArray) (Far:Nat->Prop) (w:World) (hs:s.size<=maxLen) (hl1:l.length<=1024) (hl:l.map (·.1)=p.es) (h:REltsAt w Far v l) :
  Calls prog 222 #[patV p.marks p.rooted v,.string s] w fun e w'=>e=.returned (.bool (matchL p s.toList))/\Ext w w':=by
 obtain ⟨va,cap,rfl,h1,h2,h3⟩:=h.row;unfold maxLen at h2 hs;unfold patV;have HR:=lh h;have HL:=lh hl;have HM:=lh (matchL_rows p s.toList);clear h h3 hl;generalize matchL p s.toList=M at *;by_cases h160:160<s.size
 ·have HF:=lh (show M=false from by rw [HM.out,len_toList];simp;omega);clear HM;go_enter func222,ntmps222;go_wp2_with fail;go_ret;exact ⟨ret_bool HF.out.symm,(Ext.refl _).alloc _⟩
 ·have hs2:s.size<=160:=by omega
  have HM2:=lh (show M=(List.range (s.size+1)).any (rowL p s.toList) from by rw [HM.out,len_toList];simp [hs2]);clear HM;obtain ⟨W1,hW1⟩:∃ W1,W1=w.alloc (.cells #[.bool p.marks.neg,.bool p.marks.fold,.bool p.marks.del,.bool p.rooted,.slice va l.length cap] 247):=⟨_,rfl⟩;have HX0:=lh (show Ext w W1 from hW1▸(Ext.refl w).alloc _);have HP:=lh (show W1.heap[w.heap.size]?=some (.cells #[.bool p.marks.neg,.bool p.marks.fold,.bool p.marks.del,.bool p.rooted,.slice va l.length cap] 247 (0,0)) from by rw [hW1];exact heap_alloc_new _ _);have HW1:=lh hW1;clear hW1;go_enter func222,ntmps222;go_wp2_with fail;rw [<-HW1.out];go_loopw [5] (fun fv wr=>Hid (∃ a:Nat,a<=s.size+1/\fv=.int .i64 a/\NoneOf a (rowL p s.toList)/\Ext W1 wr)) (fun fv _=>s.size+1 - (intOf fv).toNat)
  case atStart=>exact ⟨0,by omega,rfl,NoneOf.zero _,Ext.refl _⟩
  case round =>
   obtain ⟨a,ha,rfl,hN,hX⟩:=hrel.out;clear hrel;have HN:=lh hN;have HX:=lh hX;have c3:wr.cell? ⟨w.heap.size,3,none⟩=some (.bool p.rooted):=cell_of_block ((hX.block (lt_of_block HP.out)).trans HP.out);clear hN hX;by_cases has:a<=s.size
   ·have key:(startL p.rooted s.toList a=true/\(a=0\/∃ (j:Nat) (hj:j<s.size),a=j+1/\p.rooted=false/\s[j]=47))\/(startL p.rooted s.toList a=false/\0<a/\(p.rooted=true\/∃ (j:Nat) (hj:j<s.size),a=j+1/\p.rooted=false/\s[j]≠47)):=by
     rcases Nat.eq_zero_or_pos a with h0 | h0
     ·subst h0;exact .inl ⟨rfl,.inl rfl⟩
     ·have hc:=startL_pos p.rooted s a (s[a - 1]'(by omega)) h0 (getElem_toList s (a - 1) (by omega))
      cases hr:p.rooted with
      | true=>rw [hr] at hc;exact .inr ⟨hc,h0,.inl rfl⟩
      | false =>
       rw [hr] at hc;by_cases h47:s[a - 1]'(by omega)=47
       ·exact .inl ⟨by rw [hc,h47];rfl,.inr ⟨a - 1,by omega,by omega,rfl,h47⟩⟩
       ·exact .inr ⟨by rw [hc];simp [h47],h0,.inr ⟨a - 1,by omega,by omega,rfl,h47⟩⟩
    rcases key with ⟨hst,hcase⟩ | ⟨hst,h0,hcase⟩
    ·have HST:=lh hst;rcases hcase with rfl | ⟨j,hj,rfl,hr,h47⟩
     ·clear hst;clear c3;obtain ⟨wo,rfl⟩:∃ wo:World,wo=wr:=⟨_,rfl⟩;go_wp2_with fail;go_loopw [6] (fun iv wr=>Hid (∃ b:Nat,0<=b/\b<=s.size+1/\iv=.int .i64 b/\NoneOf b (fun b=>endsL p.marks.fold p.es s.toList (0) b&&endL s.toList b)/\Ext wo wr)) (fun iv _=>s.size+1 - (intOf iv).toNat)
      case atStart=>exact ⟨0,by omega,by omega,rfl,noneBelow _ _ _ _,Ext.refl _⟩
      case round =>
       obtain ⟨b,hab,hb,rfl,hN,hY⟩:=hrel.out;clear hrel;have HN2:=lh hN;have HY:=lh hY;clear hN hY;by_cases hbs:b<=s.size
       ·obtain ⟨⟨z0,z1,z2,z3,z4⟩,_⟩:=quint (((HX.out.trans HY.out).block (lt_of_block HP.out)).trans HP.out);have P0:=After.cell z0;have P1:=After.cell z1;have P2:=After.cell z2;have P3:=After.cell z3;have P4:=After.cell z4;clear z0 z1 z2 z3 z4;have HH:=fun (y:After wr)=>lh (rwhole_any p.marks p.rooted (.slice va l.length cap) l (s.extract (0) b) Far y.v (by simp;omega) hl1 (HR.out.ext (HX0.out.trans ((HX.out.trans HY.out).trans y.x))));unfold patV at HH
        have hE:wholeL p.marks.fold (l.map (·.1)) (s.extract (0) b).toList=endsL p.marks.fold p.es s.toList (0) b:=by
         rw [HL.out,toList_extract,<-List.drop_take,endsL,show decide (0<=b)=true from by rw [decide_eq_true_eq];omega,Bool.true_and]
        rw [hE] at HH;clear hE
        have hit:endsL p.marks.fold p.es s.toList (0) b=true->endL s.toList b=true->M=true:=fun q1 q2=>by
         rw [HM2.out];refine any_of (i:=0) (by omega) ?_;unfold rowL;rw [HST.out,Bool.true_and,len_toList];exact any_of (by omega:b<s.size+1) (by rw [q1,q2];rfl)
        have HIT:=lh hit;clear hit
        have key:(b=s.size/\endL s.toList b=true)\/(∃ h:b<s.size,s[b]=47/\endL s.toList b=true)\/(∃ h:b<s.size,s[b]≠47/\endL s.toList b=false):=by
         by_cases hbe:b=s.size
         ·exact .inl ⟨hbe,by rw [hbe];exact endL_last s⟩
         ·have hb2:b<s.size:=by omega
          have hel:=endL_at s b s[b] hb2 (getElem_toList s b hb2);by_cases h47:s[b]=47
          ·exact .inr (.inl ⟨hb2,h47,by rw [hel,h47];rfl⟩)
          ·exact .inr (.inr ⟨hb2,h47,by rw [hel];simp [h47]⟩)
        rcases key with ⟨hbe,hel⟩ | ⟨hb2,h47,hel⟩ | ⟨hb2,h47,hel⟩
        ·have e0:((b:Int)==(s.size:Int))=true:=by rw [hbe];simp
         clear hbe
         cases hb1:endsL p.marks.fold p.es s.toList (0) b with
         | true =>
          rw [hb1] at HH;have HF:=lh (HIT.out hb1 hel);clear hb1 hel HIT;go_wp2_with fail;refine wp_region_after (by kernel_rfl) (by kernel_rfl) ?_
          repeat (go_big_quiet_step (exact After.of (HH _).out))
          refine wpQuiet_nil ?_;rintro _ ⟨y,rfl⟩;go_wp2_with fail;go_ret;exact ⟨ret_bool HF.out.symm,HX0.out.trans ((HX.out.trans HY.out).trans y.x)⟩
         | false =>
          rw [hb1] at HH;have HNN:=lh (HN2.out.succ (show (endsL p.marks.fold p.es s.toList (0) b&&endL s.toList b)=false from by rw [hb1];rfl));clear hb1 hel HIT;go_wp2_with fail;refine wp_region_after (by kernel_rfl) (by kernel_rfl) ?_
          repeat (go_big_quiet_step (exact After.of (HH _).out))
          refine wpQuiet_nil ?_;rintro _ ⟨y,rfl⟩;go_wp2_with fail;go_roundw
          case rel=>exact ⟨b+1,by omega,by omega,by go_num,HNN.out,HY.out.trans y.x⟩
          case measure=>simp [intOf] <;> omega
        ·have e0:((b:Int)==(s.size:Int))=false:=beq_eq_false_iff_ne.2 (by omega);have e1:((s[b].toNat:Int)==47)=true:=by rw [h47];rfl
         clear h47
         cases hb1:endsL p.marks.fold p.es s.toList (0) b with
         | true =>
          rw [hb1] at HH;have HF:=lh (HIT.out hb1 hel);clear hb1 hel HIT;go_wp2_with fail;refine wp_region_after (by kernel_rfl) (by kernel_rfl) ?_
          repeat (go_big_quiet_step (exact After.of (HH _).out))
          refine wpQuiet_nil ?_;rintro _ ⟨y,rfl⟩;go_wp2_with fail;go_ret;exact ⟨ret_bool HF.out.symm,HX0.out.trans ((HX.out.trans HY.out).trans y.x)⟩
         | false =>
          rw [hb1] at HH;have HNN:=lh (HN2.out.succ (show (endsL p.marks.fold p.es s.toList (0) b&&endL s.toList b)=false from by rw [hb1];rfl));clear hb1 hel HIT;go_wp2_with fail;refine wp_region_after (by kernel_rfl) (by kernel_rfl) ?_
          repeat (go_big_quiet_step (exact After.of (HH _).out))
          refine wpQuiet_nil ?_;rintro _ ⟨y,rfl⟩;go_wp2_with fail;go_roundw
          case rel=>exact ⟨b+1,by omega,by omega,by go_num,HNN.out,HY.out.trans y.x⟩
          case measure=>simp [intOf] <;> omega
        ·have e0:((b:Int)==(s.size:Int))=false:=beq_eq_false_iff_ne.2 (by omega);have e1:=toNat_ne47 h47;have HNN:=lh (HN2.out.succ (show (endsL p.marks.fold p.es s.toList (0) b&&endL s.toList b)=false from by rw [hel];simp));clear h47 hel HH HIT;go_wp2_with fail;refine wp_region_after (by kernel_rfl) (by kernel_rfl) ?_
         repeat (go_big_quiet_step (fail))
         refine wpQuiet_nil ?_;rintro _ ⟨y,rfl⟩;go_wp2_with fail;go_roundw
         case rel=>exact ⟨b+1,by omega,by omega,by go_num,HNN.out,HY.out.trans y.x⟩
         case measure=>simp [intOf] <;> omega
       ·obtain rfl:b=s.size+1:=by omega
        have HNN:=lh (HN.out.succ (show rowL p s.toList (0)=false from by
         unfold rowL;rw [HST.out,Bool.true_and,len_toList]
         exact HN2.out.any))
        go_wp2_with fail;go_roundw
        case rel=>exact ⟨0+1,by omega,by go_num,HNN.out,HX.out.trans HY.out⟩
        case measure=>simp [intOf] <;> omega
     ·rw [hr] at c3;have e47:((s[j].toNat:Int) != 47)=false:=by rw [h47];rfl
      clear hst hr h47;go_wp2_with fail;clear c3;obtain ⟨wo,rfl⟩:∃ wo:World,wo=wr:=⟨_,rfl⟩;go_wp2_with fail;go_loopw [6] (fun iv wr=>Hid (∃ b:Nat,j+1<=b/\b<=s.size+1/\iv=.int .i64 b/\NoneOf b (fun b=>endsL p.marks.fold p.es s.toList (j+1) b&&endL s.toList b)/\Ext wo wr)) (fun iv _=>s.size+1 - (intOf iv).toNat)
      case atStart=>exact ⟨j+1,by omega,by omega,rfl,noneBelow _ _ _ _,Ext.refl _⟩
      case round =>
       obtain ⟨b,hab,hb,rfl,hN,hY⟩:=hrel.out;clear hrel;have HN2:=lh hN;have HY:=lh hY;clear hN hY;by_cases hbs:b<=s.size
       ·obtain ⟨⟨z0,z1,z2,z3,z4⟩,_⟩:=quint (((HX.out.trans HY.out).block (lt_of_block HP.out)).trans HP.out);have P0:=After.cell z0;have P1:=After.cell z1;have P2:=After.cell z2;have P3:=After.cell z3;have P4:=After.cell z4;clear z0 z1 z2 z3 z4;have HH:=fun (y:After wr)=>lh (rwhole_any p.marks p.rooted (.slice va l.length cap) l (s.extract (j+1) b) Far y.v (by simp;omega) hl1 (HR.out.ext (HX0.out.trans ((HX.out.trans HY.out).trans y.x))));unfold patV at HH
        have hE:wholeL p.marks.fold (l.map (·.1)) (s.extract (j+1) b).toList=endsL p.marks.fold p.es s.toList (j+1) b:=by
         rw [HL.out,toList_extract,<-List.drop_take,endsL,show decide (j+1<=b)=true from by rw [decide_eq_true_eq];omega,Bool.true_and]
        rw [hE] at HH;clear hE
        have hit:endsL p.marks.fold p.es s.toList (j+1) b=true->endL s.toList b=true->M=true:=fun q1 q2=>by
         rw [HM2.out];refine any_of (i:=j+1) (by omega) ?_;unfold rowL;rw [HST.out,Bool.true_and,len_toList];exact any_of (by omega:b<s.size+1) (by rw [q1,q2];rfl)
        have HIT:=lh hit;clear hit
        have key:(b=s.size/\endL s.toList b=true)\/(∃ h:b<s.size,s[b]=47/\endL s.toList b=true)\/(∃ h:b<s.size,s[b]≠47/\endL s.toList b=false):=by
         by_cases hbe:b=s.size
         ·exact .inl ⟨hbe,by rw [hbe];exact endL_last s⟩
         ·have hb2:b<s.size:=by omega
          have hel:=endL_at s b s[b] hb2 (getElem_toList s b hb2);by_cases h47:s[b]=47
          ·exact .inr (.inl ⟨hb2,h47,by rw [hel,h47];rfl⟩)
          ·exact .inr (.inr ⟨hb2,h47,by rw [hel];simp [h47]⟩)
        rcases key with ⟨hbe,hel⟩ | ⟨hb2,h47,hel⟩ | ⟨hb2,h47,hel⟩
        ·have e0:((b:Int)==(s.size:Int))=true:=by rw [hbe];simp
         clear hbe
         cases hb1:endsL p.marks.fold p.es s.toList (j+1) b with
         | true =>
          rw [hb1] at HH;have HF:=lh (HIT.out hb1 hel);clear hb1 hel HIT;go_wp2_with fail;refine wp_region_after (by kernel_rfl) (by kernel_rfl) ?_
          repeat (go_big_quiet_step (exact After.of (HH _).out))
          refine wpQuiet_nil ?_;rintro _ ⟨y,rfl⟩;go_wp2_with fail;go_ret;exact ⟨ret_bool HF.out.symm,HX0.out.trans ((HX.out.trans HY.out).trans y.x)⟩
         | false =>
          rw [hb1] at HH;have HNN:=lh (HN2.out.succ (show (endsL p.marks.fold p.es s.toList (j+1) b&&endL s.toList b)=false from by rw [hb1];rfl));clear hb1 hel HIT;go_wp2_with fail;refine wp_region_after (by kernel_rfl) (by kernel_rfl) ?_
          repeat (go_big_quiet_step (exact After.of (HH _).out))
          refine wpQuiet_nil ?_;rintro _ ⟨y,rfl⟩;go_wp2_with fail;go_roundw
          case rel=>exact ⟨b+1,by omega,by omega,by go_num,HNN.out,HY.out.trans y.x⟩
          case measure=>simp [intOf] <;> omega
        ·have e0:((b:Int)==(s.size:Int))=false:=beq_eq_false_iff_ne.2 (by omega);have e1:((s[b].toNat:Int)==47)=true:=by rw [h47];rfl
         clear h47
         cases hb1:endsL p.marks.fold p.es s.toList (j+1) b with
         | true =>
          rw [hb1] at HH;have HF:=lh (HIT.out hb1 hel);clear hb1 hel HIT;go_wp2_with fail;refine wp_region_after (by kernel_rfl) (by kernel_rfl) ?_
          repeat (go_big_quiet_step (exact After.of (HH _).out))
          refine wpQuiet_nil ?_;rintro _ ⟨y,rfl⟩;go_wp2_with fail;go_ret;exact ⟨ret_bool HF.out.symm,HX0.out.trans ((HX.out.trans HY.out).trans y.x)⟩
         | false =>
          rw [hb1] at HH;have HNN:=lh (HN2.out.succ (show (endsL p.marks.fold p.es s.toList (j+1) b&&endL s.toList b)=false from by rw [hb1];rfl));clear hb1 hel HIT;go_wp2_with fail;refine wp_region_after (by kernel_rfl) (by kernel_rfl) ?_
          repeat (go_big_quiet_step (exact After.of (HH _).out))
          refine wpQuiet_nil ?_;rintro _ ⟨y,rfl⟩;go_wp2_with fail;go_roundw
          case rel=>exact ⟨b+1,by omega,by omega,by go_num,HNN.out,HY.out.trans y.x⟩
          case measure=>simp [intOf] <;> omega
        ·have e0:((b:Int)==(s.size:Int))=false:=beq_eq_false_iff_ne.2 (by omega);have e1:=toNat_ne47 h47;have HNN:=lh (HN2.out.succ (show (endsL p.marks.fold p.es s.toList (j+1) b&&endL s.toList b)=false from by rw [hel];simp));clear h47 hel HH HIT;go_wp2_with fail;refine wp_region_after (by kernel_rfl) (by kernel_rfl) ?_
         repeat (go_big_quiet_step (fail))
         refine wpQuiet_nil ?_;rintro _ ⟨y,rfl⟩;go_wp2_with fail;go_roundw
         case rel=>exact ⟨b+1,by omega,by omega,by go_num,HNN.out,HY.out.trans y.x⟩
         case measure=>simp [intOf] <;> omega
       ·obtain rfl:b=s.size+1:=by omega
        have HNN:=lh (HN.out.succ (show rowL p s.toList (j+1)=false from by
         unfold rowL;rw [HST.out,Bool.true_and,len_toList]
         exact HN2.out.any))
        go_wp2_with fail;go_roundw
        case rel=>exact ⟨j+1+1,by omega,by go_num,HNN.out,HX.out.trans HY.out⟩
        case measure=>simp [intOf] <;> omega
    ·have HNN:=lh (HN.out.succ (show rowL p s.toList a=false from by unfold rowL;rw [hst];rfl));rcases hcase with hr | ⟨j,hj,rfl,hr,h47⟩
     ·rw [hr] at c3;have d0:decide ((0:Int)<(a:Int))=true:=by rw [decide_eq_true_eq];omega
      clear hst hr;go_wp2_with fail;go_roundw
      case rel=>exact ⟨a+1,by omega,by go_num,HNN.out,HX.out⟩
      case measure=>simp [intOf] <;> omega
     ·rw [hr] at c3;have e47:((s[j].toNat:Int) != 47)=true:=by rw [bne,toNat_ne47 h47];rfl
      clear hst hr h47;go_wp2_with fail;go_roundw
      case rel=>exact ⟨j+1+1,by omega,by go_num,HNN.out,HX.out⟩
      case measure=>simp [intOf] <;> omega
   ·obtain rfl:a=s.size+1:=by omega
    have HF:=lh (show M=false from by rw [HM2.out];exact HN.out.any);clear HM2;go_wp2_with fail;go_ret;exact ⟨ret_bool HF.out.symm,HX0.out.trans HX.out⟩
end
section
def nlOf (s:ByteArray):List ByteArray:=Lib.splitB ⟨#[10]⟩ 0 (Lib.countB s ⟨#[10]⟩) s
def splitNl (cur:List UInt8):List UInt8->List (List UInt8)
 | []=>[cur]
 | c::cs=>if c=10 then cur::splitNl [] cs else splitNl (cur++[c]) cs
def nlL (l:List UInt8):List (List UInt8):=splitNl [] l
theorem splitNl_no:∀ (l cur:List UInt8),10∉l->splitNl cur l=[cur++l]
 | [],cur,_=>by simp [splitNl]
 | c::cs,cur,h=>by
  have hc:¬ c=10:=fun e=>h (by simp [e]);unfold splitNl;rw [if_neg hc,splitNl_no cs _ (fun hm=>h (by simp [hm]))];simp
theorem splitNl_at:∀ (a cur b:List UInt8),splitNl cur (a++10::b)=splitNl cur a++splitNl [] b
 | [],cur,b=>by simp [splitNl]
 | c::cs,cur,b=>by
  show splitNl cur (c::(cs++10::b))=_
  by_cases hc:c=10
  ·have e1:splitNl cur (c::(cs++10::b))=cur::splitNl [] (cs++10::b):=by rw [splitNl,if_pos hc]
   have e2:splitNl cur (c::cs)=cur::splitNl [] cs:=by rw [splitNl,if_pos hc]
   rw [e1,e2,splitNl_at cs [] b];rfl
  ·have e1:splitNl cur (c::(cs++10::b))=splitNl (cur++[c]) (cs++10::b):=by rw [splitNl,if_neg hc]
   have e2:splitNl cur (c::cs)=splitNl (cur++[c]) cs:=by rw [splitNl,if_neg hc]
   rw [e1,e2,splitNl_at cs _ b]
theorem index_nl:∀ (l:List UInt8),(Lib.index l [10]=-1/\10∉l)\/(∃ a b,l=a++10::b/\10∉a/\Lib.index l [10]=a.length)
 | []=>.inl ⟨rfl,by simp⟩
 | c::cs=>by
  by_cases hc:c=10
  ·subst hc;exact .inr ⟨[],cs,rfl,by simp,by simp [Lib.index,List.isPrefixOf]⟩
  ·have hp:List.isPrefixOf [10] (c::cs)=false:=by
    simp only [List.isPrefixOf,Bool.and_eq_false_iff,beq_eq_false_iff_ne];exact .inl (fun e=>hc e.symm)
   have e:Lib.index (c::cs) [10]=if Lib.index cs [10]==-1 then -1 else Lib.index cs [10]+1:=by
    rw [Lib.index,if_neg (by rw [hp];simp)]
   rcases index_nl cs with ⟨h1,h2⟩ | ⟨a,b,h1,h2,h3⟩
   ·refine .inl ⟨by rw [e,h1];rfl,?_⟩;intro hm;rcases List.mem_cons.1 hm with h | h
    ·exact hc h.symm
    ·exact h2 h
   ·refine .inr ⟨c::a,b,by rw [h1];rfl,?_,?_⟩
    ·intro hm;rcases List.mem_cons.1 hm with h | h
     ·exact hc h.symm
     ·exact h2 h
    ·rw [e,h3,if_neg (by rw [beq_iff_eq];omega)];simp
theorem splitK_nl:∀ (k:Nat) (l:List UInt8),l.count 10<=k->Lib.splitK [10] 0 k l=nlL l
 | 0,l,h=>by
  have:10∉l:=List.count_eq_zero.1 (by omega);unfold nlL;rw [splitNl_no l [] this];rfl
 | k+1,l,h=>by
  unfold Lib.splitK;rcases index_nl l with ⟨h1,h2⟩ | ⟨a,b,h1,h2,h3⟩
  ·rw [h1,if_pos (by rfl)];unfold nlL;rw [splitNl_no l [] h2];rfl
  ·rw [h3,if_neg (by rw [beq_iff_eq];omega)];have e1:(l.take (((a.length:Nat):Int).toNat+0))=a:=by rw [h1];simp
   have e2:(l.drop (((a.length:Nat):Int).toNat+[(10:UInt8)].length))=b:=by
    rw [h1];simp
   rw [e1,e2]
   have hc:b.count 10<=k:=by
    rw [h1,List.count_append,List.count_cons_self] at h;omega
   rw [splitK_nl k b hc,h1];unfold nlL;rw [splitNl_at,splitNl_no a [] h2];rfl
theorem nlOf_toList (s:ByteArray):(nlOf s).map (·.toList)=nlL s.toList:=by
 have h:=Lib.splitB_data ⟨#[10]⟩ 0 (Lib.countB s ⟨#[10]⟩) s;have e:Lib.countB s ⟨#[10]⟩=s.data.toList.count 10:=Lib.count_one 10 _;unfold nlOf;rw [show (fun x:ByteArray=>x.toList)=fun x=>x.data.toList from funext Lib.toList_data,h,Lib.toList_data];exact splitK_nl _ _ (by rw [e];exact Nat.le_refl _)
abbrev Txt:=List UInt8
def blankB (c:UInt8):Bool:=c==32||c==9
def trimT (l:Txt):Txt:=Lib.trimS l [32,9]
def linesL (l:Txt):List Txt:=(nlL l).map trimT
def findL:List (Txt×Txt)->Txt->Option Txt
 | [],_=>none
 | f::fs,n=>if f.1==n then some f.2 else findL fs n
structure RSt where
 pats:List Txt
 inc:Nat
def inclT:Txt:=[35,105,110,99,108,117,100,101,32]
def lineL (rd:Txt->RSt->Except Nat RSt) (st:RSt) (s:Txt):Except Nat RSt :=
 if s.isEmpty||Lib.hasPrefix s [47,47] then .ok st
 else if Lib.hasPrefix s inclT then rd (s.drop 9) ⟨st.pats,st.inc+1⟩
 else if st.pats.length==64 then .error 3
 else match patL s with
  | .error k=>.error k
  | .ok _=>.ok ⟨st.pats++[s],st.inc⟩
def foldL (f:RSt->Txt->Except Nat RSt):RSt->List Txt->Except Nat RSt
 | st,[]=>.ok st
 | st,s::l=>match f st s with
  | .error k=>.error k
  | .ok st'=>foldL f st' l
def readL (fs:List (Txt×Txt)):Nat->Txt->List Txt->RSt->Except Nat RSt
 | 0,_,_,_=>.error 3
 | n+1,name,within,st=>match findL fs name with
  | none=>.error 5
  | some t=>if within.contains name then .error 22
   else if decide (4<within.length+1)||decide (64<st.inc) then .error 3
   else foldL (lineL fun nm st=>readL fs n nm (within++[name]) st) st (linesL t)
def parseL (fs:List (Txt×Txt)) (name:Txt):Except Nat (List Txt):=match readL fs 5 name [] ⟨[],0⟩ with
 | .error k=>.error k
 | .ok st=>.ok st.pats
structure RSt.fine (st:RSt):Prop where
 inc:st.inc<=64
 len:st.pats.length<=64
 pat:∀ t∈st.pats,∃ p,patL t=.ok p
theorem foldL_fine {f:RSt->Txt->Except Nat RSt} (hf:∀ st s st',st.fine->f st s=.ok st'->st'.fine):∀ (l:List Txt) (st st':RSt),st.fine->foldL f st l=.ok st'->st'.fine
 | [],st,st',h,e=>by cases e;exact h
 | s::l,st,st',h,e=>by
  unfold foldL at e;split at e
  ·cases e
  ·rename_i st1 h1;exact foldL_fine hf l st1 st' (hf _ _ _ h h1) e
theorem lineL_fine {rd:Txt->RSt->Except Nat RSt} (hrd:∀ n st st',st.pats.length<=64->(∀ t∈st.pats,∃ p,patL t=.ok p)->rd n st=.ok st'->st'.fine) (st:RSt) (s:Txt) (st':RSt) (h:st.fine) (e:lineL rd st s=.ok st'):st'.fine:=by
 unfold lineL at e;split at e
 ·cases e;exact h
 ·split at e
  ·exact hrd _ ⟨st.pats,st.inc+1⟩ st' h.len h.pat e
  ·split at e
   ·cases e
   ·rename_i h64;split at e
    ·cases e
    ·rename_i p hp
     cases e
     refine ⟨h.inc,?_,fun t ht=>?_⟩
     ·have:=h.len;have:st.pats.length≠64:=by simpa using h64
      simp;omega
     ·rcases List.mem_append.1 ht with h1 | h1
      ·exact h.pat t h1
      ·rw [List.mem_singleton.1 h1];exact ⟨p,hp⟩
theorem readL_fine (fs:List (Txt×Txt)):∀ (n:Nat) (name:Txt) (within:List Txt) (st st':RSt),st.pats.length<=64->(∀ t∈st.pats,∃ p,patL t=.ok p)->readL fs n name within st=.ok st'->st'.fine
 | 0,_,_,_,_,_,_,e=>by cases e
 | n+1,name,within,st,st',h1,h2,e=>by
  unfold readL at e;split at e
  ·cases e
  ·split at e
   ·cases e
   ·split at e
    ·cases e
    ·rename_i hi;refine foldL_fine (fun st s st' hs e=>lineL_fine (fun nm st st' a b c=>readL_fine fs n nm (within++[name]) st st' a b c) st s st' hs e) _ _ _ ⟨?_,h1,h2⟩ e;simp at hi;omega
theorem nlOf_lines (s:ByteArray):(nlOf s).map (fun x=>trimT x.toList)=linesL s.toList:=by
 unfold linesL;rw [<-nlOf_toList,List.map_map];rfl
end
section
def TextsAt (w:World) (v:Value) (fs:List (ByteArray×ByteArray)):Prop:=∃ a cap,v=.slice a fs.length cap/\fs.length<=cap/\cap<=maxLen/\∀ (j:Nat) f,fs[j]?=some f->∃ g o,a=some ⟨g,o,none⟩/\w.cell? ⟨g,o+2*j,none⟩=some (.string f.1)/\w.cell? ⟨g,o+2*j+1,none⟩=some (.string f.2)
theorem TextsAt.ext {w w':World} {v:Value} {fs:List (ByteArray×ByteArray)} (h:TextsAt w v fs) (k:Ext w w'):TextsAt w' v fs:=by
 obtain ⟨a,cap,h1,h2,h3,h4⟩:=h;refine ⟨a,cap,h1,h2,h3,fun j f hj=>?_⟩;obtain ⟨g,o,h5,h6,h7⟩:=h4 j f hj;exact ⟨g,o,h5,(k.cell (lt_of_cell h6)).trans h6,(k.cell (lt_of_cell h7)).trans h7⟩
def fsL (fs:List (ByteArray×ByteArray)):List (Txt×Txt):=fs.map fun f=>(f.1.toList,f.2.toList)
theorem findL_none {fs:List (ByteArray×ByteArray)} {n:Txt} (h:∀ f∈fs,(f.1.toList==n)=false):findL (fsL fs) n=none:=by
 induction fs with
 | nil=>rfl
 | cons f fs ih =>
  show (if f.1.toList==n then some f.2.toList else findL (fsL fs) n)=none
  rw [h f List.mem_cons_self];exact ih fun g hg=>h g (List.mem_cons_of_mem _ hg)
theorem findL_at {fs:List (ByteArray×ByteArray)} {n:Txt} {k:Nat} {f:ByteArray×ByteArray} (hk:fs[k]?=some f) (hf:(f.1.toList==n)=true) (h:∀ (j:Nat) g,j<k->fs[j]?=some g->(g.1.toList==n)=false):findL (fsL fs) n=some f.2.toList:=by
 induction fs generalizing k with
 | nil=>cases hk
 | cons f0 fs ih =>
  show (if f0.1.toList==n then some f0.2.toList else findL (fsL fs) n)=_
  cases k with
  | zero=>cases hk;rw [hf];rfl
  | succ k =>
   rw [h 0 f0 (Nat.succ_pos _) rfl];exact ih hk fun j g hj hg=>h (j+1) g (by omega) hg
def findS (o:Option Txt):ByteArray×Bool:=match o with | none=>(⟨#[]⟩,false) | some t=>(bsL t,true)
set_option maxHeartbeats 1000000 in
theorem find_any (v:Value) (fs:List (ByteArray×ByteArray)) (n:ByteArray) (w:World) (hv:TextsAt w v fs) :
  Calls prog 149 #[v,.string n] w fun e w'=>e=.returned (.tuple #[.string (findS (findL (fsL fs) n.toList)).1,.bool (findS (findL (fsL fs) n.toList)).2])/\w'=w:=by
 obtain ⟨a,cap,rfl,h1,h2,hr⟩:=hv;unfold maxLen at h2;have HR:=lh hr;clear hr;go_enter func149,ntmps149;go_wp2_with fail;go_loop [6] (fun i=>∃ k:Nat,k<=fs.length/\i=.int .i64 k/\Hid (∀ (j:Nat) g,j<k->fs[j]?=some g->(g.1.toList==n.toList)=false)) (fun i=>fs.length - (intOf i).toNat)
 case atStart=>exact ⟨0,Nat.zero_le _,rfl,fun j g hj=>absurd hj (Nat.not_lt_zero _)⟩
 case round =>
  obtain ⟨k,hk,rfl,H⟩:=hrel;by_cases hlt:k<fs.length
  ·obtain ⟨f,hx⟩:∃ f,fs[k]?=some f:=⟨_,List.getElem?_eq_getElem hlt⟩;obtain ⟨g,o,rfl,c1,c2⟩:=HR.out k f hx;have c1':w.cell? ⟨g,o+k*2,none⟩=some (.string f.1):=by rw [Nat.mul_comm k 2];exact c1
   have c2':w.cell? ⟨g,o+k*2+1,none⟩=some (.string f.2):=by rw [Nat.mul_comm k 2];exact c2
   clear c1 c2
   cases hq:(f.1.toList==n.toList) with
   | true =>
    have HF:=lh (findL_at hx hq H.out);clear hx;go_wp2_with fail;go_ret2;rw [HF.out];exact ⟨ret_strb (ba_ext (by show _=(bsL _).toList;rw [bsL_toList])),rfl⟩
   | false =>
    have HN:=lh (show ∀ (j:Nat) g,j<k+1->fs[j]?=some g->(g.1.toList==n.toList)=false from fun j g' hj hg=>by
     rcases Nat.lt_or_ge j k with h | h
     ·exact H.out j g' h hg
     ·obtain rfl:j=k:=by omega
      rw [hx] at hg;cases hg;exact hq)
    clear hx;go_wp2_with fail;go_round
    case rel=>exact ⟨k+1,by omega,by go_num,HN.out⟩
    case measure=>simp [intOf] <;> omega
  ·obtain rfl:k=fs.length:=by omega
   have HF:=lh (show findL (fsL fs) n.toList=none from findL_none fun f hf=>by
    obtain ⟨j,hj,e⟩:=List.mem_iff_getElem.1 hf
    exact H.out j f hj (by rw [List.getElem?_eq_getElem hj,e]))
   go_wp2_with fail;go_ret2;rw [HF.out];exact ⟨rfl,rfl⟩
theorem blank_cases {c:UInt8} (h:blankB c=true):c=32\/c=9:=by simpa [blankB] using h
theorem blank_not {c:UInt8} (h:blankB c=false):((c.toNat:Int)==32)=false/\((c.toNat:Int)==9)=false:=by
 have h2:c≠32/\c≠9:=by simpa [blankB] using h
 exact ⟨toNat_ne h2.1,toNat_ne h2.2⟩
theorem blank_in (c:UInt8):[(32:UInt8),9].contains c=blankB c:=by
 simp [blankB,List.contains,List.elem]
 cases (c==32) <;> cases (c==9) <;> rfl
theorem extract_get (s:ByteArray) (f k j:Nat) (hk:k<=s.size) (b:UInt8) (h:(s.extract f k).toList[j]?=some b):∃ h:f+j<s.size,f+j<k/\s[f+j]=b:=by
 rw [toList_extract,List.getElem?_take] at h;split at h
 ·rename_i hj;rw [List.getElem?_drop] at h;have hl:f+j<s.size:=by omega
  refine ⟨hl,by omega,?_⟩;rw [getElem_toList s (f+j) hl] at h;exact Option.some.inj h
 ·cases h
theorem trim_at (s:ByteArray) (f a b k:Nat) (hfa:f<=a) (hab:a<=b) (hbk:b<=k) (hk:k<=s.size) (h1:∀ (j:Nat) (hj:j<s.size),f<=j->j<a->blankB s[j]=true)
  (h2:∀ (j:Nat) (hj:j<s.size),b<=j->j<k->blankB s[j]=true) (h3:a<k->∃ h:a<s.size,blankB s[a]=false) (h4:a<b->∃ h:b - 1<s.size,blankB s[b - 1]=false) :
  (s.extract a b).toList=trimT (s.extract f k).toList:=by
 have hl:(s.extract f k).toList.length=k - f:=by rw [len_toList];simp;omega
 unfold trimT Lib.trimS;by_cases e:a<b
 ·have hR:Lib.trimRightS (s.extract f k).toList [32,9]=(s.extract f k).toList.take (b - f):=by
   refine Lib.trimRightS_take _ _ _ (by omega) (fun j c hj hc=>?_) (fun c hp hc=>?_)
   ·obtain ⟨g1,g2,g3⟩:=extract_get s f k j hk c hc;rw [blank_in,<-g3];exact h2 _ g1 (by omega) g2
   ·obtain ⟨g1,g2,g3⟩:=extract_get s f k _ hk c hc;rw [blank_in,<-g3];obtain ⟨q1,q2⟩:=h4 e;have:f+(b - f - 1)=b - 1:=by omega
    simp only [this];exact q2
  have hL:Lib.trimLeftS ((s.extract f k).toList.take (b - f)) [32,9]=((s.extract f k).toList.take (b - f)).drop (a - f):=by
   have get:∀ (j:Nat) c,((s.extract f k).toList.take (b - f))[j]?=some c->(s.extract f k).toList[j]?=some c:=fun j c hc=>by
    rw [List.getElem?_take] at hc;split at hc
    ·exact hc
    ·cases hc
   refine Lib.trimLeftS_drop _ _ _ (by rw [List.length_take];omega) (fun j c hj hc=>?_) (fun c hc=>?_)
   ·obtain ⟨g1,g2,g3⟩:=extract_get s f k j hk c (get j c hc);rw [blank_in,<-g3];exact h1 _ g1 (by omega) (by omega)
   ·obtain ⟨g1,g2,g3⟩:=extract_get s f k _ hk c (get _ c hc);rw [blank_in,<-g3];obtain ⟨q1,q2⟩:=h3 (by omega);have:f+(a - f)=a:=by omega
    simp only [this];exact q2
  rw [hR,hL,toList_extract,toList_extract,List.take_take,Nat.min_eq_left (by omega),List.drop_take,List.drop_drop,show b - f - (a - f)=b - a from by omega,show f+(a - f)=a from by omega]
 ·obtain rfl:a=b:=by omega
  have hak:a=k:=by
   by_cases q:a<k
   ·obtain ⟨q1,q2⟩:=h3 q;rw [h2 a q1 (Nat.le_refl _) q] at q2
    cases q2
   ·omega
  have hR:Lib.trimRightS (s.extract f k).toList [32,9]=(s.extract f k).toList.take 0:=by
   refine Lib.trimRightS_take _ _ _ (by omega) (fun j c hj hc=>?_) (fun c hp hc=>absurd hp (Nat.lt_irrefl _));obtain ⟨g1,g2,g3⟩:=extract_get s f k j hk c hc;rw [blank_in,<-g3];exact h1 _ g1 (by omega) (by omega)
  rw [hR,toList_extract];simp [Lib.trimLeftS]
theorem splitNl_step (s:ByteArray) (f k:Nat) (hk:k<s.size) (hf:f<=k) :
  (s[k]=10->splitNl ((s.toList.drop f).take (k - f)) (s.toList.drop k)=(s.extract f k).toList::splitNl ((s.toList.drop (k+1)).take (k+1 - (k+1))) (s.toList.drop (k+1))) /\
  (s[k]≠10->splitNl ((s.toList.drop f).take (k - f)) (s.toList.drop k)=splitNl ((s.toList.drop f).take (k+1 - f)) (s.toList.drop (k+1))):=by
 have hk':k<s.toList.length:=by rw [len_toList];exact hk
 have hg:s.toList[k]=s[k]:=by
  have:=getElem_toList s k hk;rw [List.getElem?_eq_getElem hk'] at this;exact Option.some.inj this
 rw [List.drop_eq_getElem_cons hk',hg];constructor
 ·intro h;rw [splitNl,if_pos h,toList_extract];simp
 ·intro h;rw [splitNl,if_neg h,show k+1 - f=(k - f)+1 from by omega,List.take_add_one,List.getElem?_drop,show f+(k - f)=k from by omega,List.getElem?_eq_getElem hk',hg];rfl
end
end Go.Proofs.YtodickpibbbiiaaGreatDoor
