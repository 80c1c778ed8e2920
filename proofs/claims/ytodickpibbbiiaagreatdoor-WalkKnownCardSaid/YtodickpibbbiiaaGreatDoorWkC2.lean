import Derived.Test.YtodickpibbbiiaaGreatDoorWkC1
import Derived.Outline
import Derived.Lib.SlTrimSet
open Go.Proofs.Tryz
namespace Go.Proofs.YtodickpibbbiiaaGreatDoor
open Go.RowKit
section
theorem elementsL_ge:∀ {n:Nat} {acc es:List GE} {s:List UInt8},elementsL n acc s=some es->acc.length<=es.length/\(s≠[]->acc.length<es.length)
 | 0,_,_,_,h=>by cases h
 | n+1,acc,es,s,h=>by
  unfold elementsL at h;split at h
  ·rename_i hs;cases h;exact ⟨Nat.le_refl _,fun q=>absurd (List.isEmpty_iff.1 hs) q⟩
  ·split at h
   ·cases h
   ·have:=(elementsL_ge h).1;simp at this;exact ⟨by omega,fun _=>by omega⟩
theorem patL_ne {s:List UInt8} {p:Pat} (h:patL s=.ok p):p.es≠[]:=by
 unfold patL at h;split at h
 ·cases h
 ·split at h
  ·cases h
  ·split at h
   ·cases h
   ·rename_i hne;split at h
    ·cases h
    ·rename_i he
     cases h
     have:=(elementsL_ge he).2 (fun q=>hne (by rw [q];rfl));intro q;simp only at q;rw [q] at this;simp at this
theorem startL_pos (r:Bool) (s:ByteArray) (a:Nat) (c:UInt8) (h:0<a) (hc:s.toList[a - 1]?=some c):startL r s.toList a=(!r&&c==47):=by
 unfold startL;rw [hc,show (a==0)=false from beq_eq_false_iff_ne.2 (by omega)];simp
theorem endL_last (s:ByteArray):endL s.toList s.size=true:=by unfold endL;rw [len_toList];simp
theorem endL_at (s:ByteArray) (b:Nat) (c:UInt8) (h:b<s.size) (hc:s.toList[b]?=some c):endL s.toList b=(c==47):=by
 unfold endL;rw [hc,len_toList,show (b==s.size)=false from beq_eq_false_iff_ne.2 (by omega)];simp
set_option maxHeartbeats 4000000 in
set_option maxRecDepth 100000 in
theorem gmatch_any (bp:Nat) (t s:ByteArray) (p:Pat) (Far:Nat->Prop) (w:World) (hs:s.size<=maxLen) (hp:PatAt w Far bp t p) (hne:p.es≠[]) :
  Calls prog 133 #[.pointer (some ⟨bp,0,none⟩),.string s] w fun e w'=>e=.returned (.bool (matchL p s.toList))/\Ext w w':=by
 obtain ⟨v,l,hb,he,hl⟩:=hp.blk;obtain ⟨va,cap,rfl,h1,h2,h3⟩:=he.row;unfold maxLen at h2 hs
 have hll:0<l.length:=by
  rw [<-hl] at hne
  cases l with
  | nil=>exact absurd rfl hne
  | cons a b=>simp
 have c5:w.cell? ⟨bp,5,none⟩=some (.slice va l.length cap):=cell_of_block hb;have C4:=lh (show w.cell? ⟨bp,4,none⟩=some (.bool p.rooted) from cell_of_block hb);have hlt:=lt_of_block hb;have HP:=lh hp;have HM:=lh (matchL_rows p s.toList);clear he hl h3 hb hne hp;generalize matchL p s.toList=M at *;have nl:((l.length:Int)==0)=false:=beq_eq_false_iff_ne.2 (by omega);by_cases h160:160<s.size
 ·have HF:=lh (show M=false from by rw [HM.out,len_toList];simp;omega);clear HM;go_enter func133,ntmps133;go_wp2_with fail;go_ret;exact ⟨ret_bool HF.out.symm,Ext.refl _⟩
 ·have hs2:s.size<=160:=by omega
  have HM2:=lh (show M=(List.range (s.size+1)).any (rowL p s.toList) from by rw [HM.out,len_toList];simp [hs2]);clear HM;have HE:=fun a (wr:World) (ha:a<=s.size) (hx:Ext w wr)=>lh (ends_any bp t s p a Far wr (by omega) ha (HP.out.ext hx));go_enter func133,ntmps133;go_wp2_with fail;go_loopw [5] (fun fv wr=>Hid (∃ a:Nat,a<=s.size+1/\fv=.int .i64 a/\NoneOf a (rowL p s.toList)/\Ext w wr)) (fun fv _=>s.size+1 - (intOf fv).toNat)
  case atStart=>exact ⟨0,by omega,rfl,NoneOf.zero _,Ext.refl _⟩
  case round =>
   obtain ⟨a,ha,rfl,hN,hX⟩:=hrel.out;clear hrel;have HN:=lh hN;have HX:=lh hX;have c4:wr.cell? ⟨bp,4,none⟩=some (.bool p.rooted):=(hX.cell hlt).trans C4.out;clear hN hX;by_cases has:a<=s.size
   ·have key:(startL p.rooted s.toList a=true/\(a=0\/∃ (j:Nat) (hj:j<s.size),a=j+1/\p.rooted=false/\s[j]=47))\/(startL p.rooted s.toList a=false/\0<a/\(p.rooted=true\/∃ (j:Nat) (hj:j<s.size),a=j+1/\p.rooted=false/\s[j]≠47)):=by
     rcases Nat.eq_zero_or_pos a with h0 | h0
     ·subst h0;exact .inl ⟨rfl,.inl rfl⟩
     ·have hc:=startL_pos p.rooted s a (s[a - 1]'(by omega)) h0 (getElem_toList s (a - 1) (by omega))
      cases hr:p.rooted with
      | true=>rw [hr] at hc;exact .inr ⟨hc,h0,.inl rfl⟩
      | false =>
       rw [hr] at hc;by_cases h47:s[a - 1]'(by omega)=47
       ·exact .inl ⟨by rw [hc,h47];rfl,.inr ⟨a - 1,by omega,by omega,rfl,h47⟩⟩
       ·exact .inr ⟨by rw [hc];simp [h47],h0,.inr ⟨a - 1,by omega,by omega,rfl,h47⟩⟩
    rcases key with ⟨hst,hcase⟩ | ⟨hst,h0,hcase⟩
    ·have HST:=lh hst;rcases hcase with rfl | ⟨j,hj,rfl,hr,h47⟩
     ·clear hst;go_wp2_with fail;refine ((HE 0 _ (by omega) HX.out).out).mono ?_;rintro e w1 ⟨v,rfl,⟨g,rfl,hg⟩,x1⟩;have HG:=lh hg;have HX1:=lh (HX.out.trans x1);clear hg x1 c4;obtain ⟨wo,rfl⟩:∃ wo:World,wo=wr:=⟨_,rfl⟩;go_wp2_with fail;go_loopw [49] (fun iv wr=>Hid (∃ b:Nat,b<=s.size+1/\iv=.int .i64 b/\NoneOf b (fun b=>endsL p.marks.fold p.es s.toList (0) b&&endL s.toList b)/\Ext w1 wr)) (fun iv _=>s.size+1 - (intOf iv).toNat)
      case atStart=>exact ⟨0,by omega,rfl,NoneOf.zero _,Ext.refl _⟩
      case round =>
       obtain ⟨b,hb,rfl,hN,hY⟩:=hrel.out;clear hrel;have HN2:=lh hN;have HY:=lh hY;by_cases hbs:b<s.size+1
       ·have c1:wr.cell? ⟨g,b,none⟩=some (.bool (endsL p.marks.fold p.es s.toList (0) b)):=(cell_of_block ((hY.block (lt_of_block HG.out)).trans HG.out)).trans (blA_at _ _ _ _ hbs hbs);clear hN hY
        cases hb1:endsL p.marks.fold p.es s.toList (0) b with
        | false =>
         rw [hb1] at c1;have HNN:=lh (HN2.out.succ (show (endsL p.marks.fold p.es s.toList (0) b&&endL s.toList b)=false from by rw [hb1];rfl));clear hb1;go_wp2_with fail;go_roundw
         case rel=>exact ⟨b+1,by omega,by go_num,HNN.out,HY.out⟩
         case measure=>simp [intOf] <;> omega
        | true =>
         rw [hb1] at c1
         have hit:endL s.toList b=true->M=true:=fun q=>by
          rw [HM2.out];refine any_of (i:=0) (by omega) ?_;unfold rowL;rw [HST.out,Bool.true_and,len_toList];exact any_of hbs (by rw [hb1,q];rfl)
         have HH:=lh hit;clear hit;by_cases hbe:b=s.size
         ·have HF:=lh (HH.out (by rw [hbe];exact endL_last s));have e0:((b:Int)==s.size)=true:=by rw [hbe];simp
          clear hb1 HH hbe;go_wp2_with fail;go_ret;exact ⟨ret_bool HF.out.symm,HX1.out.trans HY.out⟩
         ·have e0:((b:Int)==s.size)=false:=beq_eq_false_iff_ne.2 (by omega);have hb2:b<s.size:=by omega
          have hel:=endL_at s b s[b] hb2 (getElem_toList s b hb2);by_cases h47:s[b]=47
          ·have HF:=lh (HH.out (by rw [hel,h47];rfl));have e1:((s[b].toNat:Int)==47)=true:=by rw [h47];rfl
           clear hb1 HH hel h47 hbe;go_wp2_with fail;go_ret;exact ⟨ret_bool HF.out.symm,HX1.out.trans HY.out⟩
          ·have HNN:=lh (HN2.out.succ (show (endsL p.marks.fold p.es s.toList (0) b&&endL s.toList b)=false from by rw [hel];simp [h47]));have e1:=toNat_ne47 h47;clear hb1 HH hel h47 hbe;go_wp2_with fail;go_roundw
           case rel=>exact ⟨b+1,by omega,by go_num,HNN.out,HY.out⟩
           case measure=>simp [intOf] <;> omega
       ·obtain rfl:b=s.size+1:=by omega
        have HNN:=lh (HN.out.succ (show rowL p s.toList (0)=false from by
         unfold rowL;rw [HST.out,Bool.true_and,len_toList]
         exact HN2.out.any))
        clear hN hY;go_wp2_with fail;go_roundw
        case rel=>exact ⟨0+1,by omega,by go_num,HNN.out,HX1.out.trans HY.out⟩
        case measure=>simp [intOf] <;> omega
     ·rw [hr] at c4;have e47:((s[j].toNat:Int) != 47)=false:=by rw [h47];rfl
      clear hst hr h47;go_wp2_with fail;refine ((HE (j+1) _ (by omega) HX.out).out).mono ?_;rintro e w1 ⟨v,rfl,⟨g,rfl,hg⟩,x1⟩;have HG:=lh hg;have HX1:=lh (HX.out.trans x1);clear hg x1 c4;obtain ⟨wo,rfl⟩:∃ wo:World,wo=wr:=⟨_,rfl⟩;go_wp2_with fail;go_loopw [49] (fun iv wr=>Hid (∃ b:Nat,b<=s.size+1/\iv=.int .i64 b/\NoneOf b (fun b=>endsL p.marks.fold p.es s.toList (j+1) b&&endL s.toList b)/\Ext w1 wr)) (fun iv _=>s.size+1 - (intOf iv).toNat)
      case atStart=>exact ⟨0,by omega,rfl,NoneOf.zero _,Ext.refl _⟩
      case round =>
       obtain ⟨b,hb,rfl,hN,hY⟩:=hrel.out;clear hrel;have HN2:=lh hN;have HY:=lh hY;by_cases hbs:b<s.size+1
       ·have c1:wr.cell? ⟨g,b,none⟩=some (.bool (endsL p.marks.fold p.es s.toList (j+1) b)):=(cell_of_block ((hY.block (lt_of_block HG.out)).trans HG.out)).trans (blA_at _ _ _ _ hbs hbs);clear hN hY
        cases hb1:endsL p.marks.fold p.es s.toList (j+1) b with
        | false =>
         rw [hb1] at c1;have HNN:=lh (HN2.out.succ (show (endsL p.marks.fold p.es s.toList (j+1) b&&endL s.toList b)=false from by rw [hb1];rfl));clear hb1;go_wp2_with fail;go_roundw
         case rel=>exact ⟨b+1,by omega,by go_num,HNN.out,HY.out⟩
         case measure=>simp [intOf] <;> omega
        | true =>
         rw [hb1] at c1
         have hit:endL s.toList b=true->M=true:=fun q=>by
          rw [HM2.out];refine any_of (i:=j+1) (by omega) ?_;unfold rowL;rw [HST.out,Bool.true_and,len_toList];exact any_of hbs (by rw [hb1,q];rfl)
         have HH:=lh hit;clear hit;by_cases hbe:b=s.size
         ·have HF:=lh (HH.out (by rw [hbe];exact endL_last s));have e0:((b:Int)==s.size)=true:=by rw [hbe];simp
          clear hb1 HH hbe;go_wp2_with fail;go_ret;exact ⟨ret_bool HF.out.symm,HX1.out.trans HY.out⟩
         ·have e0:((b:Int)==s.size)=false:=beq_eq_false_iff_ne.2 (by omega);have hb2:b<s.size:=by omega
          have hel:=endL_at s b s[b] hb2 (getElem_toList s b hb2);by_cases h47:s[b]=47
          ·have HF:=lh (HH.out (by rw [hel,h47];rfl));have e1:((s[b].toNat:Int)==47)=true:=by rw [h47];rfl
           clear hb1 HH hel h47 hbe;go_wp2_with fail;go_ret;exact ⟨ret_bool HF.out.symm,HX1.out.trans HY.out⟩
          ·have HNN:=lh (HN2.out.succ (show (endsL p.marks.fold p.es s.toList (j+1) b&&endL s.toList b)=false from by rw [hel];simp [h47]));have e1:=toNat_ne47 h47;clear hb1 HH hel h47 hbe;go_wp2_with fail;go_roundw
           case rel=>exact ⟨b+1,by omega,by go_num,HNN.out,HY.out⟩
           case measure=>simp [intOf] <;> omega
       ·obtain rfl:b=s.size+1:=by omega
        have HNN:=lh (HN.out.succ (show rowL p s.toList (j+1)=false from by
         unfold rowL;rw [HST.out,Bool.true_and,len_toList]
         exact HN2.out.any))
        clear hN hY;go_wp2_with fail;go_roundw
        case rel=>exact ⟨j+1+1,by omega,by go_num,HNN.out,HX1.out.trans HY.out⟩
        case measure=>simp [intOf] <;> omega
    ·have HNN:=lh (HN.out.succ (show rowL p s.toList a=false from by unfold rowL;rw [hst];rfl));rcases hcase with hr | ⟨j,hj,rfl,hr,h47⟩
     ·rw [hr] at c4;have d0:decide ((0:Int)<(a:Int))=true:=by rw [decide_eq_true_eq];omega
      clear hst hr HE;go_wp2_with fail;go_roundw
      case rel=>exact ⟨a+1,by omega,by go_num,HNN.out,HX.out⟩
      case measure=>simp [intOf] <;> omega
     ·rw [hr] at c4;have e47:((s[j].toNat:Int) != 47)=true:=by rw [bne,toNat_ne47 h47];rfl
      clear hst hr h47 HE;go_wp2_with fail;go_roundw
      case rel=>exact ⟨j+1+1,by omega,by go_num,HNN.out,HX.out⟩
      case measure=>simp [intOf] <;> omega
   ·obtain rfl:a=s.size+1:=by omega
    have HF:=lh (show M=false from by rw [HM2.out];exact HN.out.any);clear HM2 HE;go_wp2_with fail;go_ret;exact ⟨ret_bool HF.out.symm,HX.out⟩
theorem negated_any (bp:Nat) (t:ByteArray) (p:Pat) (Far:Nat->Prop) (w:World) (hp:PatAt w Far bp t p) :
  Calls prog 134 #[.pointer (some ⟨bp,0,none⟩)] w fun e w'=>e=.returned (.bool p.marks.neg)/\w'=w:=by
 obtain ⟨v,l,hb,he,hl⟩:=hp.blk;have c:w.cell? ⟨bp,1,none⟩=some (.bool p.marks.neg):=cell_of_block hb;clear he hl hp hb;go_enter func134,ntmps134;go_wp2_with fail;go_ret;exact ⟨rfl,rfl⟩
theorem deletable_any (bp:Nat) (t:ByteArray) (p:Pat) (Far:Nat->Prop) (w:World) (hp:PatAt w Far bp t p) :
  Calls prog 135 #[.pointer (some ⟨bp,0,none⟩)] w fun e w'=>e=.returned (.bool p.marks.del)/\w'=w:=by
 obtain ⟨v,l,hb,he,hl⟩:=hp.blk;have c:w.cell? ⟨bp,2,none⟩=some (.bool p.marks.del):=cell_of_block hb;clear he hl hp hb;go_enter func135,ntmps135;go_wp2_with fail;go_ret;exact ⟨rfl,rfl⟩
end
section
def RElt (w:World) (Far:Nat->Prop):GE->Array Value->Prop
 | .all,cs=>cs=#[.int .i64 1,.int .u8 0,.bool false,.slice none 0 0]
 | .some,cs=>cs=#[.int .i64 2,.int .u8 0,.bool false,.slice none 0 0]
 | .any,cs=>cs=#[.int .i64 3,.int .u8 0,.bool false,.slice none 0 0]
 | .set neg rs,cs=>∃ v,cs=#[.int .i64 4,.int .u8 0,.bool neg,v]/\RangesFrom w Far v rs
 | .byt c,cs=>cs=#[.int .i64 5,.int .u8 c.toNat,.bool false,.slice none 0 0]
def RShape (cs:Array Value):Prop:=∃ k b nn a n c,cs=#[.int .i64 k,.int .u8 b,.bool nn,.slice a n c]
structure RClsInv (w:World) (neg:Bool) (wr:World) (v:Value) (rs:List (UInt8×UInt8)):Prop where
 ext:Ext w wr
 res:wr.heap[w.heap.size]?=some (.cells #[.int .i64 0,.int .u8 0,.bool false,.slice none 0 0] 303 (0,0))
 x:wr.heap[w.heap.size+1]?=some (.cells #[.int .i64 4,.int .u8 0,.bool neg,v] 303 (0,0))
 own:wr.ownsRow (w.heap.size+2) 337 2 v rs.length (flatR rs)
end
section
def flatC (l:List (GE×Array Value)):List Value:=l.flatMap fun x=>x.2.toList
structure REltsAt (w:World) (Far:Nat->Prop) (v:Value) (l:List (GE×Array Value)):Prop where
 row:∃ a cap,v=.slice a l.length cap/\l.length<=cap/\cap<=maxLen/\∀ (j:Nat) x,l[j]?=some x->∃ g,a=some ⟨g,0,none⟩/\Far g/\∀ (i:Nat) u,x.2[i]?=some u->w.cell? ⟨g,4*j+i,none⟩=some u
 elts:∀ x∈l,RElt w Far x.1 x.2/\RShape x.2
structure RParInv (w:World) (m:Marks) (r:Bool) (wr:World) (v:Value) (l:List (GE×Array Value)):Prop where
 ext:Ext w wr
 res:wr.heap[w.heap.size]?=some (.cells #[.bool false,.bool false,.bool false,.bool false,.slice none 0 0] 247 (0,0))
 p:wr.heap[w.heap.size+1]?=some (.cells #[.bool m.neg,.bool m.fold,.bool m.del,.bool r,v] 247 (0,0))
 own:wr.ownsRow (w.heap.size+2) 303 4 v l.length (flatC l)
 elts:∀ x∈l,RElt wr (fun b=>w.heap.size+2<=b/\some b≠v.ownBlock) x.1 x.2/\RShape x.2
structure RMkInv (w:World) (m:Marks) (wr:World):Prop where
 ext:Ext w wr
 res:wr.heap[w.heap.size]?=some (.cells #[.bool false,.bool false,.bool false,.bool false,.slice none 0 0] 247 (0,0))
 p:wr.heap[w.heap.size+1]?=some (.cells #[.bool m.neg,.bool m.fold,.bool m.del,.bool false,.slice none 0 0] 247 (0,0))
end
section
end
section
def brA (n k:Nat) (f:Nat->Bool):Array Value:=blA n n fun i=>decide (k<=i)&&f i
structure WhInv (w:World) (T n m q:Nat) (f:Nat->Nat->Bool) (wr:World):Prop where
 ext:Ext w wr
 tab:∃ A,wr.heap[T]?=some (.cells A 290 (0,0))/\A.size=n/\(q<n->∃ r,A[q]?=some (.slice (some ⟨r,0,none⟩) m m)/\T<r/\wr.heap[r]?=some (.cells (blA m m (f q)) 4 (0,0)))
 ge:w.heap.size<=T
structure WrInv (w:World) (T R n m q k:Nat) (f:Nat->Nat->Bool) (wr:World):Prop where
 ext:Ext w wr
 ge:w.heap.size<=T
 lt:T<R
 tab:∃ A,wr.heap[T]?=some (.cells A 290 (0,0))/\A.size=n/\A[q]?=some (.slice (some ⟨R,0,none⟩) m m)/\(q+1<n->∃ r,A[q+1]?=some (.slice (some ⟨r,0,none⟩) m m)/\T<r/\r≠R/\wr.heap[r]?=some (.cells (blA m m (f (q+1))) 4 (0,0)))
 row:wr.heap[R]?=some (.cells (brA m k (f q)) 4 (0,0))
end
section
end
section
def nlOf (s:ByteArray):List ByteArray:=Lib.splitB ⟨#[10]⟩ 0 (Lib.countB s ⟨#[10]⟩) s
def splitNl (cur:List UInt8):List UInt8->List (List UInt8)
 | []=>[cur]
 | c::cs=>if c=10 then cur::splitNl [] cs else splitNl (cur++[c]) cs
def nlL (l:List UInt8):List (List UInt8):=splitNl [] l
theorem splitNl_no:∀ (l cur:List UInt8),10∉l->splitNl cur l=[cur++l]
 | [],cur,_=>by simp [splitNl]
 | c::cs,cur,h=>by
  have hc:¬ c=10:=fun e=>h (by simp [e]);unfold splitNl;rw [if_neg hc,splitNl_no cs _ (fun hm=>h (by simp [hm]))];simp
theorem splitNl_at:∀ (a cur b:List UInt8),splitNl cur (a++10::b)=splitNl cur a++splitNl [] b
 | [],cur,b=>by simp [splitNl]
 | c::cs,cur,b=>by
  show splitNl cur (c::(cs++10::b))=_
  by_cases hc:c=10
  ·have e1:splitNl cur (c::(cs++10::b))=cur::splitNl [] (cs++10::b):=by rw [splitNl,if_pos hc]
   have e2:splitNl cur (c::cs)=cur::splitNl [] cs:=by rw [splitNl,if_pos hc]
   rw [e1,e2,splitNl_at cs [] b];rfl
  ·have e1:splitNl cur (c::(cs++10::b))=splitNl (cur++[c]) (cs++10::b):=by rw [splitNl,if_neg hc]
   have e2:splitNl cur (c::cs)=splitNl (cur++[c]) cs:=by rw [splitNl,if_neg hc]
   rw [e1,e2,splitNl_at cs _ b]
theorem index_nl:∀ (l:List UInt8),(Lib.index l [10]=-1/\10∉l)\/(∃ a b,l=a++10::b/\10∉a/\Lib.index l [10]=a.length)
 | []=>.inl ⟨rfl,by simp⟩
 | c::cs=>by
  by_cases hc:c=10
  ·subst hc;exact .inr ⟨[],cs,rfl,by simp,by simp [Lib.index,List.isPrefixOf]⟩
  ·have hp:List.isPrefixOf [10] (c::cs)=false:=by
    simp only [List.isPrefixOf,Bool.and_eq_false_iff,beq_eq_false_iff_ne];exact .inl (fun e=>hc e.symm)
   have e:Lib.index (c::cs) [10]=if Lib.index cs [10]==-1 then -1 else Lib.index cs [10]+1:=by
    rw [Lib.index,if_neg (by rw [hp];simp)]
   rcases index_nl cs with ⟨h1,h2⟩ | ⟨a,b,h1,h2,h3⟩
   ·refine .inl ⟨by rw [e,h1];rfl,?_⟩;intro hm;rcases List.mem_cons.1 hm with h | h
    ·exact hc h.symm
    ·exact h2 h
   ·refine .inr ⟨c::a,b,by rw [h1];rfl,?_,?_⟩
    ·intro hm;rcases List.mem_cons.1 hm with h | h
     ·exact hc h.symm
     ·exact h2 h
    ·rw [e,h3,if_neg (by rw [beq_iff_eq];omega)];simp
theorem splitK_nl:∀ (k:Nat) (l:List UInt8),l.count 10<=k->Lib.splitK [10] 0 k l=nlL l
 | 0,l,h=>by
  have:10∉l:=List.count_eq_zero.1 (by omega);unfold nlL;rw [splitNl_no l [] this];rfl
 | k+1,l,h=>by
  unfold Lib.splitK;rcases index_nl l with ⟨h1,h2⟩ | ⟨a,b,h1,h2,h3⟩
  ·rw [h1,if_pos (by rfl)];unfold nlL;rw [splitNl_no l [] h2];rfl
  ·rw [h3,if_neg (by rw [beq_iff_eq];omega)];have e1:(l.take (((a.length:Nat):Int).toNat+0))=a:=by rw [h1];simp
   have e2:(l.drop (((a.length:Nat):Int).toNat+[(10:UInt8)].length))=b:=by
    rw [h1];simp
   rw [e1,e2]
   have hc:b.count 10<=k:=by
    rw [h1,List.count_append,List.count_cons_self] at h;omega
   rw [splitK_nl k b hc,h1];unfold nlL;rw [splitNl_at,splitNl_no a [] h2];rfl
theorem nlOf_toList (s:ByteArray):(nlOf s).map (·.toList)=nlL s.toList:=by
 have h:=Lib.splitB_data ⟨#[10]⟩ 0 (Lib.countB s ⟨#[10]⟩) s;have e:Lib.countB s ⟨#[10]⟩=s.data.toList.count 10:=Lib.count_one 10 _;unfold nlOf;rw [show (fun x:ByteArray=>x.toList)=fun x=>x.data.toList from funext Lib.toList_data,h,Lib.toList_data];exact splitK_nl _ _ (by rw [e];exact Nat.le_refl _)
abbrev Txt:=List UInt8
def trimT (l:Txt):Txt:=Lib.trimS l [32,9]
def linesL (l:Txt):List Txt:=(nlL l).map trimT
def findL:List (Txt×Txt)->Txt->Option Txt
 | [],_=>none
 | f::fs,n=>if f.1==n then some f.2 else findL fs n
structure RSt where
 pats:List Txt
 inc:Nat
def inclT:Txt:=[35,105,110,99,108,117,100,101,32]
def lineL (rd:Txt->RSt->Except Nat RSt) (st:RSt) (s:Txt):Except Nat RSt :=
 if s.isEmpty||Lib.hasPrefix s [47,47] then .ok st
 else if Lib.hasPrefix s inclT then rd (s.drop 9) ⟨st.pats,st.inc+1⟩
 else if st.pats.length==64 then .error 3
 else match patL s with
  | .error k=>.error k
  | .ok _=>.ok ⟨st.pats++[s],st.inc⟩
def foldL (f:RSt->Txt->Except Nat RSt):RSt->List Txt->Except Nat RSt
 | st,[]=>.ok st
 | st,s::l=>match f st s with
  | .error k=>.error k
  | .ok st'=>foldL f st' l
def readL (fs:List (Txt×Txt)):Nat->Txt->List Txt->RSt->Except Nat RSt
 | 0,_,_,_=>.error 3
 | n+1,name,within,st=>match findL fs name with
  | none=>.error 5
  | some t=>if within.contains name then .error 22
   else if decide (4<within.length+1)||decide (64<st.inc) then .error 3
   else foldL (lineL fun nm st=>readL fs n nm (within++[name]) st) st (linesL t)
def parseL (fs:List (Txt×Txt)) (name:Txt):Except Nat (List Txt):=match readL fs 5 name [] ⟨[],0⟩ with
 | .error k=>.error k
 | .ok st=>.ok st.pats
structure RSt.fine (st:RSt):Prop where
 inc:st.inc<=64
 len:st.pats.length<=64
 pat:∀ t∈st.pats,∃ p,patL t=.ok p
theorem nlOf_lines (s:ByteArray):(nlOf s).map (fun x=>trimT x.toList)=linesL s.toList:=by
 unfold linesL;rw [<-nlOf_toList,List.map_map];rfl
end
section
def TextsAt (w:World) (v:Value) (fs:List (ByteArray×ByteArray)):Prop:=∃ a cap,v=.slice a fs.length cap/\fs.length<=cap/\cap<=maxLen/\∀ (j:Nat) f,fs[j]?=some f->∃ g o,a=some ⟨g,o,none⟩/\w.cell? ⟨g,o+2*j,none⟩=some (.string f.1)/\w.cell? ⟨g,o+2*j+1,none⟩=some (.string f.2)
def fsL (fs:List (ByteArray×ByteArray)):List (Txt×Txt):=fs.map fun f=>(f.1.toList,f.2.toList)
end
end Go.Proofs.YtodickpibbbiiaaGreatDoor
