import Derived.Test.YtodickpibbbiiaaGreatDoorAgE1
import Derived.Test.YtodickpibbbiiaaGreatDoorAgD2
import Derived.Sort.Walk0
import Derived.Laws.CopyOwn
open Go.Proofs.Tryz
namespace Go.Proofs.YtodickpibbbiiaaGreatDoor
open Go.RowKit
section
end
section
end
section
end
section
end
section
end
section
structure DoFit (D:Dk):Prop where
 ok:DkOk D
 file:FileOk D.live
 len:D.log.length<=1073741824
 lo:-4611686018427387904<=D.left
 hi:D.left<=9223372036854775807
end
section
def kidsL (l:Nodes) (p:ByteArray):List ByteArray:=(l.filter fun x=>decide (parentR x.1=p)).map fun x=>baseR x.1
theorem cmpL_ahead (a b c:List UInt8):cmpL (a++b) (a++c)=cmpL b c:=by
 induction a with
 | nil=>rfl
 | cons x a ih=>simpa [cmpL] using ih
theorem cmp_less:∀ (b c:List UInt8),47∉b->47∉c->cmpL b c=-1->Go.Op.bytesLess b c=true
 | [],[],_,_,h=>by simp [cmpL] at h
 | [],_::_,_,_,_=>rfl
 | _::_,[],_,_,h=>by simp [cmpL] at h
 | x::b,y::c,hb,hc,h=>by
  unfold cmpL at h;unfold Go.Op.bytesLess;simp only [List.mem_cons,not_or] at hb hc;by_cases e:x=y
  ·rw [if_pos e] at h;rw [cmp_less b c hb.2 hc.2 h,e];simp
  ·rw [if_neg e,if_neg (Ne.symm hb.1),if_neg (Ne.symm hc.1)] at h;split at h
   ·rename_i hlt;rw [decide_eq_true (UInt8.lt_iff_toNat_lt.2 hlt),Bool.true_or]
   ·cases h
theorem base_no (s:ByteArray):47∉(baseS s).toList:=by
 rw [(split_toList s).2];rcases last_slash s.toList with h | ⟨a,b,e,hb⟩
 ·rw [baseL_no h];exact h
 ·rw [e,baseL_at a b hb];exact hb
theorem part_parent {s:ByteArray} (h:mayB s=true):((parentS s).toList.isEmpty=true->baseS s=s)/\((parentS s).toList.isEmpty=false->s.toList=(parentS s).toList++47::(baseS s).toList):=by
 have hsp:=split_toList s;rcases last_slash s.toList with hno | ⟨a,b,hl,hb⟩
 ·rw [aheadL_no hno,baseL_no hno] at hsp;exact ⟨fun _=>ba_ext hsp.2,fun hf=>by rw [hsp.1] at hf;cases hf⟩
 ·have e1:aheadL s.toList=a:=by rw [hl];exact aheadL_at a b hb
  have e2:baseL s.toList=b:=by rw [hl];exact baseL_at a b hb
  rw [e1,e2] at hsp;refine ⟨fun ht=>?_,fun _=>by rw [hsp.1,hsp.2];exact hl⟩;exfalso;rw [hsp.1] at ht;obtain rfl:a=[]:=by cases a with | nil=>rfl | cons x y=>cases ht
  rw [mayB_list,hl] at h;unfold mayL at h;simp only [Bool.and_eq_true] at h;have:=List.all_eq_true.1 h.2.2 [] (by simp [piecesL,splitAux])
  cases this
theorem name_less {x y:ByteArray} (hx:mayB x=true) (hy:mayB y=true) (hp:parentS x=parentS y) (h:cmpL x.toList y.toList=-1):Go.Op.bytesLess (baseS x).toList (baseS y).toList=true:=by
 refine cmp_less _ _ (base_no x) (base_no y) ?_
 cases he:(parentS x).toList.isEmpty with
 | true =>
  rw [(part_parent hx).1 he,(part_parent hy).1 (by rw [<-hp];exact he)];exact h
 | false =>
  have h1:=(part_parent hx).2 he;have h2:=(part_parent hy).2 (by rw [<-hp];exact he);rw [<-hp] at h2;rw [h1,h2,cmpL_ahead] at h
  simpa [cmpL] using h
theorem kids_rise {l:Nodes} {room:Nat} (T:TreeOk l room) (p:ByteArray):(kidsL l p).Pairwise fun a b=>Go.Op.bytesLess a.toList b.toList=true:=by
 unfold kidsL;rw [List.pairwise_map];have hs:(l.filter fun x=>decide (parentR x.1=p)).Pairwise fun x y=>cmpL x.1.toList y.1.toList=-1:=List.Pairwise.filter _ T.sorted;refine List.Pairwise.imp_of_mem (fun {x y} hx hy h=>?_) hs;obtain ⟨hx1,hx2⟩:=List.mem_filter.1 hx;obtain ⟨hy1,hy2⟩:=List.mem_filter.1 hy;have mx:=T.may x hx1;have my:=T.may y hy1;have e1:=of_decide_eq_true hx2;have e2:=of_decide_eq_true hy2;rw [parentR_may mx] at e1;rw [parentR_may my] at e2
 show Go.Op.bytesLess (baseR x.1).toList (baseR y.1).toList=true
 unfold baseR;rw [if_pos mx,if_pos my];exact name_less mx my (e1.trans e2.symm) h
theorem names_kids (l:Nodes) (p:ByteArray):namesL p (keysD l)=(kidsL l p).map fun s=>s.data.toList:=by
 unfold namesL keysD kidsL;rw [List.filter_map,List.map_map,List.map_map];rfl
theorem list_kids {l:Nodes} {room:Nat} (T:TreeOk l room) (p:ByteArray):listS l p=kidsL l p:=by
 unfold listS;rw [names_kids,List.mergeSort_of_pairwise]
 ·rw [List.map_map];exact List.map_id _
 ·rw [List.pairwise_map];refine (kids_rise T p).imp fun {a b} h=>?_;rw [Go.Proofs.bytesLess_eq,Lib.toList_data,Lib.toList_data,decide_eq_true_eq] at h;rw [decide_eq_true_eq];exact List.le_of_lt h
end
section
end
section
set_option maxRecDepth 100000 in
set_option maxHeartbeats 2000000 in
theorem rsame_true (l:List ByteArray) (a b:Option Addr) (c1 c2:Nat) (w:World) (h1:TextsOwn w (.slice a l.length c1) l) (h2:TextsOwn w (.slice b l.length c2) l) (q1:l.length<=c1) (q2:c1<=9223372036854775807) :
  Calls prog 40 #[.slice a l.length c1,.slice b l.length c2] w fun e w'=>e=.returned (.bool true)/\Ext w w':=by
 have HG1:=lh (h1.get a _ _ rfl);have HG2:=lh (h2.get b _ _ rfl);obtain ⟨n,hn⟩:∃ n,n=l.length:=⟨_,rfl⟩;have HL:=lh hn;rw [<-hn] at q1 ⊢;clear h1 h2 hn;go_enter func40,ntmps40;go_wp2_with fail;go_loopw [5] (fun iv wr=>Hid (∃ k:Nat,k<=n/\iv=.int .i64 k/\Ext w wr)) (fun iv _=>n - (intOf iv).toNat)
 case atStart=>exact ⟨0,Nat.zero_le _,rfl,Ext.refl _⟩
 case round =>
  obtain ⟨k,hk,rfl,hx⟩:=hrel.out;clear hrel;have HX:=lh hx;by_cases hlt:k<n
  ·obtain ⟨y,hy⟩:∃ y,l[k]?=some y:=⟨_,List.getElem?_eq_getElem (by have:=HL.out;omega)⟩;obtain ⟨g1,rfl,ck1⟩:=HG1.out k y hy;obtain ⟨g2,rfl,ck2⟩:=HG2.out k y hy;have ck1:=(hx.cell (lt_of_cell ck1)).trans ck1;have ck2:=(hx.cell (lt_of_cell ck2)).trans ck2;clear hx hy;go_wp2_with fail;go_quiet (fail);go_wp2_with fail;go_roundw
   case rel=>exact ⟨k+1,by omega,by go_num,HX.out.drewN _⟩
   case measure=>simp [intOf] <;> omega
  ·obtain rfl:k=n:=by omega
   have nlt:decide ((k:Int)<(k:Int))=false:=by simp
   clear hx;go_wp2_with fail;go_ret;exact ⟨rfl,HX.out⟩
end
section
structure Fl (D:Dk):Prop where
 live:FileOk D.live
 lasts:FileOk D.lasts
section
variable {w0 w:World} {A B:List Thing} {r:Nat} {D:Dk}
end
end
section
end
end Go.Proofs.YtodickpibbbiiaaGreatDoor
