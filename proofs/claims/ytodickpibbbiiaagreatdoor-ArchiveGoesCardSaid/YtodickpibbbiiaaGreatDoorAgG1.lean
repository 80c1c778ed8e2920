import Derived.Test.YtodickpibbbiiaaGreatDoorAgF1
import Derived.Test.YtodickpibbbiiaaGreatDoorAgD1
import Derived.Test.YtodickpibbbiiaaGreatDoorAgA1
import Derived.Test.YtodickpibbbiiaaGreatDoorAgC3
import Derived.Test.YtodickpibbbiiaaGreatDoorAgB1
import Derived.Test.YtodickpibbbiiaaGreatDoorAgD2
import Derived.Test.YtodickpibbbiiaaGreatDoorAgF2
import Derived.Test.YtodickpibbbiiaaGreatDoorAgE2
import Derived.Test.YtodickpibbbiiaaGreatDoorAgF3
import Derived.Lib.ParseIntB
import Derived.Lib.SlTrimSet
import Derived.Lib.ItoaMem
import Derived.IntWalk
import Derived.Lib.AtoiErrMem
import Derived.Laws.AppendOwnNone
import Derived.Lib.AppendStr
import Derived.WalkLawsBesides
open Go.Proofs.Tryz
namespace Go.Proofs.YtodickpibbbiiaaGreatDoor
section
def fixB (n d:Nat):ByteArray:=⟨(fixed n d).toArray⟩
theorem fixB_list (n d:Nat):(fixB n d).toList=fixed n d:=toList_mk _
theorem fixB_size (n d:Nat):(fixB n d).size=d:=by unfold fixB;rw [size_mk,List.size_toArray,fixed_length]
theorem padS_fix (n d:Nat) (hd:1<=d) (h:n<10 ^ d):padS (n:Int) d=fixB n d:=ba_ext (by rw [padS_toList (n:Int) d (by omega) hd (by simpa using h),fixB_list];simp)
def nameA (t k:Nat):ByteArray:=fixB t 10++⟨#[45]⟩++fixB k 4
theorem nameA_size (t k:Nat):(nameA t k).size=15:=by
 unfold nameA;rw [ByteArray.size_append,ByteArray.size_append,fixB_size,fixB_size];rfl
def isDg (c:UInt8):Bool:=decide (48<=c.toNat)&&decide (c.toNat<=57)
def numA (acc:Nat) (l:List UInt8):Nat:=l.foldl (fun n c=>n*10+(c.toNat - 48)) acc
theorem parseM_ok:∀ (l:List UInt8) (acc a:Nat),acc<10 ^ a->a+l.length<=18->l.all isDg=true->Lib.parseUintM (2 ^ 64 - 1) acc l=.ok (numA acc l)/\numA acc l<10 ^ (a+l.length)
 | [],acc,a,h,_,_=>⟨rfl,h⟩
 | c::r,acc,a,h,hl,hd=>by
  rw [List.all_cons,Bool.and_eq_true] at hd;unfold isDg at hd;rw [Bool.and_eq_true,decide_eq_true_eq,decide_eq_true_eq] at hd;obtain ⟨⟨h1,h2⟩,h3⟩:=hd;rw [List.length_cons] at hl;have hp:10 ^ (a+1)=10 ^ a*10:=Nat.pow_succ ..;have hn:acc*10+(c.toNat - 48)<10 ^ (a+1):=by omega
  have hb:10 ^ a<=10 ^ 17:=Nat.pow_le_pow_right (by decide) (by omega);have hbb:(10:Nat) ^ 17=100000000000000000:=by decide
  have ih:=parseM_ok r (acc*10+(c.toNat - 48)) (a+1) hn (by omega) h3;unfold Lib.parseUintM;have hM:(2:Nat) ^ 64 - 1=18446744073709551615:=by decide
  rw [if_pos ⟨h1,h2⟩,if_neg (by omega),if_neg (by rw [hM];omega),ih.1,List.length_cons];exact ⟨rfl,by have:=ih.2;rw [show a+1+r.length=a+(r.length+1) from by omega] at this;exact this⟩
theorem parse_ok19 {l:List UInt8} (h0:l≠[]) (hl:l.length<=18) (hd:l.all isDg=true):Lib.parseIntB 64 l=.ok ((numA 0 l:Nat):Int)/\numA 0 l<10 ^ l.length:=by
 obtain ⟨h1,h2⟩:=parseM_ok l 0 0 (by decide) (by omega) hd;rw [Nat.zero_add] at h2;refine ⟨?_,h2⟩
 cases l with
 | nil=>exact absurd rfl h0
 | cons c r =>
  have hc:=hd;rw [List.all_cons,Bool.and_eq_true] at hc;unfold isDg at hc;rw [Bool.and_eq_true,decide_eq_true_eq,decide_eq_true_eq] at hc;have n1:¬ (c.toNat=43\/c.toNat=45):=by omega
  have n2:¬ c.toNat=45:=by omega
  have hp:10 ^ (c::r).length<=10 ^ 18:=Nat.pow_le_pow_right (by decide) hl;have hpp:(10:Nat) ^ 18=1000000000000000000:=by decide
  have h63:(2:Nat) ^ (64 - 1)=9223372036854775808:=by decide
  unfold Lib.parseIntB;simp only [if_neg n1];unfold Lib.parseUintB;rw [if_neg (by simp),h1];simp only [n2];rw [if_neg (by rw [h63];omega),if_neg (by simp)];simp
def digCut:List UInt8:=[48,49,50,51,52,53,54,55,56,57]
theorem digCut_is (c:UInt8):digCut.contains c=isDg c:=by
 have h:∀ n:Fin 256,digCut.contains (UInt8.ofNat n)=isDg (UInt8.ofNat n):=by decide +kernel
 have:=h ⟨c.toNat,c.toNat_lt⟩
 simpa using this
theorem dropW_nil {p:UInt8->Bool}:∀ (l:List UInt8),l.dropWhile p=[]↔∀ c∈l,p c=true
 | []=>by simp
 | c::r=>by
  rw [List.dropWhile_cons]
  cases h:p c with
  | true=>rw [if_pos rfl,dropW_nil r];simp [h]
  | false=>simp [h]
theorem trimS_nil (l cs:List UInt8):Lib.trimS l cs=[]↔∀ c∈l,cs.contains c=true:=by
 constructor
 ·intro h;unfold Lib.trimS Lib.trimLeftS at h;rw [dropW_nil] at h;unfold Lib.trimRightS at h
  have h2:l.reverse.dropWhile (cs.contains ·)=[]:=by
   cases hq:l.reverse.dropWhile (cs.contains ·) with
   | nil=>rfl
   | cons c r =>
    have h3:=h c (by rw [hq];simp);have h4:=List.head_dropWhile_not (p:=(cs.contains ·)) (l:=l.reverse) (by rw [hq];simp);simp only [hq,List.head_cons] at h4;rw [h3] at h4
    cases h4
  rw [dropW_nil] at h2;exact fun c hc=>h2 c (List.mem_reverse.2 hc)
 ·intro h;unfold Lib.trimS Lib.trimRightS;rw [show l.reverse.dropWhile (cs.contains ·)=[] from (dropW_nil _).2 fun c hc=>h c (List.mem_reverse.1 hc)];rfl
def formN (s:ByteArray):Bool:=decide (s.size=15)&&decide (s.toList.getD 10 0=45)&&(s.toList.take 10++s.toList.drop 11).all isDg
def timeN (s:ByteArray):Nat:=numA 0 (s.toList.take 10)
def namedN (s:ByteArray):Bool:=formN s&&decide (timeN s<=4294967295)
def lenT (l:List UInt8):Nat:=(l.getD 0 0).toNat*256+(l.getD 1 0).toNat
def fitT (l:List UInt8):Bool:=decide (2<=l.length)&&decide (lenT l<=160)&&decide (2+lenT l<=l.length)
def openP (n:Nd):ByteArray:=n.data.extract 2 (2+lenT n.data.toList)
def openD (n:Nd):ByteArray:=n.data.extract (2+lenT n.data.toList) n.data.size
def openB (n:Nd):Bool:=decide (n.kind=1)&&fitT n.data.toList&&mayB (openP n)
def prefB (p:ByteArray):ByteArray:=⟨#[UInt8.ofNat (p.size / 256),UInt8.ofNat (p.size % 256)]⟩++p
theorem prefB_size (p:ByteArray):(prefB p).size=2+p.size:=by unfold prefB;rw [ByteArray.size_append];rfl
end
section
open Go.RowKit Go.Shelf
structure EnvA (w:World):Prop where
 env:Env w
 pow:Lib.TabIs prog w "internal/strconv.uint64pow10" .u64 Lib.pow10Tab
theorem EnvA.ext {w w':World} (h:EnvA w) (k:Ext w w'):EnvA w' :=
 ⟨h.env.ext k,Go.Joins.tab_stays (g:=5) (by kernel_rfl) h.pow k (Nat.le_refl _)⟩
theorem aclock_any (t:Int) (w:World):Calls prog 106 #[.int .i64 t] w fun e w'=>e=.returned (.bool (clockB t))/\w=w':=by
 unfold clockB;by_cases h:0<=t
 ·by_cases h2:t<=4294967295
  ·go_enter func106,ntmps106;go_wp2;go_ret;exact ⟨by rw [decide_eq_true h,decide_eq_true h2];rfl,rfl⟩
  ·have g2:decide (t<=4294967295)=false:=decide_eq_false h2;go_enter func106,ntmps106;go_wp2;go_ret;exact ⟨rfl,rfl⟩
 ·have g2:decide (0<=t)=false:=decide_eq_false h;go_enter func106,ntmps106;go_wp2;go_ret;exact ⟨rfl,rfl⟩
def nearI (t:Int):Int:=min (max t 0) 4294967295
theorem nearI_bd (t:Int):0<=nearI t/\nearI t<=4294967295:=by unfold nearI;omega
theorem awithin_any (t:Int) (w:World):Calls prog 229 #[.int .i64 t] w fun e w'=>e=.returned (.int .i64 (nearI t))/\w=w':=by
 unfold nearI;go_enter func229,ntmps229;go_wp2;go_ret;exact ⟨rfl,rfl⟩
set_option maxHeartbeats 400000 in
theorem adigits_any (n d:Nat) (w:World) (hn:n<10 ^ d) (hd:1<=d) (d1:d<=18) (E:EnvA w) :
  Calls prog 108 #[.int .i64 n,.int .i64 d] w fun e w'=>e=.returned (.string (fixB n d))/\Ext w w':=by
 have hN:n<=9223372036854775807:=by
  have h1:10 ^ d<=10 ^ 18:=Nat.pow_le_pow_right (by decide) d1;have h2:(10:Nat) ^ 18=1000000000000000000:=by decide
  omega
 have hl:(itoaS (n:Int)).size<=100:=itoaS_le (n:Int) (by omega) (by omega);rw [<-padS_fix n d hd hn];clear hn;unfold padS
 have HF:∀ w,EnvA w->Hid (Calls prog 175 #[.int .i64 n,.int .i64 10] w fun e w'=>e=.returned (.string (itoaS n))/\Ext w w'):=fun w E =>
  (Tryz.strconv_FormatInt_10 n (by omega) (by omega) w E.pow).mono fun e w' ⟨he,k,os,hw⟩=>⟨he,by rw [hw];exact ((Ext.refl w).drewN k).grow os⟩
 generalize itoaS n=s at *;go_enter func108,ntmps108;go_wp2_with fail;refine ((HF _ E).out).mono ?_;rintro e w1 ⟨rfl,x1⟩;go_wp2_with fail;rw [show max 0 ((d:Int) - s.size)=((d - s.size:Nat):Int) from by omega]
 have hr:(⟨(Lib.repeatL [48] (d - s.size)).toArray⟩:ByteArray).size<=100:=by
  rw [Lib.size_eq];simp only [Lib.repeatL_length,List.length_cons,List.length_nil];omega
 have HR:∀ w,Hid (Calls prog 176 #[.string ⟨#[48]⟩,.int .i64 ((d - s.size:Nat):Int)] w fun e w'=>e=.returned (.string ⟨(Lib.repeatL [48] (d - s.size)).toArray⟩)/\Ext w w'):=fun w =>
  Tryz.strings_Repeat ⟨#[48]⟩ (d - s.size) w (by omega) (by show 1*_<=_;omega)
 generalize hrr:(⟨(Lib.repeatL [48] (d - s.size)).toArray⟩:ByteArray)=r at *;have HRR:=lh hrr;clear hrr;refine ((HR _).out).mono ?_;rintro e w2 ⟨rfl,x2⟩;go_wp2_with fail;go_ret;exact ⟨ret_str (by rw [HRR.out]),x1.trans x2⟩
theorem adigits10 (n:Nat) (w:World) (hn:n<10000000000) (E:EnvA w):Calls prog 108 #[.int .i64 n,.int .i64 10] w fun e w'=>e=.returned (.string (fixB n 10))/\Ext w w':=adigits_any n 10 w (by simpa using hn) (by decide) (by decide) E
theorem adigits4 (n:Nat) (w:World) (hn:n<10000) (E:EnvA w):Calls prog 108 #[.int .i64 n,.int .i64 4] w fun e w'=>e=.returned (.string (fixB n 4))/\Ext w w':=adigits_any n 4 w (by simpa using hn) (by decide) (by decide) E
def ageI (t now:Int):Int:=max 0 (nearI now - nearI t)
theorem ageI_bd (t now:Int):0<=ageI t now/\ageI t now<=4294967295:=by
 have:=nearI_bd t;have:=nearI_bd now;unfold ageI;omega
set_option maxHeartbeats 400000 in
theorem aage_any (n p:ByteArray) (t now sz:Int) (w:World):Calls prog 166 #[.agg #[.string n,.string p,.int .i64 t,.int .i64 sz],.int .i64 now] w fun e w'=>e=.returned (.int .i64 (ageI t now))/\Ext w w':=by
 obtain ⟨a0,a1⟩:=nearI_bd t;obtain ⟨b0,b1⟩:=nearI_bd now;unfold ageI;have hw:IntKind.i64.wrap (nearI now - nearI t)=nearI now - nearI t:=IntWalk.i64_in _ (by omega);go_enter func166,ntmps166;go_wp2;go_quiet (exact Calls.quiet_of_same ((awithin_any _ _).mono fun _ _ h=>⟨h.1,h.2.symm⟩));go_wp2;go_ret;exact ⟨rfl,(((Ext.refl w).alloc _).drewN _)⟩
structure Pol where
 kind:Int
 keep:Int
 age:Int
def polV (p:Pol):Value:=.agg #[.int .i64 p.kind,.int .i64 p.keep,.int .i64 p.age]
def okP (p:Pol):Bool:=(if p.kind=2 then decide (1<=p.keep)&&decide (p.keep<=100) else decide (p.keep=0))&&decide (1<=p.kind)&&decide (p.kind<=3)&&clockB p.age
set_option maxHeartbeats 1000000 in
theorem acheck_any (p:Pol) (w:World):Calls prog 93 #[polV p] w fun e w'=>e=.returned (.int .i64 (if okP p then 0 else 2))/\Ext w w':=by
 obtain ⟨k,n,a⟩:=p;have HC:=lh (fun w=>aclock_any a w);have HK:=lh (show okP ⟨k,n,a⟩=((if k=2 then decide (1<=n)&&decide (n<=100) else decide (n=0))&&decide (1<=k)&&decide (k<=3)&&clockB a) from rfl);unfold polV;dsimp only;generalize okP ⟨k,n,a⟩=R at *;generalize clockB a=c at *;by_cases hk:k=2
 ·subst hk;by_cases h1:1<=n
  ·by_cases h2:n<=100
   ·have hR:R=c:=by rw [HK.out,if_pos rfl,decide_eq_true h1,decide_eq_true h2];rfl
    subst hR;clear HK
    cases R <;>
    ·go_enter func93,ntmps93;go_wp2_with (refine (HC.out _).mono ?_;rintro e w1 ⟨rfl,rfl⟩);go_ret;exact ⟨rfl,(Ext.refl w).alloc _⟩
   ·have hR:R=false:=by rw [HK.out,if_pos rfl,decide_eq_false h2];simp
    subst hR;have g2:decide (n<=100)=false:=decide_eq_false h2;clear HK;go_enter func93,ntmps93;go_wp2_with (refine (HC.out _).mono ?_;rintro e w1 ⟨rfl,rfl⟩);go_ret;exact ⟨rfl,(Ext.refl w).alloc _⟩
  ·have hR:R=false:=by rw [HK.out,if_pos rfl,decide_eq_false h1];simp
   subst hR;have g2:decide (1<=n)=false:=decide_eq_false h1;clear HK;go_enter func93,ntmps93;go_wp2_with (refine (HC.out _).mono ?_;rintro e w1 ⟨rfl,rfl⟩);go_ret;exact ⟨rfl,(Ext.refl w).alloc _⟩
 ·have g0:(k==2)=false:=by simpa using hk
  have hR0:R=(decide (n=0)&&decide (1<=k)&&decide (k<=3)&&c):=by rw [HK.out,if_neg hk]
  have HR:=lh hR0;clear HK hR0;by_cases h1:1<=k
  ·by_cases h3:k<=3
   ·by_cases hn:n=0
    ·subst hn;have hR:R=c:=by rw [HR.out,decide_eq_true h1,decide_eq_true h3];rfl
     subst hR;clear HR
     cases R <;>
     ·go_enter func93,ntmps93;go_wp2_with (refine (HC.out _).mono ?_;rintro e w1 ⟨rfl,rfl⟩);go_ret;exact ⟨rfl,(Ext.refl w).alloc _⟩
    ·have hR:R=false:=by rw [HR.out,decide_eq_false hn];rfl
     subst hR;have g2:(n==0)=false:=by simpa using hn
     clear HR;go_enter func93,ntmps93;go_wp2_with (refine (HC.out _).mono ?_;rintro e w1 ⟨rfl,rfl⟩);go_ret;exact ⟨rfl,(Ext.refl w).alloc _⟩
   ·have hR:R=false:=by rw [HR.out,decide_eq_false h3];simp
    subst hR;have g1:decide (k<1)=false:=decide_eq_false (by omega);have g2:decide (3<k)=true:=decide_eq_true (by omega);clear HR;go_enter func93,ntmps93;go_wp2_with (refine (HC.out _).mono ?_;rintro e w1 ⟨rfl,rfl⟩);go_ret;exact ⟨rfl,(Ext.refl w).alloc _⟩
  ·have hR:R=false:=by rw [HR.out,decide_eq_false h1];simp
   subst hR;have g1:decide (k<1)=true:=decide_eq_true (by omega);clear HR;go_enter func93,ntmps93;go_wp2_with (refine (HC.out _).mono ?_;rintro e w1 ⟨rfl,rfl⟩);go_ret;exact ⟨rfl,(Ext.refl w).alloc _⟩
end
section
open Go.RowKit
theorem pow10_tab:(Lib.tabData .u64 Lib.pow10Tab:DataW Unit)=Rows.laid_internal_strconv_uint64pow10:=by kernel_rfl
theorem enva_of {laid:List (String×DataW Unit)} {W:World} (hl:laidMet prog laid W) (hs:W.ShapedOpen prog) (i:Nat) (h:laid[i]?=some ("internal/strconv.uint64pow10",Rows.laid_internal_strconv_uint64pow10)):EnvA W :=
 ⟨env_of hs,let ⟨_,h2,_⟩:=hl;tabIs_of_mem (g:=5) (t:=393) (e:=266) (n:=20) (by kernel_rfl) (by kernel_rfl) (by kernel_rfl) (by kernel_rfl) (by kernel_rfl) (by kernel_rfl) h2 (by rw [pow10_tab];exact List.mem_of_getElem? h)⟩
end
section
open Go.RowKit Go.Shelf
theorem atrim_any (s:ByteArray) (w:World) (hs:s.size<=9223372036854775807) :
  Calls prog 63 #[.string s,.string ⟨#[48,49,50,51,52,53,54,55,56,57]⟩] w fun e w'=>e=.returned (.string (bsL (Lib.trimS s.toList digCut)))/\Ext w w':=by
 refine (Any.strings_Trim_laid Tryz.lays160 (by kernel_rfl) s ⟨#[48,49,50,51,52,53,54,55,56,57]⟩ w hs (by decide) (fun j b hb=>?_)).mono fun e w' ⟨h1,h2⟩=>⟨?_,h2⟩
 ·match j,hb with
  | 0,hb | 1,hb | 2,hb | 3,hb | 4,hb | 5,hb | 6,hb | 7,hb | 8,hb | 9,hb=>cases hb;decide
 ·rw [h1,Lib.toList_data];rfl
set_option maxHeartbeats 1000000 in
theorem anamed_any (s:ByteArray) (w:World) :
  Calls prog 110 #[.string s] w fun e w'=>e=.returned (.tuple #[.int .i64 (if formN s then (timeN s:Nat) else 0),.bool (namedN s)])/\Ext w w':=by
 obtain ⟨R,hR⟩:∃ R:Int,R=if formN s then ((timeN s:Nat):Int) else 0:=⟨_,rfl⟩
 rw [<-hR];have HR:=lh hR;clear hR;by_cases h15:s.size=15
 ·have g1:((s.size:Int) != 15)=false:=by rw [h15];rfl
  have h10:10<s.size:=by omega
  by_cases hb:s.toList.getD 10 0=45
  ·have hq:s.toList.getD 10 0=s[10]:=by rw [List.getD_eq_getElem?_getD,getElem_toList s 10 h10];rfl
   have HB:=lh hb;rw [hq] at hb;have g2:((s[10].toNat:Int) != 45)=false:=by rw [hb];rfl
   have g3:(s[10].toNat:Int)=45:=by rw [hb];rfl
   obtain ⟨q1,e1⟩:∃ q,q=s.extract 0 10:=⟨_,rfl⟩;obtain ⟨q2,e2⟩:∃ q,q=s.extract 11 15:=⟨_,rfl⟩;have z1:q1.size=10:=by rw [e1,ByteArray.size_extract];omega
   have z2:q2.size=4:=by rw [e2,ByteArray.size_extract];omega
   have l1:q1.toList=s.toList.take 10:=by rw [e1,toList_extract];rfl
   have l2:q2.toList=s.toList.drop 11:=by rw [e2,toList_extract,List.take_of_length_le (by rw [List.length_drop,len_toList];omega)]
   have z1':q1.size<=10:=by omega
   have z2':q2.size<=10:=by omega
   have HT:=fun w1=>lh (atrim_any (q1++q2) w1 (by rw [ByteArray.size_append];omega))
   have HP:=lh (show ((s.toList.take 10++s.toList.drop 11).all isDg=true)↔Lib.trimS (q1++q2).toList digCut=[] from by
    rw [trimS_nil,toList_append,l1,l2,List.all_eq_true]
    exact forall_congr' fun c=>by rw [digCut_is])
   have HPI:=fun w1 (hd:(s.toList.take 10).all isDg=true)=>lh (Tryz.strconv_ParseInt_10_at64_ok q1 (by omega) ((timeN s:Nat):Int) (by
    rw [<-Lib.toList_data,l1]
    exact (parse_ok19 (by intro e;have:=congrArg List.length e;rw [<-l1,len_toList,z1] at this;cases this) (by rw [<-l1,len_toList];omega) hd).1) w1)
   have HTB:=fun (hd:(s.toList.take 10).all isDg=true)=>lh (show timeN s<10000000000 from by
    have:=(parse_ok19 (l:=s.toList.take 10) (by intro e;have:=congrArg List.length e;rw [<-l1,len_toList,z1] at this;cases this) (by rw [<-l1,len_toList];omega) hd).2;rw [<-l1,len_toList,z1] at this;unfold timeN;rw [<-l1];have h10:(10:Nat) ^ 10=10000000000:=by decide
    omega)
   have HE1:=lh e1;have f1:=e1.symm;have f2:=e2.symm;clear e1 e2 z1 z2 l1 l2 hq
   cases hd:(s.toList.take 10++s.toList.drop 11).all isDg with
   | false =>
    have HF:=lh (show formN s=false from by unfold formN;rw [hd];simp);have HN:=lh (show namedN s=false from by unfold namedN;rw [HF.out];rfl);have HQ:=lh (show R=0 from by rw [HR.out,HF.out,if_neg (by simp)]);have hT:Lib.trimS (q1++q2).toList digCut≠[]:=fun e=>by rw [HP.out.2 e] at hd;cases hd
    clear HR HP HPI HTB hd;obtain ⟨T,hTT⟩:∃ T,T=bsL (Lib.trimS (q1++q2).toList digCut):=⟨_,rfl⟩;have hTne:T.toList≠[]:=by rw [hTT];unfold bsL;rw [toList_mk];exact hT
    rw [<-hTT] at HT;have t1:T.toList.isEmpty=false:=by simpa using hTne
    have t2:(!T.toList.isEmpty)=true:=by rw [t1];rfl
    clear hTT hT hTne;go_enter func110,ntmps110;go_wp2;refine wp_region_after (by kernel_rfl) (by kernel_rfl) ?_
    repeat (go_big_quiet_step (exact After.of (HT _).out))
    refine wpQuiet_nil ?_;rintro _ ⟨y,rfl⟩;have HY:=lh y.x;go_wp2;go_ret2;exact ⟨by rw [HQ.out,HN.out];rfl,HY.out⟩
   | true =>
    have hd10:(s.toList.take 10).all isDg=true:=by rw [List.all_append,Bool.and_eq_true] at hd;exact hd.1
    have HF:=lh (show formN s=true from by unfold formN;rw [hd,HB.out,h15];rfl);have HQ:=lh (show R=((timeN s:Nat):Int) from by rw [HR.out,HF.out,if_pos rfl]);have hT:Lib.trimS (q1++q2).toList digCut=[]:=HP.out.1 hd;have hTT:bsL (Lib.trimS (q1++q2).toList digCut)=⟨#[]⟩:=by rw [hT];rfl
    rw [hTT] at HT;have hPI:=fun w1=>HPI w1 hd10;have htb:=(HTB hd10).out;have HN:=lh (show namedN s=decide (timeN s<=4294967295) from by unfold namedN;rw [HF.out,Bool.true_and]);clear HR HP HPI HTB hd hd10 hT hTT;generalize timeN s=m at *;have HND:=lh (show decide ((m:Int)<=4294967295)=decide (m<=4294967295) from by congr 1;exact propext ⟨fun h=>by omega,fun h=>by omega⟩);go_enter func110,ntmps110;go_wp2;refine wp_region_after (by kernel_rfl) (by kernel_rfl) ?_
    repeat (go_big_quiet_step (exact After.of (HT _).out))
    refine wpQuiet_nil ?_;rintro _ ⟨y,rfl⟩;have HY:=lh y.x;go_wp2_with fail;refine (hPI _).out.mono ?_;rintro e w2 ⟨rfl,hw2⟩
    have HX2:=lh (show Ext y.v w2 from by
     rcases hw2 with rfl | ⟨t,rfl⟩
     ·exact Ext.refl _
     ·exact Go.Lib.bytesWorld_below _ _ _)
    clear hw2;go_wp2_with fail;go_ret2;exact ⟨by rw [HQ.out,HN.out,<-HND.out];rfl,HY.out.trans HX2.out⟩
  ·have HF:=lh (show formN s=false from by unfold formN;rw [decide_eq_false hb];simp);have HN:=lh (show namedN s=false from by unfold namedN;rw [HF.out];rfl);have hq:s.toList.getD 10 0=s[10]:=by rw [List.getD_eq_getElem?_getD,getElem_toList s 10 h10];rfl
   rw [hq] at hb
   have g2:((s[10].toNat:Int) != 45)=true:=by
    rw [bne,Bool.not_eq_true',beq_eq_false_iff_ne];intro e;exact hb (UInt8.toNat_inj.1 (by have e2:((s[10].toNat:Nat):Int)=45:=e;show s[10].toNat=45;omega))
   rw [HF.out,if_neg (by simp)] at HR;have HQ:=lh HR.out;clear hb hq HR;go_enter func110,ntmps110;go_wp2;refine wp_region_after (by kernel_rfl) (by kernel_rfl) ?_
   repeat (go_big_quiet_step (fail))
   refine wpQuiet_nil ?_;rintro _ ⟨y,rfl⟩;have HY:=lh y.x;go_wp2;go_ret2;exact ⟨by rw [HQ.out,HN.out];rfl,HY.out⟩
 ·have g1:((s.size:Int) != 15)=true:=by simp;omega
  have HF:=lh (show formN s=false from by unfold formN;rw [decide_eq_false h15];rfl);have HN:=lh (show namedN s=false from by unfold namedN;rw [HF.out];rfl);rw [HF.out,if_neg (by simp)] at HR;go_enter func110,ntmps110;go_wp2;go_quiet (fail);go_wp2;go_ret2;exact ⟨by rw [HR.out,HN.out];rfl,(Ext.refl w).drewN _⟩
end
section
open Go.RowKit Go.Shelf
def BytesSl (w:World) (v:Value) (l:List UInt8):Prop :=
 ∃ (g o cap:Nat),v=.slice (some ⟨g,o,none⟩) l.length cap/\l.length<=cap/\cap<=9223372036854775807/\∀ (j:Nat) x,l[j]?=some x->w.cell? ⟨g,o+j,none⟩=some (bv x)
theorem BytesSl.ext {w w':World} {v:Value} {l:List UInt8} (h:BytesSl w v l) (x:Ext w w'):BytesSl w' v l:=by
 obtain ⟨g,o,cap,e,h1,h2,h3⟩:=h;exact ⟨g,o,cap,e,h1,h2,fun j y hy=>(x.cell (lt_of_cell (h3 j y hy))).trans (h3 j y hy)⟩
def TapeAt (w:World) (t:Nat) (v:Value) (torn:Bool):Prop:=w.heap[t]?=some (.cells #[v,.bool true,.bool torn] 329 (0,0))
def TapeOf (w:World) (t:Nat) (v:Value) (l:List UInt8):Prop:=TapeAt w t v false/\BytesSl w v l/\∀ g o n c,v=.slice (some ⟨g,o,none⟩) n c->g≠t
theorem twhole_any {w:World} {t:Nat} {v:Value} {torn:Bool} (h:TapeAt w t v torn):Calls prog 250 #[.pointer (some ⟨t,0,none⟩)] w fun e w'=>e=.returned (.bool (!torn))/\w=w':=by
 have c1:w.cell? ⟨t,1,none⟩=some (.bool true):=cellB h;have c2:w.cell? ⟨t,2,none⟩=some (.bool torn):=cellB h
 cases torn <;>
 ·go_enter func250,ntmps250;go_wp2;go_ret;exact ⟨rfl,rfl⟩
theorem terr_any {w:World} {t:Nat} {v:Value} {torn:Bool} (h:TapeAt w t v torn):Calls prog 182 #[.pointer (some ⟨t,0,none⟩)] w fun e w'=>e=.returned (.int .i64 (if torn then 4 else 0))/\w=w':=by
 have c1:w.cell? ⟨t,1,none⟩=some (.bool true):=cellB h;have c2:w.cell? ⟨t,2,none⟩=some (.bool torn):=cellB h
 cases torn <;>
 ·go_enter func182,ntmps182;go_wp2;go_ret;exact ⟨rfl,rfl⟩
theorem tleft_any {w:World} {t:Nat} {a:Option Addr} {n c:Nat} {torn:Bool} (h:TapeAt w t (.slice a n c) torn):Calls prog 184 #[.pointer (some ⟨t,0,none⟩)] w fun e w'=>e=.returned (.int .i64 n)/\w=w':=by
 have c0:w.cell? ⟨t,0,none⟩=some (.slice a n c):=cellB h;go_enter func184,ntmps184;go_wp2;go_ret;exact ⟨rfl,rfl⟩
theorem tape_set {w:World} {t:Nat} {a b c:Value} (h:w.heap[t]?=some (.cells #[a,b,c] 329 (0,0))) (k:Nat) (u:Value):(w.setCell ⟨t,k,none⟩ u).heap[t]?=some (.cells (#[a,b,c].setIfInBounds k u) 329 (0,0))/\Touch t w (w.setCell ⟨t,k,none⟩ u) :=
 ⟨setCellB h,rfl,rfl,rfl,by unfold World.setCell;simp,fun i _ hne=>setCellO fun e=>hne (by rw [e])⟩
theorem tback_any {w:World} {t:Nat} {v:Value} {torn:Bool} (h:TapeAt w t v torn) (a:Option Addr) (n c:Nat):Calls prog 253 #[.pointer (some ⟨t,0,none⟩),.slice a n c] w fun e w'=>e=.returned (.tuple #[])/\Hid (TapeAt w' t (.slice a n c) true/\Touch t w w'):=by
 have c0:w.cell? ⟨t,0,none⟩=some v:=cellB h;have HB:=lh (show w.heap[t]?=some (.cells #[v,.bool true,.bool torn] 329 (0,0)) from h);go_enter func253,ntmps253;clear c0 h
 go_wp2_with (first
  | (refine wpList_store1 rfl _ _ _ rfl t 0 (.slice a n c) rfl rfl (by kernel_rfl) rfl #[v,.bool true,.bool torn] 329 HB.out (Nat.succ_pos 2) ?_;intro w1 e1;have HB1:=lh (show w1.heap[t]?=some (.cells #[.slice a n c,.bool true,.bool torn] 329 (0,0))/\Touch t w w1 from by rw [e1];exact tape_set HB.out 0 (.slice a n c));clear e1;go_frame)
  | (refine wpList_store1 rfl _ _ _ rfl t 2 (.bool true) rfl rfl (by kernel_rfl) rfl #[.slice a n c,.bool true,.bool torn] 329 HB1.out.1 (Nat.lt_succ_self 2) ?_;intro w2 e2;have HB2:=lh (show w2.heap[t]?=some (.cells #[.slice a n c,.bool true,.bool true] 329 (0,0))/\Touch t w1 w2 from by rw [e2];exact tape_set HB1.out.1 2 (.bool true));clear e2;go_frame))
 go_end0;exact ⟨rfl,HB2.out.1,HB1.out.2.trans HB2.out.2⟩
theorem BytesSl.touch {w w':World} {t:Nat} {v:Value} {l:List UInt8} (h:BytesSl w v l) (k:Touch t w w') (hn:∀ g o n c,v=.slice (some ⟨g,o,none⟩) n c->g≠t):BytesSl w' v l:=by
 obtain ⟨g,o,cap,e,h1,h2,h3⟩:=h
 exact ⟨g,o,cap,e,h1,h2,fun j y hy=>by
  have hc:=h3 j y hy;have:=k.block g (lt_of_cell hc) (fun e2=>hn _ _ _ _ e (Option.some.inj e2));unfold World.cell? at hc ⊢;rw [this]
  exact hc⟩
theorem BytesSl.first {w:World} {g o c:Nat} {l:List UInt8} (h:BytesSl w (.slice (some ⟨g,o,none⟩) l.length c) l) (n:Nat) (hn:n<=l.length):BytesSl w (.slice (some ⟨g,o,none⟩) n n) (l.take n):=by
 obtain ⟨g',o',cap,e,h1,h2,h3⟩:=h
 cases e
 refine ⟨g,o,n,by rw [List.length_take,Nat.min_eq_left hn],by rw [List.length_take];omega,by omega,fun j y hy=>h3 j y ?_⟩;rw [List.getElem?_take] at hy;split at hy
 ·exact hy
 ·cases hy
theorem BytesSl.rest {w:World} {g o c:Nat} {l:List UInt8} (h:BytesSl w (.slice (some ⟨g,o,none⟩) l.length c) l) (n:Nat) (hn:n<=l.length):BytesSl w (.slice (some ⟨g,if c=n then o else o+n,none⟩) (l.length - n) (c - n)) (l.drop n):=by
 obtain ⟨g',o',cap,e,h1,h2,h3⟩:=h
 cases e
 refine ⟨g,_,c - n,by rw [List.length_drop],by rw [List.length_drop];omega,by omega,fun j y hy=>?_⟩;rw [List.getElem?_drop] at hy;have hj:=(List.getElem?_eq_some_iff.1 hy).1;rw [if_neg (by omega),show o+n+j=o+(n+j) from by omega];exact h3 (n+j) y hy
theorem BytesSl.first' {w:World} {g o c L:Nat} {l:List UInt8} (h:BytesSl w (.slice (some ⟨g,o,none⟩) l.length c) l) (hL:L=l.length) (n:Nat) (hn:n<=L):BytesSl w (.slice (some ⟨g,o,none⟩) n n) (l.take n):=h.first n (by omega)
set_option maxHeartbeats 1000000 in
theorem ttake_ok {w:World} {t:Nat} {v:Value} {l:List UInt8} (h:TapeOf w t v l) (n:Nat) (hn:n<=l.length) :
  Calls prog 252 #[.pointer (some ⟨t,0,none⟩),.int .i64 n] w fun e w'=>∃ u v',e=.returned (.tuple #[u,.bool true])/\Hid (BytesSl w' u (l.take n)/\TapeOf w' t v' (l.drop n)/\Touch t w w'):=by
 obtain ⟨hT,hB,hne⟩:=h;have HW:=lh (twhole_any hT);have HB:=lh hB;have HT:=lh (show w.heap[t]?=some (.cells #[v,.bool true,.bool false] 329 (0,0)) from hT);obtain ⟨g,o,cap,rfl,h1,h2,_⟩:=hB;have hgt:=lh (hne g o _ _ rfl);have c0:w.cell? ⟨t,0,none⟩=some (.slice (some ⟨g,o,none⟩) l.length cap):=cellB hT;obtain ⟨L,hL⟩:∃ L,L=l.length:=⟨_,rfl⟩;have HL:=lh hL;rw [<-hL] at h1 hn c0;have hg0:decide (L<n)=false:=decide_eq_false (by omega);clear hT hne hL;go_enter func252,ntmps252;go_wp2_with fail;refine HW.out.mono ?_;rintro e w1 ⟨rfl,rfl⟩;by_cases hcn:cap=n
 ·obtain rfl:L=n:=by omega
  subst hcn;go_wp2_with (refine wpList_store1 rfl _ _ _ rfl t 0 (.slice (some ⟨g,o,none⟩) 0 0) rfl rfl (by kernel_rfl) rfl _ _ HT.out (Nat.succ_pos 2) ?_;intro w1 e1;have HB1:=lh (show w1.heap[t]?=some (.cells #[.slice (some ⟨g,o,none⟩) 0 0,.bool true,.bool false] 329 (0,0))/\Touch t w w1 from by rw [e1];exact tape_set HT.out 0 _);clear e1;go_frame);go_ret2;refine ⟨_,.slice (some ⟨g,o,none⟩) 0 0,rfl,(HB.out.touch HB1.out.2 (fun g' o' n' c' e=>by cases e;exact hgt.out)).first' HL.out _ (Nat.le_refl _),⟨HB1.out.1,?_,fun g' o' n' c' e=>by cases e;exact hgt.out⟩,HB1.out.2⟩;exact ⟨g,o,0,by rw [List.length_drop,<-HL.out,Nat.sub_self],by rw [List.length_drop,<-HL.out,Nat.sub_self];exact Nat.le_refl _,by decide,fun j y hy=>by rw [List.drop_eq_nil_of_le (by rw [<-HL.out];exact Nat.le_refl _)] at hy;simp at hy⟩
 ·go_wp2_with (refine wpList_store1 rfl _ _ _ rfl t 0 (.slice (some ⟨g,o+n,none⟩) (L - n) (cap - n)) rfl rfl (by kernel_rfl) rfl _ _ HT.out (Nat.succ_pos 2) ?_;intro w1 e1;have HB1:=lh (show w1.heap[t]?=some (.cells #[.slice (some ⟨g,o+n,none⟩) (L - n) (cap - n),.bool true,.bool false] 329 (0,0))/\Touch t w w1 from by rw [e1];exact tape_set HT.out 0 _);clear e1;go_frame);go_ret2;refine ⟨_,_,rfl,(HB.out.touch HB1.out.2 (fun g' o' n' c' e=>by cases e;exact hgt.out)).first' HL.out _ hn,⟨HB1.out.1,?_,fun g' o' n' c' e=>by cases e;exact hgt.out⟩,HB1.out.2⟩;have:=(HB.out.touch HB1.out.2 (fun g' o' n' c' e=>by cases e;exact hgt.out)).rest n (by rw [<-HL.out];exact hn);rw [if_neg hcn,<-HL.out] at this;exact this
set_option maxHeartbeats 1000000 in
theorem ttake_no {w:World} {t:Nat} {v:Value} {l:List UInt8} (h:TapeOf w t v l) (n:Nat) (hn:l.length<n) :
  Calls prog 252 #[.pointer (some ⟨t,0,none⟩),.int .i64 n] w fun e w'=>e=.returned (.tuple #[.slice none 0 0,.bool false])/\Hid (TapeAt w' t v true/\Touch t w w'):=by
 obtain ⟨hT,hB,hne⟩:=h;have HW:=lh (twhole_any hT);have HT:=lh (show w.heap[t]?=some (.cells #[v,.bool true,.bool false] 329 (0,0)) from hT);obtain ⟨g,o,cap,rfl,h1,h2,_⟩:=hB;have c0:w.cell? ⟨t,0,none⟩=some (.slice (some ⟨g,o,none⟩) l.length cap):=cellB hT;generalize l.length=L at *;have hg0:decide (L<n)=true:=decide_eq_true (by omega);clear hT hne;go_enter func252,ntmps252;go_wp2_with fail;refine HW.out.mono ?_;rintro e w1 ⟨rfl,rfl⟩;go_wp2_with (refine wpList_store1 rfl _ _ _ rfl t 2 (.bool true) rfl rfl (by kernel_rfl) rfl _ _ HT.out (Nat.lt_succ_self 2) ?_;intro w1 e1;have HB1:=lh (show w1.heap[t]?=some (.cells #[.slice (some ⟨g,o,none⟩) L cap,.bool true,.bool true] 329 (0,0))/\Touch t w w1 from by rw [e1];exact tape_set HT.out 2 _);clear e1;go_frame);go_ret2;exact ⟨rfl,HB1.out.1,HB1.out.2⟩
theorem ttake_torn {w:World} {t:Nat} {v:Value} (h:TapeAt w t v true) (n:Int) :
  Calls prog 252 #[.pointer (some ⟨t,0,none⟩),.int .i64 n] w fun e w'=>e=.returned (.tuple #[.slice none 0 0,.bool false])/\w=w':=by
 have HW:=lh (twhole_any h);go_enter func252,ntmps252;go_wp2_with fail;refine HW.out.mono ?_;rintro e w1 ⟨rfl,rfl⟩;go_wp2;go_ret2;exact ⟨rfl,rfl⟩
theorem or64 (a b:Nat) (ha:a<18446744073709551616) (hb:b<18446744073709551616):bits .or .u64 (a:Int) (b:Int)=((a ||| b:Nat):Int):=by
 show IntKind.u64.wrap ((BitVec.ofInt 64 (a:Int) ||| BitVec.ofInt 64 (b:Int)).toNat:Int)=_
 have h1:∀ n:Nat,n<18446744073709551616->(BitVec.ofInt 64 (n:Int)).toNat=n:=fun n hn=>by
  rw [BitVec.toNat_ofInt];omega
 rw [BitVec.toNat_or,h1 a ha,h1 b hb];have h2:a ||| b<18446744073709551616:=Nat.or_lt_two_pow (n:=64) ha hb;rw [IntWalk.u64_in _ (by omega)]
theorem or_bytes (x y:UInt8):bits .or .u64 (IntKind.u64.wrap (bits .or .u64 0 (x.toNat:Int)*256)) (y.toNat:Int)=(x.toNat:Int)*256+y.toNat:=by
 have bx:=x.toNat_lt;have b_y:=y.toNat_lt;rw [show bits .or .u64 0 (x.toNat:Int)=(x.toNat:Int) from by rw [show (0:Int)=((0:Nat):Int) from rfl,or64 0 _ (by decide) (by omega)];simp];rw [IntWalk.u64_in _ (by omega),show (x.toNat:Int)*256=((x.toNat*256:Nat):Int) from by omega,or64 _ _ (by omega) (by omega)];have:=Nat.shiftLeft_add_eq_or_of_lt (b:=y.toNat) (i:=8) b_y x.toNat;rw [Nat.shiftLeft_eq] at this;rw [show x.toNat*256=x.toNat*2 ^ 8 from rfl,<-this];omega
theorem tnumber_two (x y:UInt8) (v:Value) (w:World) (h:BytesSl w v [x,y]) :
  Calls prog 334 #[v] w fun e w'=>e=.returned (.int .u64 ((x.toNat:Int)*256+y.toNat))/\w=w':=by
 obtain ⟨g,o,cap,rfl,h1,h2,h3⟩:=h;have c0:w.cell? ⟨g,o,none⟩=some (.int .u8 x.toNat):=h3 0 x rfl;have c1:w.cell? ⟨g,o+1,none⟩=some (.int .u8 y.toNat):=h3 1 y rfl;have bx:=x.toNat_lt;have b_y:=y.toNat_lt;have HO:=lh (or_bytes x y);clear h3;simp only [List.length_cons,List.length_nil] at h1 ⊢;go_enter func334,ntmps334;go_wp2;refine wp_loop_rounds 3 ?_;rw [rounds_succ];go_wp2;rw [rounds_succ];go_wp2;rw [rounds_succ];go_wp2;go_ret;exact ⟨by rw [HO.out];rfl,rfl⟩
theorem conv_sl {w:World} {v:Value} {l:List UInt8} (h:BytesSl w v l):(convert 52 9 v).run prog w=.ok (.string (bsL l)) w:=by
 obtain ⟨g,o,cap,rfl,h1,h2,h3⟩:=h
 have h4:=run_convert_bytes_back w 52 9 5 ⟨g,o,none⟩ cap l underlying52 (by kernel_rfl) underlying9 (fun j hj=>by
  rw [show (⟨g,o,none⟩:Addr).add j=⟨g,o+j,none⟩ from by unfold Addr.add;split <;> simp_all]
  exact h3 j _ (List.getElem?_eq_getElem hj))
 exact h4
theorem tmay_two (w:World):Calls prog 244 #[.int .i64 2] w fun e w'=>e=.returned (.bool true)/\w=w':=by
 go_enter func244,ntmps244;go_wp2;go_ret;exact ⟨rfl,rfl⟩
set_option maxHeartbeats 1000000 in
theorem tnum_ok {w:World} {t:Nat} {v:Value} {l:List UInt8} (h:TapeOf w t v l) (hl:2<=l.length) :
  Calls prog 300 #[.pointer (some ⟨t,0,none⟩),.int .i64 2] w fun e w'=>∃ v',e=.returned (.int .u64 (lenT l:Nat))/\Hid (TapeOf w' t v' (l.drop 2)/\Touch t w w'):=by
 have HK:=lh (ttake_ok h 2 hl);clear h;go_enter func300,ntmps300;go_wp2_with fail;refine (tmay_two w).mono ?_;rintro e w1 ⟨rfl,rfl⟩;go_wp2_with fail;refine HK.out.mono ?_;rintro e w1 ⟨u,v',rfl,h1⟩;have H1:=h1
 have HN:=lh (tnumber_two (l.getD 0 0) (l.getD 1 0) u w1 (by
  have:=h1.out.1
  match l,hl with
  | x::y::r,_=>exact this))
 obtain ⟨g,o,c,hu,_⟩:=h1.out.1;rw [List.length_take,Nat.min_eq_left hl] at hu;subst hu;clear h1;go_wp2_with fail;refine HN.out.mono ?_;rintro e w2 ⟨rfl,rfl⟩;go_wp2;go_ret;exact ⟨v',rfl,H1.out.2⟩
set_option maxHeartbeats 1000000 in
theorem tnum_no {w:World} {t:Nat} {v:Value} {l:List UInt8} (h:TapeOf w t v l) (hl:l.length<2) :
  Calls prog 300 #[.pointer (some ⟨t,0,none⟩),.int .i64 2] w fun e w'=>e=.returned (.int .u64 0)/\Hid (TapeAt w' t v true/\Touch t w w'):=by
 have HK:=lh (ttake_no h 2 hl);clear h;go_enter func300,ntmps300;go_wp2_with fail;refine (tmay_two w).mono ?_;rintro e w1 ⟨rfl,rfl⟩;go_wp2_with fail;refine HK.out.mono ?_;rintro e w1 ⟨rfl,h1⟩;go_wp2;go_ret;exact ⟨rfl,h1⟩
theorem lenT_lt (l:List UInt8):lenT l<65536:=by
 unfold lenT;have:=(l.getD 0 0).toNat_lt;have:=(l.getD 1 0).toNat_lt;omega
set_option maxHeartbeats 1000000 in
theorem tbelow_ok {w:World} {t:Nat} {v:Value} {l:List UInt8} (h:TapeOf w t v l) (hl:2<=l.length) (hm:lenT l<=160) :
  Calls prog 251 #[.pointer (some ⟨t,0,none⟩),.int .i64 2,.int .u64 160] w fun e w'=>∃ v',e=.returned (.int .i64 (lenT l:Nat))/\Hid (TapeOf w' t v' (l.drop 2)/\Touch t w w'):=by
 have HK:=lh (tnum_ok h hl);have HW:=lh (twhole_any h.1);have c0:w.cell? ⟨t,0,none⟩=some v:=cellB h.1;obtain ⟨g,o,c,rfl,_⟩:=h.2.1;clear h;generalize lenT l=n at *;go_enter func251,ntmps251;go_wp2_with fail;refine HW.out.mono ?_;rintro e w1 ⟨rfl,rfl⟩;go_wp2_with fail;refine HK.out.mono ?_;rintro e w1 ⟨v',rfl,h1⟩;go_wp2;go_ret;exact ⟨v',rfl,h1⟩
set_option maxHeartbeats 1000000 in
theorem tbelow_no {w:World} {t:Nat} {v:Value} {l:List UInt8} (h:TapeOf w t v l) (hl:l.length<2\/160<lenT l) :
  Calls prog 251 #[.pointer (some ⟨t,0,none⟩),.int .i64 2,.int .u64 160] w fun e w'=>∃ v',e=.returned (.int .i64 0)/\Hid (TapeAt w' t v' true/\Touch t w w'):=by
 have HW:=lh (twhole_any h.1);have c0:w.cell? ⟨t,0,none⟩=some v:=cellB h.1;by_cases h2:l.length<2
 ·have HK:=lh (tnum_no h h2);obtain ⟨g,o,c,rfl,_⟩:=h.2.1;clear h hl;go_enter func251,ntmps251;go_wp2_with fail;refine HW.out.mono ?_;rintro e w1 ⟨rfl,rfl⟩;go_wp2_with fail;refine HK.out.mono ?_;rintro e w1 ⟨rfl,h1⟩;go_wp2;go_ret;exact ⟨_,rfl,h1⟩
 ·have hm:160<lenT l:=by omega
  have hu:=lenT_lt l;have HK:=lh (tnum_ok h (by omega));obtain ⟨g,o,c,rfl,_⟩:=h.2.1;clear h hl;generalize lenT l=n at *;go_enter func251,ntmps251;go_wp2_with fail;refine HW.out.mono ?_;rintro e w1 ⟨rfl,rfl⟩;go_wp2_with fail;refine HK.out.mono ?_;rintro e w1 ⟨v',rfl,h1⟩;go_wp2_with fail;refine (tback_any h1.out.1.1 _ _ _).mono ?_;rintro e w2 ⟨rfl,h2⟩;go_wp2;go_ret;exact ⟨_,rfl,h2.out.1,h1.out.2.trans h2.out.2⟩
end
section
open Go.RowKit Go.Shelf
set_option maxHeartbeats 1000000 in
theorem ttext_ok {w:World} {t:Nat} {v:Value} {l:List UInt8} (h:TapeOf w t v l) (hf:fitT l=true) :
  Calls prog 181 #[.pointer (some ⟨t,0,none⟩),.int .i64 160] w fun e w'=>∃ v',e=.returned (.string (bsL ((l.drop 2).take (lenT l))))/\Hid (TapeOf w' t v' (l.drop (2+lenT l))/\Touch t w w'):=by
 unfold fitT at hf;rw [Bool.and_eq_true,Bool.and_eq_true,decide_eq_true_eq,decide_eq_true_eq,decide_eq_true_eq] at hf;obtain ⟨⟨hl,hm⟩,hn⟩:=hf;have HK:=lh (tbelow_ok h hl hm);have HW:=lh (twhole_any h.1);have c0:w.cell? ⟨t,0,none⟩=some v:=cellB h.1;obtain ⟨g,o,c,rfl,_⟩:=h.2.1;have HD:=lh (show l.drop (2+lenT l)=(l.drop 2).drop (lenT l) from by rw [List.drop_drop]);rw [HD.out];have hn2:lenT l<=(l.drop 2).length:=by rw [List.length_drop];omega
 clear h HD hn;generalize l.drop 2=r at *;generalize lenT l=n at *;generalize l.length=L at *;go_enter func181,ntmps181;go_wp2_with fail;refine HW.out.mono ?_;rintro e w1 ⟨rfl,rfl⟩;go_wp2_with fail;refine HK.out.mono ?_;rintro e w1 ⟨v',rfl,h1⟩;have HT:=lh (ttake_ok h1.out.1 n hn2);have H1:=h1;clear h1;go_wp2_with fail;refine HT.out.mono ?_;rintro e w2 ⟨u,v2,rfl,h2⟩;have H2:=h2;have hcv:=conv_sl h2.out.1;obtain ⟨g2,o2,c2,hu,_⟩:=h2.out.1;rw [List.length_take,Nat.min_eq_left hn2] at hu;subst hu;clear h2;go_wp2;go_ret;exact ⟨v2,rfl,H2.out.2.1,H1.out.2.trans H2.out.2.2⟩
set_option maxHeartbeats 1000000 in
theorem ttext_no {w:World} {t:Nat} {v:Value} {l:List UInt8} (h:TapeOf w t v l) (hf:fitT l=false) :
  Calls prog 181 #[.pointer (some ⟨t,0,none⟩),.int .i64 160] w fun e w'=>∃ v',e=.returned (.string ⟨#[]⟩)/\Hid (TapeAt w' t v' true/\Touch t w w'):=by
 have HW:=lh (twhole_any h.1);have c0:w.cell? ⟨t,0,none⟩=some v:=cellB h.1;by_cases hb:l.length<2\/160<lenT l
 ·have HK:=lh (tbelow_no h hb);obtain ⟨g,o,c,rfl,_⟩:=h.2.1;clear h hf hb;generalize l.length=L at *;go_enter func181,ntmps181;go_wp2_with fail;refine HW.out.mono ?_;rintro e w1 ⟨rfl,rfl⟩;go_wp2_with fail;refine HK.out.mono ?_;rintro e w1 ⟨v',rfl,h1⟩;have H1:=h1;clear h1;go_wp2_with fail;refine (ttake_torn H1.out.1 _).mono ?_;rintro e w2 ⟨rfl,rfl⟩;go_wp2_with fail;refine (tback_any H1.out.1 _ _ _).mono ?_;rintro e w2 ⟨rfl,h2⟩;go_wp2;go_ret;exact ⟨_,rfl,h2.out.1,H1.out.2.trans h2.out.2⟩
 ·have hl:2<=l.length:=by omega
  have hm:lenT l<=160:=by omega
  have hn2:(l.drop 2).length<lenT l:=by
   unfold fitT at hf;rw [decide_eq_true hl,decide_eq_true hm] at hf;rw [Bool.true_and,Bool.true_and,decide_eq_false_iff_not] at hf;rw [List.length_drop];omega
  have HK:=lh (tbelow_ok h hl hm);obtain ⟨g,o,c,rfl,_⟩:=h.2.1;clear h hf hb;generalize l.drop 2=r at *;generalize lenT l=n at *;generalize l.length=L at *;go_enter func181,ntmps181;go_wp2_with fail;refine HW.out.mono ?_;rintro e w1 ⟨rfl,rfl⟩;go_wp2_with fail;refine HK.out.mono ?_;rintro e w1 ⟨v',rfl,h1⟩;have HT:=lh (ttake_no h1.out.1 n hn2);have H1:=h1;clear h1;go_wp2_with fail;refine HT.out.mono ?_;rintro e w2 ⟨rfl,h2⟩;have H2:=h2;clear h2;go_wp2_with fail;refine (tback_any H2.out.1 _ _ _).mono ?_;rintro e w3 ⟨rfl,h3⟩;go_wp2;go_ret;exact ⟨_,rfl,h3.out.1,(H1.out.2.trans H2.out.2).trans h3.out.2⟩
theorem row_sl {w:World} {base n:Nat} {e:TypeId} {v:Value} {l:List UInt8} (h:w.ownsRow base e 1 v n (l.map bv)) (hn:n=l.length) (hv:v≠.slice none 0 0):BytesSl w v l/\∀ g o n c,v=.slice (some ⟨g,o,none⟩) n c->base<=g/\g<w.heap.size:=by
 subst hn;rcases h.2 with ⟨rfl,_⟩ | ⟨g,cap,cur,rfl,hb,hh,h1,h2,h3,h4⟩
 ·exact absurd rfl hv
 ·refine ⟨⟨g,0,cap,rfl,h1,h2,fun j x hx=>?_⟩,fun g' o n c e=>by cases e;exact ⟨hb,ltB hh⟩⟩;rw [Nat.zero_add];refine (cellB hh).trans ?_;have h5:(l.map bv)[j]?=some (bv x):=by rw [List.getElem?_map,hx];rfl
  rw [<-h4,List.getElem?_take] at h5;split at h5
  ·rw [<-Array.getElem?_toList];exact h5
  ·cases h5
theorem elByte:Elem prog 52 5 (.int .u8 0) 1:=⟨by kernel_rfl,by kernel_rfl,rfl,by decide⟩
set_option maxHeartbeats 1000000 in
theorem tnew_any {w:World} {v:Value} {l:List UInt8} (h:BytesSl w v l) (hl:l.length<=1048576) :
  Calls prog 180 #[v] w fun e w'=>∃ t v',e=.returned (.pointer (some ⟨t,0,none⟩))/\Hid (TapeOf w' t v' l/\Ext w w'/\w.heap.size<=t):=by
 have HB:=lh h;obtain ⟨g,o,cap,rfl,h1,h2,_⟩:=h;obtain ⟨i,hi,hz,hs,hb⟩:=info_parts elByte.info;have HL:=lh (show (l.map bv).length=l.length*1 from by rw [List.length_map,Nat.mul_one]);go_enter func180,ntmps180;go_wp2_with (at_builtin;refine wpList_append_own _ rfl _ _ 52 rfl w.heap.size 5 i (.int .u8 0) 1 1 elByte.ut hi hz hs hb rfl (by decide) _ _ _ rfl (World.ownsRow_made w #[] 0 (Nat.le_refl _) (Nat.zero_le _) (by simp)) ⟨g,o,none⟩ l.length cap (l.map bv) rfl ?qc1 ?qc2 ?qc3 ?qc4 ?qc5 ?qc6 ?_)
 case qc1=>exact HL.out
 case qc2 =>
  intro j u hj;rw [List.getElem?_map] at hj
  cases hx:l[j]? with
  | none=>rw [hx] at hj;cases hj
  | some x =>
   rw [hx] at hj
   cases hj
   obtain ⟨_,_,_,e,_,_,h3⟩:=HB.out
   cases e
   rw [show (⟨g,o,none⟩:Addr).add j=⟨g,o+j,none⟩ from by unfold Addr.add;split <;> simp_all];exact Lib.cell?_alloc_some _ (h3 j x hx)
 case qc3 =>
  intro u hu;obtain ⟨x,_,rfl⟩:=List.mem_map.1 hu;rfl
 case qc4=>rw [Nat.zero_add];unfold maxLen;omega
 case qc5=>rw [Nat.zero_add];omega
 case qc6=>simp
 intro v' w1 hown hgrow hnil
 skip
 obtain ⟨k1,k2⟩:=row_sl (l:=l) hown rfl hnil;have K1:=lh k1;have K2:=lh k2;have X1:=lh (show Ext w w1 from ((Below.refl _ w).alloc (Nat.le_refl _) _).grown hgrow (by simp) (by intro k hk;simp [Value.ownBlock] at hk;omega));obtain ⟨g',o',c',rfl,_⟩:=k1;have HN:=lh (block_alloc_new w1 (.cells #[.slice (some ⟨g',o',none⟩) l.length c',.bool true,.bool false] 329 (0,0)));have XN:=lh ((Ext.refl w1).alloc (.cells #[.slice (some ⟨g',o',none⟩) l.length c',.bool true,.bool false] 329 (0,0)));clear hown hgrow hnil k2;go_wp2;go_ret;refine ⟨w1.heap.size,_,rfl,⟨HN.out,K1.out.ext XN.out,fun g o n c e=>?_⟩,X1.out.trans XN.out,X1.out.size⟩;have:=(K2.out g o n c e).2;omega
theorem conv_text (s:ByteArray) (w:World) (hs:s.size<=1048576):∃ v w',(convert 9 52 (.string s)).run prog w=.ok v w'/\BytesSl w' v s.toList/\Ext w w':=by
 refine ⟨_,_,Lib.run_convert_string_bytes w 9 52 5 s underlying9 underlying52 (by kernel_rfl),⟨w.heap.size,0,_,by rw [len_toList],by rw [len_toList];exact grownCap_ge _ _ _ _,grownCap_le_maxLen _ _ _ _ (by unfold maxLen;omega),fun j x hj=>?_⟩,Lib.bytesWorld_below _ _ _⟩;have hj':j<s.size:=by rw [<-len_toList];exact (List.getElem?_eq_some_iff.1 hj).1
 rw [Nat.zero_add,Lib.bytesWorld_cell _ _ _ _ hj',<-Lib.toList_data,List.getD_eq_getElem?_getD,hj];rfl
set_option maxHeartbeats 1000000 in
theorem tbytes_any {w:World} {t:Nat} {v:Value} {l:List UInt8} (h:TapeOf w t v l) (hl:l.length<=1048576) :
  Calls prog 183 #[.pointer (some ⟨t,0,none⟩),.int .i64 (l.length:Nat)] w fun e w'=>∃ u,e=.returned u/\Hid (BytesSl w' u l/\∃ w1,Touch t w w1/\Ext w1 w'):=by
 have HT:=lh (ttake_ok h l.length (Nat.le_refl _));rw [List.take_of_length_le (Nat.le_refl _)] at HT;obtain ⟨i,hi,hz,hs,hb⟩:=info_parts elByte.info;have HL:=lh (show (l.map bv).length=l.length*1 from by rw [List.length_map,Nat.mul_one]);clear h;obtain ⟨L,hLL⟩:∃ L,L=l.length:=⟨_,rfl⟩;have HLL:=lh hLL;rw [<-hLL] at HT hl HL ⊢;clear hLL;go_enter func183,ntmps183;go_wp2_with fail;refine HT.out.mono ?_;rintro e w1 ⟨u,v',rfl,h1⟩;have HB:=lh h1.out.1;have HTo:=lh h1.out.2.2;obtain ⟨g,o,cap,hu,_⟩:=h1.out.1;rw [<-HLL.out] at hu;subst hu;clear h1;go_wp2_with (at_builtin;refine wpList_append_own _ rfl _ _ 52 rfl w1.heap.size 5 i (.int .u8 0) 1 1 elByte.ut hi hz hs hb rfl (by decide) _ _ _ rfl (World.ownsRow_made w1 #[] 0 (Nat.le_refl _) (Nat.zero_le _) (by simp)) ⟨g,o,none⟩ L cap (l.map bv) rfl ?qc1 ?qc2 ?qc3 ?qc4 ?qc5 ?qc6 ?_)
 case qc1=>exact HL.out
 case qc2 =>
  intro j u hj;rw [List.getElem?_map] at hj
  cases hx:l[j]? with
  | none=>rw [hx] at hj;cases hj
  | some x =>
   rw [hx] at hj
   cases hj
   obtain ⟨_,_,_,e,_,_,h3⟩:=HB.out
   cases e
   rw [show (⟨g,o,none⟩:Addr).add j=⟨g,o+j,none⟩ from by unfold Addr.add;split <;> simp_all];exact Lib.cell?_alloc_some _ (h3 j x hx)
 case qc3 =>
  intro u hu;obtain ⟨x,_,rfl⟩:=List.mem_map.1 hu;rfl
 case qc4=>rw [Nat.zero_add];unfold maxLen;omega
 case qc5=>rw [Nat.zero_add];omega
 case qc6=>simp
 intro v3 w3 hown hgrow hnil
 skip
 obtain ⟨k1,_⟩:=row_sl (l:=l) hown HLL.out hnil;have X1:=lh (show Ext w1 w3 from ((Below.refl _ w1).alloc (Nat.le_refl _) _).grown hgrow (by simp) (by intro k hk;simp [Value.ownBlock] at hk;omega));have K1:=lh k1;clear hown hgrow hnil k1;go_wp2;go_ret;exact ⟨v3,rfl,K1.out,w1,HTo.out,X1.out⟩
end
section
open Go.RowKit Go.Shelf
theorem results_mid {P:Program} {fn:Func} {p u v:Tmp} {ty:TypeId} (h:fn.results=#[.tmp u,.cell p ty,.tmp v]) (tmps:Array Value) (w:World) (g:Nat) (t:TypeId) (cs:Array Value) (fr:Nat×Nat) (d:TypeDesc)
  (hp:tmps.getD p undef=.pointer (some ⟨g,0,none⟩)) (hg:w.heap[g]?=some (.cells cs t fr))
  (hu:P.underlying ty=some d) (hd:(match d with | .struct _ | .array _ _=>true | _=>false)=true) (hi:(P.info? ty).map (·.size)=some cs.size) :
  (results fn tmps).run P w=.ok (.tuple #[tmps.getD u undef,.agg cs,tmps.getD v undef]) w:=by
 have hp':tmps[p]?.getD undef=.pointer (some ⟨g,0,none⟩):=by simpa using hp
 simp [results,h,hp',asAddr,Result.andThen,run_loadVar_row w g t ty cs fr d hg hu hd hi]
def nodeC (n:Nd):Array Value:=#[.int .i64 n.kind,.string n.data,.string n.target,.int .i64 n.time]
def openV (n:Nd):Value:=if openB n then .tuple #[.string (openP n),.agg (nodeC ⟨n.kind,openD n,n.target,n.time⟩),.bool true] else .tuple #[.string ⟨#[]⟩,.agg (nodeC nd0),.bool false]
theorem node_info (a b c d:Value):(prog.info? 84).map (·.size)=some (#[a,b,c,d]:Array Value).size:=by
 show _=some 4
 kernel_rfl
theorem node_all (k t:Int) (d g:ByteArray):(#[.int .i64 k,.string d,.string g,.int .i64 t]:Array Value).all (·.oneCell')=true:=by simp [Value.oneCell']
theorem ext_bs (s:ByteArray) (a b:Nat):s.extract a b=bsL ((s.toList.drop a).take (b - a)):=ba_ext (by rw [toList_extract];exact (toList_mk _).symm)
theorem openP_bs (n:Nd):openP n=bsL ((n.data.toList.drop 2).take (lenT n.data.toList)):=by
 unfold openP;rw [ext_bs,Nat.add_sub_cancel_left]
theorem openD_bs (n:Nd):openD n=bsL (n.data.toList.drop (2+lenT n.data.toList)):=by
 unfold openD;rw [ext_bs,List.take_of_length_le (by rw [List.length_drop,len_toList];exact Nat.le_refl _)]
set_option maxRecDepth 100000 in
set_option maxHeartbeats 4000000 in
theorem aopened_any (n:Nd) (w:World) (hd:n.data.size<=1048576) (E:Env w) :
  Calls prog 111 #[.agg #[.int .i64 n.kind,.string n.data,.string n.target,.int .i64 n.time]] w fun e w'=>e=.returned (openV n)/\Ext w w':=by
 obtain ⟨kd,dt,tg,tm⟩:=n;have hd:dt.size<=1048576:=hd;have HV:=lh (show openV ⟨kd,dt,tg,tm⟩=if openB ⟨kd,dt,tg,tm⟩ then .tuple #[.string (openP ⟨kd,dt,tg,tm⟩),.agg (nodeC ⟨kd,openD ⟨kd,dt,tg,tm⟩,tg,tm⟩),.bool true] else .tuple #[.string ⟨#[]⟩,.agg (nodeC nd0),.bool false] from rfl);have HOB:=lh (show openB ⟨kd,dt,tg,tm⟩=(decide (kd=1)&&fitT dt.toList&&mayB (openP ⟨kd,dt,tg,tm⟩)) from rfl);have HOP:=lh (openP_bs ⟨kd,dt,tg,tm⟩);have HOD:=lh (openD_bs ⟨kd,dt,tg,tm⟩);generalize openV ⟨kd,dt,tg,tm⟩=V at *;generalize openB ⟨kd,dt,tg,tm⟩=B at *;generalize openP ⟨kd,dt,tg,tm⟩=P at *;generalize openD ⟨kd,dt,tg,tm⟩=D at *;dsimp only;have HB1':=lh (block_alloc_new w (.cells #[.int .i64 kd,.string dt,.string tg,.int .i64 tm] 84 (0,0)));have HB3':=lh (block_alloc_new (w.alloc (.cells #[.int .i64 kd,.string dt,.string tg,.int .i64 tm] 84 (0,0))) (.cells #[.int .i64 0,.string ⟨#[]⟩,.string ⟨#[]⟩,.int .i64 0] 84 (0,0)));have X0:=lh (((Ext.refl w).alloc (.cells #[.int .i64 kd,.string dt,.string tg,.int .i64 tm] 84 (0,0))).alloc (.cells #[.int .i64 0,.string ⟨#[]⟩,.string ⟨#[]⟩,.int .i64 0] 84 (0,0)));rw [size_alloc] at HB3';have hs0:((w.alloc (.cells #[.int .i64 kd,.string dt,.string tg,.int .i64 tm] 84 (0,0))).alloc (.cells #[.int .i64 0,.string ⟨#[]⟩,.string ⟨#[]⟩,.int .i64 0] 84 (0,0))).heap.size=w.heap.size+2:=by rw [size_alloc,size_alloc]
 have HB1:=lh ((block_alloc_old (o:=.cells #[.int .i64 0,.string ⟨#[]⟩,.string ⟨#[]⟩,.int .i64 0] 84 (0,0)) (by rw [size_alloc];omega)).trans HB1'.out);have HB3:=HB3';have HCV:=lh (conv_text dt ((w.alloc (.cells #[.int .i64 kd,.string dt,.string tg,.int .i64 tm] 84 (0,0))).alloc (.cells #[.int .i64 0,.string ⟨#[]⟩,.string ⟨#[]⟩,.int .i64 0] 84 (0,0))) hd);have E0:=lh E;clear E HB1' HB3';go_enter func111,ntmps111;obtain ⟨v1,w1,hcv,hb1,x1⟩:=HCV.out;have HT1:=lh (tnew_any hb1 (by rw [len_toList];exact hd));have X1:=lh x1;obtain ⟨g1,o1,c1,rfl,_⟩:=hb1;clear HCV x1;go_wp2_with fail;refine HT1.out.mono ?_;rintro e w2 ⟨t,v2,rfl,h2⟩;have H2:=h2;have X2:=lh (X1.out.trans h2.out.2.1);have HB12:=lh ((X2.out.block (ltB HB1.out)).trans HB1.out);have HB32:=lh ((X2.out.block (ltB HB3.out)).trans HB3.out);have ht1:w.heap.size+1<t:=by have:=X1.out.size;have:=h2.out.2.2;omega
 clear h2
 cases hf:fitT dt.toList with
 | false =>
  have HB:=lh (show B=false from by rw [HOB.out,hf];simp);have HQ:=lh (show V=.tuple #[.string ⟨#[]⟩,.agg (nodeC nd0),.bool false] from by rw [HV.out,HB.out];rfl);have HTx:=lh (ttext_no H2.out.1 hf);clear hf HB HV HOB HOP HOD;go_wp2_with fail;refine HTx.out.mono ?_;rintro e w3 ⟨v3,rfl,h3⟩;have HB13:=lh ((h3.out.2.block _ (ltB HB12.out) (fun e=>by have:=Option.some.inj e;omega)).trans HB12.out);have HB33:=lh ((h3.out.2.block _ (ltB HB32.out) (fun e=>by have:=Option.some.inj e;omega)).trans HB32.out);have HT3:=lh h3.out.1;have X3:=lh (h3.out.2.fresh (X0.out.trans X2.out) (by omega));clear h3;have q0:w3.cell? ⟨w.heap.size,0,none⟩=some (.int .i64 kd):=cellB HB13.out;by_cases hk:kd=1
  ·subst hk;go_wp2_with fail;refine (terr_any HT3.out).mono ?_;rintro e w4 ⟨rfl,rfl⟩;go_wp2_with (refine wpList_storeT rfl _ _ _ rfl (w.heap.size+1) #[.int .i64 0,.string ⟨#[]⟩,.string ⟨#[]⟩,.int .i64 0] rfl rfl 84 _ HB33.out (node_info _ _ _ _) rfl (node_all _ _ _ _) ?_;intro W6 hb6 ht6;have HB6:=lh hb6;have HT6:=lh ht6;clear hb6 ht6;go_frame);refine bodyPost_ret (results_mid rfl _ _ (w.heap.size+1) 84 _ (0,0) _ rfl HB6.out underlying84 rfl (node_info _ _ _ _)) rfl ⟨by rw [HQ.out];rfl,HT6.out.fresh X3.out (by omega)⟩
  ·have g1:(kd != 1)=true:=by simpa using hk
   go_wp2_with (refine wpList_storeT rfl _ _ _ rfl (w.heap.size+1) #[.int .i64 0,.string ⟨#[]⟩,.string ⟨#[]⟩,.int .i64 0] rfl rfl 84 _ HB33.out (node_info _ _ _ _) rfl (node_all _ _ _ _) ?_;intro W6 hb6 ht6;have HB6:=lh hb6;have HT6:=lh ht6;clear hb6 ht6;go_frame);refine bodyPost_ret (results_mid rfl _ _ (w.heap.size+1) 84 _ (0,0) _ rfl HB6.out underlying84 rfl (node_info _ _ _ _)) rfl ⟨by rw [HQ.out];rfl,HT6.out.fresh X3.out (by omega)⟩
 | true =>
  have HTx:=lh (ttext_ok H2.out.1 hf);have HOP2:=lh (show P=bsL ((dt.toList.drop 2).take (lenT dt.toList)) from HOP.out);rw [<-HOP2.out] at HTx
  have HP:=lh (show P.size<=160 from by
   unfold fitT at hf;rw [Bool.and_eq_true,Bool.and_eq_true,decide_eq_true_eq,decide_eq_true_eq,decide_eq_true_eq] at hf;rw [HOP2.out];unfold bsL;rw [size_mk,List.size_toArray,List.length_take]
   omega)
  have HM:=lh (fun w1 (x:Ext w w1)=>may_any P w1 (by have:=HP.out;omega) (E0.out.ext x));have HO2:=lh (show B=(decide (kd=1)&&mayB P) from by rw [HOB.out,hf,Bool.and_true]);have hlen:(dt.toList.drop (2+lenT dt.toList)).length<=1048576:=by rw [List.length_drop,len_toList];omega
  have HOD2:=lh (show D=bsL (dt.toList.drop (2+lenT dt.toList)) from HOD.out);clear hf HOB HOP HOP2 HOD;generalize dt.toList.drop (2+lenT dt.toList)=r at *;go_wp2_with fail;refine HTx.out.mono ?_;rintro e w3 ⟨v3,rfl,h3⟩;have HB13:=lh ((h3.out.2.block _ (ltB HB12.out) (fun e=>by have:=Option.some.inj e;omega)).trans HB12.out);have HB33:=lh ((h3.out.2.block _ (ltB HB32.out) (fun e=>by have:=Option.some.inj e;omega)).trans HB32.out);have HT3:=lh h3.out.1;have X3:=lh (h3.out.2.fresh (X0.out.trans X2.out) (by omega));clear h3;have q0:w3.cell? ⟨w.heap.size,0,none⟩=some (.int .i64 kd):=cellB HB13.out;by_cases hk:kd=1
  ·subst hk;go_wp2_with fail;refine (terr_any HT3.out.1).mono ?_;rintro e w4 ⟨rfl,rfl⟩
   cases hm:mayB P with
   | false =>
    have HB:=lh (show B=false from by rw [HO2.out,hm];simp);have HQ:=lh (show V=.tuple #[.string ⟨#[]⟩,.agg (nodeC nd0),.bool false] from by rw [HV.out,HB.out];rfl);rw [hm] at HM;have X3':=X3;clear HB HV HO2;go_wp2_with fail;refine (HM.out _ X3.out).mono ?_;rintro e w5 ⟨rfl,x5⟩;have HB35:=lh ((x5.block (ltB HB33.out)).trans HB33.out);have X3:=lh (X3'.out.trans x5);clear x5;go_wp2_with (refine wpList_storeT rfl _ _ _ rfl (w.heap.size+1) #[.int .i64 0,.string ⟨#[]⟩,.string ⟨#[]⟩,.int .i64 0] rfl rfl 84 _ HB35.out (node_info _ _ _ _) rfl (node_all _ _ _ _) ?_;intro W6 hb6 ht6;have HB6:=lh hb6;have HT6:=lh ht6;clear hb6 ht6;go_frame);refine bodyPost_ret (results_mid rfl _ _ (w.heap.size+1) 84 _ (0,0) _ rfl HB6.out underlying84 rfl (node_info _ _ _ _)) rfl ⟨by rw [HQ.out];rfl,HT6.out.fresh X3.out (by omega)⟩
   | true =>
    have HB:=lh (show B=true from by rw [HO2.out,hm];rfl);have HQ:=lh (show V=.tuple #[.string P,.agg (nodeC ⟨1,D,tg,tm⟩),.bool true] from by rw [HV.out,HB.out];rfl);rw [hm] at HM;clear HB HV HO2;go_wp2_with fail;refine (HM.out _ X3.out).mono ?_;rintro e w5 ⟨rfl,x5⟩;have HB15:=lh ((x5.block (ltB HB13.out)).trans HB13.out);have HB35:=lh ((x5.block (ltB HB33.out)).trans HB33.out);have HT5:=lh (show TapeOf w5 t v3 r from ⟨(x5.block (ltB HT3.out.1)).trans HT3.out.1,HT3.out.2.1.ext x5,HT3.out.2.2⟩);have X5:=lh (X3.out.trans x5);have h5s:=x5.size;clear x5 q0;have HLf:=lh HT5.out.1;have HBy:=lh (tbytes_any HT5.out hlen);obtain ⟨g3,o3,c3,hv3,_⟩:=HT5.out.2.1;subst hv3;go_wp2_with fail;refine (tleft_any HLf.out).mono ?_;rintro e w6 ⟨rfl,rfl⟩;go_wp2_with fail;refine HBy.out.mono ?_;rintro e w7 ⟨u,rfl,h7⟩;obtain ⟨hbu,w8,ht8,hx8⟩:=h7.out;have hcu:=conv_sl hbu;have HB17:=lh ((hx8.block (by have:=ltB HB15.out;have:=ht8.size;omega)).trans ((ht8.block _ (ltB HB15.out) (fun e=>by have:=Option.some.inj e;omega)).trans HB15.out));have HB37:=lh ((hx8.block (by have:=ltB HB35.out;have:=ht8.size;omega)).trans ((ht8.block _ (ltB HB35.out) (fun e=>by have:=Option.some.inj e;omega)).trans HB35.out));have X7:=lh ((ht8.fresh X5.out (by omega)).trans hx8);rw [<-HOD2.out] at hcu;obtain ⟨gu,ou,cu,hu,_⟩:=hbu;subst hu;clear h7 ht8 hx8 HBy HLf;go_wp2_with (refine wpList_store1 rfl _ _ _ rfl w.heap.size 1 (.string D) rfl rfl (by kernel_rfl) rfl #[.int .i64 1,.string dt,.string tg,.int .i64 tm] 84 HB17.out (Nat.succ_lt_succ (Nat.succ_pos 2)) ?_;intro w9 e9;have HB19:=lh (show w9.heap[w.heap.size]?=some (.cells #[.int .i64 1,.string D,.string tg,.int .i64 tm] 84 (0,0)) from by rw [e9];exact setCellB HB17.out);have HT9:=lh (show Touch w.heap.size w7 w9 from by rw [e9];exact ⟨rfl,rfl,rfl,by unfold World.setCell;simp,fun i _ hne=>setCellO fun e=>hne (by rw [e])⟩);clear e9;go_frame);have HB39:=lh ((HT9.out.block _ (ltB HB37.out) (fun e=>by have:=Option.some.inj e;omega)).trans HB37.out);have X9:=lh (HT9.out.fresh X7.out (Nat.le_refl _));refine wp_region_held (S:=fun w'=>w'.heap[w.heap.size]?=some (.cells #[.int .i64 1,.string D,.string tg,.int .i64 tm] 84 (0,0))) (by kernel_rfl) ?_;change wpAnyH _ _ _ _ _ _ _ _ (World.drew _);have s0:w9.drew.heap[w.heap.size]?=some (.cells #[.int .i64 1,.string D,.string tg,.int .i64 tm] 84 (0,0)):=HB19.out;refine wpAnyH_takeL (i:=0) (v:=.string P) rfl (by kernel_rfl) (by kernel_rfl) (by kernel_rfl) (fun _ _ _ h=>h) (yieldsIf_move rfl _ rfl rfl) s0 ?_;go_frame;refine wpAnyH_takeL (i:=1) (v:=.agg #[.int .i64 1,.string D,.string tg,.int .i64 tm]) rfl (by kernel_rfl) (by kernel_rfl) (by kernel_rfl) (fun _ _ _ h=>h) (yieldsIf_load_row rfl 84 (.tmp 1) rfl w.heap.size rfl 84 _ (0,0) _ (fun _ h=>h) underlying84 rfl (node_info _ _ _ _)) s0 ?_;go_frame;refine wpAnyH_takeL (i:=2) (v:=.string P) rfl (by kernel_rfl) (by kernel_rfl) (by kernel_rfl) (fun _ _ _ h=>h) (yieldsIf_assign rfl _ rfl rfl) s0 ?_;go_frame;refine wpAnyH_storeT (i:=3) (by kernel_rfl) rfl rfl 84 (.tmp 3) (.tmp 34) rfl (w.heap.size+1) #[.int .i64 1,.string D,.string tg,.int .i64 tm] rfl rfl 84 #[.int .i64 0,.string ⟨#[]⟩,.string ⟨#[]⟩,.int .i64 0] HB39.out (node_info _ _ _ _) rfl (node_all _ _ _ _) ?_;intro W6 hb6 ht6;have HB6:=lh hb6;have X6:=lh (ht6.fresh X9.out.drew (by omega));have s6:W6.heap[w.heap.size]?=some (.cells #[.int .i64 1,.string D,.string tg,.int .i64 tm] 84 (0,0)):=(ht6.block _ (ltB s0) (fun e=>by have:=Option.some.inj e;omega)).trans s0;clear hb6 ht6;refine ⟨s6,?_⟩;go_frame;refine wpAnyH_takeL (i:=4) (v:=.bool true) rfl (by kernel_rfl) (by kernel_rfl) (by kernel_rfl) (fun _ _ _ h=>h) (yieldsIf_assign rfl _ rfl rfl) s6 ?_;go_frame;refine wpAnyH_done (by kernel_rfl) ?_ _;go_wp2;refine bodyPost_ret (results_mid rfl _ _ (w.heap.size+1) 84 _ (0,0) _ rfl HB6.out underlying84 rfl (node_info _ _ _ _)) rfl ⟨by rw [HQ.out];rfl,X6.out⟩
  ·have g1:(kd != 1)=true:=by simpa using hk
   have HB:=lh (show B=false from by rw [HO2.out,decide_eq_false hk];rfl);have HQ:=lh (show V=.tuple #[.string ⟨#[]⟩,.agg (nodeC nd0),.bool false] from by rw [HV.out,HB.out];rfl);clear HB HV HO2;go_wp2_with (refine wpList_storeT rfl _ _ _ rfl (w.heap.size+1) #[.int .i64 0,.string ⟨#[]⟩,.string ⟨#[]⟩,.int .i64 0] rfl rfl 84 _ HB33.out (node_info _ _ _ _) rfl (node_all _ _ _ _) ?_;intro W6 hb6 ht6;have HB6:=lh hb6;have HT6:=lh ht6;clear hb6 ht6;go_frame);refine bodyPost_ret (results_mid rfl _ _ (w.heap.size+1) 84 _ (0,0) _ rfl HB6.out underlying84 rfl (node_info _ _ _ _)) rfl ⟨by rw [HQ.out];rfl,HT6.out.fresh X3.out (by omega)⟩
end
section
open Go.RowKit Go.Shelf
set_option maxRecDepth 100000 in
set_option maxHeartbeats 2000000 in
theorem aput_two (n:Nat) (w:World) (hn:n<65536) :
  Calls prog 174 #[.slice none 0 0,.int .i64 2,.int .u64 n] w fun e w'=>∃ v,e=.returned v/\Hid (w'.ownsRow w.heap.size 5 1 v 2 ([UInt8.ofNat (n / 256),UInt8.ofNat (n % 256)].map bv)/\v≠.slice none 0 0/\Ext w w'):=by
 obtain ⟨i,hi,hz,hs,hb⟩:=info_parts elByte.info;go_enter func174,ntmps174;go_wp2_with (refine wpList_append_own_none rfl _ _ 52 rfl w.heap.size 5 i 1 elByte.ut hi _ 0 [] rfl (World.ownsRow_made w #[] 0 (Nat.le_refl _) (Nat.zero_le _) (by simp)) rfl ?_);refine (tmay_two _).mono ?_;rintro e w1 ⟨rfl,rfl⟩;go_wp2;refine wp_loop_rounds 3 ?_;rw [rounds_succ];have HO:=lh (owns_ext (World.ownsRow_made (e:=5) w #[] 0 (Nat.le_refl _) (Nat.zero_le _) (by simp):(w.alloc (.cells #[] 5)).ownsRow w.heap.size 5 1 (.slice (some ⟨w.heap.size,0,none⟩) 0 0) 0 []) ((Ext.refl _).alloc (.cells #[.int .u8 ((n:Int) / 256)] 5 (0,0))))
 have hc0:((w.alloc (.cells #[] 5)).alloc (.cells #[.int .u8 ((n:Int) / 256)] 5)).cell? ⟨w.heap.size+1,0,none⟩=some (.int .u8 ((n:Int) / 256)):=by
  have:=block_alloc_new (w.alloc (.cells #[] 5)) (.cells #[.int .u8 ((n:Int) / 256)] 5 (0,0));rw [size_alloc] at this;exact cellB this
 go_wp2_with (at_builtin;refine append_one elByte w.heap.size (.slice (some ⟨w.heap.size,0,none⟩) 0 0) 0 [] HO.out (w.heap.size+1) (.int .u8 ((n:Int) / 256)) (.tmp 23) (.tmp 28) rfl rfl rfl rfl hc0 rfl (Nat.zero_le _) (by simp only [size_alloc];omega) ?_;intro v1 w1 ho1 hg1 hi1;have HO1:=lh ho1;have HG1:=lh hg1;have HI1:=lh hi1;clear ho1 hg1 hi1;go_frame);have X1:=lh (show Ext w w1 from (((Ext.refl w).alloc _).alloc _).grown HG1.out (by simp only [size_alloc];omega) (by intro k hk;simp [Value.ownBlock] at hk;omega));have hs1:=X1.out.size;clear hc0 HO;have HO2:=lh (owns_ext HO1.out ((Ext.refl w1).alloc (.cells #[.int .u8 ((n:Int) % 256)] 5 (0,0))));have hc0:(w1.alloc (.cells #[.int .u8 ((n:Int) % 256)] 5)).cell? ⟨w1.heap.size,0,none⟩=some (.int .u8 ((n:Int) % 256)):=cellB (block_alloc_new w1 (.cells #[.int .u8 ((n:Int) % 256)] 5 (0,0)));obtain ⟨g1,c1,rfl,hg1⟩:=HI1.out;rw [rounds_succ];go_wp2_with (at_builtin;refine append_one elByte w.heap.size (.slice (some ⟨g1,0,none⟩) (0+1) c1) (0+1) ([]++[.int .u8 ((n:Int) / 256)]) HO2.out w1.heap.size (.int .u8 ((n:Int) % 256)) (.tmp 23) (.tmp 28) rfl rfl rfl rfl hc0 rfl (Nat.le_of_ble_eq_true rfl) (by simp only [size_alloc];omega) ?_;intro v2 w2 ho2 hg2 hi2;have HO3:=lh ho2;have HG3:=lh hg2;have HI3:=lh hi2;clear ho2 hg2 hi2;go_frame);have X2:=lh (show Ext w w2 from (X1.out.alloc _).grown HG3.out (by simp only [size_alloc];omega) (by intro k hk;simp [Value.ownBlock] at hk;omega));obtain ⟨g2,c2,rfl,_⟩:=HI3.out;clear hc0 HO2;rw [rounds_succ];go_wp2;go_ret;refine ⟨_,rfl,?_,by simp,X2.out⟩
 have h1:bv (UInt8.ofNat (n / 256))=.int .u8 ((n:Int) / 256):=by
  unfold bv;rw [UInt8.toNat_ofNat']
  congr 1
  omega
 have h2:bv (UInt8.ofNat (n % 256))=.int .u8 ((n:Int) % 256):=by
  unfold bv;rw [UInt8.toNat_ofNat']
  congr 1
  omega
 rw [List.map_cons,List.map_cons,List.map_nil,h1,h2];exact HO3.out
theorem strCells_bv (s:ByteArray):Lib.strCells s=s.toList.map bv:=by
 unfold Lib.strCells;rw [<-Lib.toList_data];rfl
set_option maxRecDepth 100000 in
set_option maxHeartbeats 1000000 in
theorem aputtext_any (s:ByteArray) (w:World) (hs:s.size<=160) :
  Calls prog 107 #[.slice none 0 0,.string s] w fun e w'=>∃ v,e=.returned (.tuple #[v,.int .i64 0])/\Hid (BytesSl w' v (prefB s).toList/\Ext w w'):=by
 have HP:=lh (aput_two s.size w (by omega));obtain ⟨i,hi,hz,hsi,hb⟩:=info_parts elByte.info;go_enter func107,ntmps107;go_wp2_with fail;refine HP.out.mono ?_;rintro e w1 ⟨v,rfl,h1⟩;have H1:=h1;have hbase:w.heap.size<=w1.heap.size:=h1.out.2.2.size;clear h1;go_wp2_with (at_builtin;refine Lib.wpList_append_own_string _ rfl _ _ 52 9 rfl w.heap.size 5 i elByte.ut underlying9 hi hz hsi hb v 2 _ rfl H1.out.1 s rfl ?c3 ?c4 hbase ?_)
 case c3=>unfold maxLen;omega
 case c4=>omega
 intro v' w2 ho hg hn
 have HB:=lh (row_sl (l:=(prefB s).toList) (by
  have h2:(prefB s).toList=[UInt8.ofNat (s.size / 256),UInt8.ofNat (s.size % 256)]++s.toList:=by unfold prefB;rw [toList_append,toList_mk]
  rw [h2,List.map_append,<-strCells_bv]
  exact ho) (by rw [len_toList,prefB_size]) (fun e=>H1.out.2.1 (hn.1 e).1)).1
 have X2:=lh (show Ext w w2 from grown_ext H1.out.2.2 (Nat.le_refl _) H1.out.1 hg);clear ho hg hn;go_wp2;go_ret2;exact ⟨v',rfl,HB.out,X2.out⟩
end
section
open Go.RowKit Go.Shelf
theorem obj_at {w0 w:World} {L:List Thing} {b:Nat} {o:Obj} (h:Things w0 w (L++[.obj b o])):w.heap[b]?=some o:=by
 obtain ⟨M,I,h1,_⟩:=Things.opened (B:=[]) h;exact h1.2.2
theorem Things.box {w0 w:World} {A B:List Thing} {t:Thing} (h:Things w0 w (A++t::B)) (o:Obj):Things w0 (w.alloc o) (A++t::(B++[.obj w.heap.size o])):=by
 have:=h.add (t:=.obj w.heap.size o) (M:=[]) (I:=[w.heap.size]) ((Ext.refl w).alloc o) ⟨rfl,rfl,block_alloc_new w o⟩ (fun _ h=>(by cases h)) (fun b hb=>by rw [List.mem_singleton.1 hb];exact Nat.le_refl _);rw [List.append_assoc] at this;exact this
theorem Things.unbox {w0 w:World} {A B:List Thing} {t u:Thing} (h:Things w0 w (A++t::(B++[u]))):Things w0 w (A++t::B) :=
 h.fewer ((List.Sublist.refl A).append ((List.sublist_append_left B [u]).cons_cons t))
theorem obj_in {w0 w:World} {A B:List Thing} {t:Thing} {b:Nat} {o:Obj} (h:Things w0 w (A++t::(B++[.obj b o]))):w.heap[b]?=some o :=
 obj_at (L:=A++t::B) (by rw [List.append_assoc];exact h)
def arcP (root:ByteArray) (t k:Nat):ByteArray:=root++⟨#[47]⟩++nameA t k
set_option maxRecDepth 100000 in
set_option maxHeartbeats 8000000 in
theorem aadd_many {w0 w:World} {A B:List Thing} {d m:Nat} {D D1:Dk} (h:Things w0 w (A++.disk d D::B)) (R:DkRun m D) (R1:DkRun m D1) (hm:m<=50000) (E:EnvA w0) (root p dt g:ByteArray) (tm:Int) (now k:Nat)
  (hroot:mayB root=true) (hp:mayB p=true) (hnow:now<=4294967295) (hd:dt.size<=4096) (hR0:((readE D.live root).2≠5/\D1=D)\/((readE D.live root).2=5/\D.act (.mkdir root)=(0,D1)))
  (hk:k<10000) (hall:∀ j,j<k->(readE D1.live (arcP root now j)).2=0) (hno:(readE D1.live (arcP root now k)).2≠0)
  {r:Int} {D':Dk} (hR:D1.act (.write (arcP root now k) (prefB p++dt) tm)=(r,D')) :
  Calls prog 48 #[.pointer (some ⟨d,0,none⟩),.string root,.string p,.agg #[.int .i64 1,.string dt,.string g,.int .i64 tm],.int .i64 now] w fun e w' =>
   e=.returned (.tuple #[.string (if r=0 then nameA now k else ⟨#[]⟩),.int .i64 r])/\Hid (Things w0 w' (A++.disk d D'::B)):=by
 obtain ⟨q,hq⟩:∃ q,q=if r=0 then nameA now k else ⟨#[]⟩:=⟨_,rfl⟩
 rw [<-hq];have HQ:=lh hq;clear hq;have hr160:=mayB_size hroot;have hp160:=mayB_size hp;have HE:=lh E;have HT0:=lh (h.box (.cells #[.int .i64 1,.string dt,.string g,.int .i64 tm] 84 (0,0)));have HM1:=fun w1 (x:Ext w0 w1)=>lh (may_any root w1 (by omega) (E.env.ext x));have HM2:=fun w1 (x:Ext w0 w1)=>lh (may_any p w1 (by omega) (E.env.ext x));rw [hroot] at HM1;rw [hp] at HM2;have hck:clockB (now:Int)=true:=by unfold clockB;rw [decide_eq_true (by omega),decide_eq_true (by omega)];rfl
 have HCk:=fun w1=>lh (aclock_any (now:Int) w1);rw [hck] at HCk;have HRd:=fun w1 (x:Things w0 w1 (A++.disk d D::(B++[.obj w.heap.size (.cells #[.int .i64 1,.string dt,.string g,.int .i64 tm] 84 (0,0))])))=>lh (read_many x (E.env.ext x.is_ext) root (by omega));have HMk:=fun w1 (x:Things w0 w1 (A++.disk d D::(B++[.obj w.heap.size (.cells #[.int .i64 1,.string dt,.string g,.int .i64 tm] 84 (0,0))]))) (hh:D.act (.mkdir root)=(0,D1))=>lh (mkdir_many x (R.fit (by omega)) (E.env.ext x.is_ext) root (by omega) hh);obtain ⟨nd,er,hre⟩:∃ nd er,readE D.live root=(nd,er):=⟨_,_,rfl⟩;rw [hre] at HRd hR0;unfold nv at HRd;dsimp only at HRd hR0;have HR0:=lh hR0;have HPT:=fun w1=>lh (aputtext_any p w1 hp160);have HRj:=fun w1 (x:Things w0 w1 (A++.disk d D1::(B++[.obj w.heap.size (.cells #[.int .i64 1,.string dt,.string g,.int .i64 tm] 84 (0,0))]))) j=>lh (read_many x (E.env.ext x.is_ext) (arcP root now j) (by unfold arcP;rw [ByteArray.size_append,ByteArray.size_append,nameA_size];show root.size+1+15<_;omega));have HWk:=fun w1 (x:Things w0 w1 (A++.disk d D1::(B++[.obj w.heap.size (.cells #[.int .i64 1,.string dt,.string g,.int .i64 tm] 84 (0,0))])))=>lh (write_many x (R1.fit (by omega)) (E.env.ext x.is_ext) (arcP root now k) (prefB p++dt) tm (by unfold arcP;rw [ByteArray.size_append,ByteArray.size_append,nameA_size];show root.size+1+15<_;omega) (by rw [ByteArray.size_append,prefB_size];omega) hR);have HAll:=lh hall;have HNo:=lh hno;clear h E hck hre hR0 hall hno hR R R1 hroot hp;go_enter func48,ntmps48;go_wp2_with fail;refine (HM1 _ HT0.out.is_ext).out.mono ?_;rintro e w1 ⟨rfl,x1⟩;have HT1:=lh (HT0.out.ext x1);clear x1;go_wp2_with fail;refine (HM2 _ HT1.out.is_ext).out.mono ?_;rintro e w2 ⟨rfl,x2⟩;have HT2:=lh (HT1.out.ext x2);have q0:w2.cell? ⟨w.heap.size,0,none⟩=some (.int .i64 1):=cellB (obj_in HT2.out);clear x2;go_wp2_with fail;refine (HCk _).out.mono ?_;rintro e w3 ⟨rfl,rfl⟩;go_wp2_with fail;refine (HRd _ HT2.out).out.mono ?_;rintro e w3 ⟨rfl,x3⟩;have HT3:=lh ((HT2.out.ext x3).ext ((Ext.refl w3).alloc (.cells #[.int .i64 nd.kind,.string nd.data,.string nd.target,.int .i64 nd.time] 84 (0,0))));clear x3 q0;rcases HR0.out with ⟨h5,h6⟩ | ⟨h5,h6⟩
 case' inl =>
  have h6:=h6;subst h6;have g5:(er==5)=false:=by simpa using h5
  go_wp2_with fail;obtain ⟨w4,hw4⟩:∃ w4,w4=w3.alloc (.cells #[.int .i64 nd.kind,.string nd.data,.string nd.target,.int .i64 nd.time] 84 (0,0)):=⟨_,rfl⟩;rw [<-hw4] at HT3 ⊢;have HT4:=HT3;clear hw4 HT3 g5
 case' inr =>
  have g5:(er==5)=true:=by rw [h5];rfl
  go_wp2_with fail;refine (HMk _ HT3.out h6).out.mono ?_;rintro e w4 ⟨rfl,h4⟩;have HT4:=lh h4;clear h4 g5;go_wp2_with fail
 all_goals
  refine (HPT w4).out.mono ?_;rintro e w5 ⟨pv,rfl,h5'⟩;have HT5:=lh (HT4.out.ext h5'.out.2);have HPv:=lh h5'.out.1;obtain ⟨pg,po,pc,rfl,_⟩:=h5'.out.1;clear h5';go_wp2_with fail;have z10:(fixB now 10).size<=10:=by rw [fixB_size];exact Nat.le_refl _
  go_loopw [61] (fun iv wr=>Hid (∃ j:Nat,j<=k/\iv=.int .i64 j/\Ext w5 wr)) (fun iv _=>k - (intOf iv).toNat)
  case atStart=>exact ⟨0,Nat.zero_le _,rfl,Ext.refl _⟩
  case round =>
   obtain ⟨j,hj,rfl,hx⟩:=hrel.out;clear hrel;have HX:=lh hx;have HTr:=lh (HT5.out.ext hx);clear hx;have z4:(fixB j 4).size<=4:=by rw [fixB_size];exact Nat.le_refl _
   have hj4:j<10000:=by omega
   go_wp2_with fail;refine (adigits10 now wr (by omega) (HE.out.ext HTr.out.is_ext)).mono ?_;rintro e w6 ⟨rfl,x6⟩;have HT6:=lh (HTr.out.ext x6);have X6:=lh (HX.out.trans x6);clear x6;go_wp2_with fail;refine (adigits4 j w6 hj4 (HE.out.ext HT6.out.is_ext)).mono ?_;rintro e w7 ⟨rfl,x7⟩;have HT7:=lh (HT6.out.ext x7);have X7:=lh (X6.out.trans x7);clear x7;have HRj':=lh (show Calls prog 54 #[.pointer (some ⟨d,0,none⟩),.string (root++⟨#[47]⟩++(fixB now 10++⟨#[45]⟩++fixB j 4))] w7 _ from (HRj w7 HT7.out j).out);obtain ⟨ndj,ej,hrej⟩:∃ nd er,readE D1.live (arcP root now j)=(nd,er):=⟨_,_,rfl⟩;rw [hrej] at HRj';unfold nv at HRj';dsimp only at HRj';have HRE:=lh hrej;clear hrej;go_wp2_with fail;refine HRj'.out.mono ?_;rintro e w8 ⟨rfl,x8⟩;have HT8:=lh ((HT7.out.ext x8).ext ((Ext.refl w8).alloc (.cells #[.int .i64 ndj.kind,.string ndj.data,.string ndj.target,.int .i64 ndj.time] 84 (0,0))));have X8:=lh ((X7.out.trans x8).alloc (.cells #[.int .i64 ndj.kind,.string ndj.data,.string ndj.target,.int .i64 ndj.time] 84 (0,0)));clear x8 HRj';by_cases hjk:j<k
   ·have he0:ej=0:=by have:=HAll.out j hjk;rw [HRE.out] at this;exact this
    subst he0;go_wp2;go_roundw
    case rel=>exact ⟨j+1,by omega,by go_num,X8.out⟩
    case measure=>simp [intOf] <;> omega
   ·obtain rfl:j=k:=by omega
    have he0:ej≠0:=by have:=HNo.out;rw [HRE.out] at this;exact this
    have g0:(ej==0)=false:=by simpa using he0
    have hcv:=conv_sl (HPv.out.ext X8.out);have hpb:bsL (prefB p).toList=prefB p:=ba_ext (toList_mk _);rw [hpb] at hcv;have zp:(prefB p).size<=162:=by rw [prefB_size];omega
    have hq1:(w8.alloc (.cells #[.int .i64 ndj.kind,.string ndj.data,.string ndj.target,.int .i64 ndj.time] 84)).cell? ⟨w.heap.size,1,none⟩=some (.string dt):=cellB (obj_in HT8.out);have hq3:(w8.alloc (.cells #[.int .i64 ndj.kind,.string ndj.data,.string ndj.target,.int .i64 ndj.time] 84)).cell? ⟨w.heap.size,3,none⟩=some (.int .i64 tm):=cellB (obj_in HT8.out);have HW:=lh (show Calls prog 56 #[.pointer (some ⟨d,0,none⟩),.string (root++⟨#[47]⟩++(fixB now 10++⟨#[45]⟩++fixB j 4)),.string (prefB p++dt),.int .i64 tm] _ _ from (HWk _ HT8.out).out);clear hpb he0;go_wp2_with fail;refine HW.out.mono ?_;rintro e w9 ⟨rfl,h9⟩;have HT9:=lh h9.unbox;clear h9 HW hq1 hq3 hcv;have HN:=lh (show nameA now j=fixB now 10++⟨#[45]⟩++fixB j 4 from rfl);by_cases hr:r=0
    ·subst hr;have HQ2:=lh (show q=fixB now 10++⟨#[45]⟩++fixB j 4 from by rw [HQ.out,if_pos rfl,HN.out]);go_wp2;go_ret2;exact ⟨by rw [HQ2.out];rfl,HT9.out⟩
    ·have g1:(r != 0)=true:=by simpa using hr
     have HQ2:=lh (show q=⟨#[]⟩ from by rw [HQ.out,if_neg hr]);go_wp2;go_ret2;exact ⟨by rw [HQ2.out];rfl,HT9.out⟩
end
section
open Go.RowKit Go.Shelf
structure Ent where
 name:ByteArray
 path:ByteArray
 time:Int
 size:Int
def entV (e:Ent):List Value:=[.string e.name,.string e.path,.int .i64 e.time,.int .i64 e.size]
def entsV (l:List Ent):List Value:=l.flatMap entV
theorem entsV_len (l:List Ent):(entsV l).length=l.length*4:=by
 unfold entsV;rw [List.length_flatMap,show (fun e=>(entV e).length)=fun _=>4 from rfl,List.map_const',List.sum_replicate_nat]
theorem elEnt:ElemK prog 90 93 (.agg #[.string ⟨#[]⟩,.string ⟨#[]⟩,.int .i64 0,.int .i64 0]) 4 48:=⟨by kernel_rfl,by kernel_rfl,rfl,by decide,by decide⟩
def kidsN (l:Nodes) (root:ByteArray):Nodes:=l.filter fun x=>decide (parentR x.1=root)
def entX (x:ByteArray×Nd):Option Ent:=if namedN (baseR x.1)&&openB x.2 then some ⟨baseR x.1,openP x.2,(timeN (baseR x.1):Nat),((openD x.2).size:Nat)⟩ else none
def entsL (l:Nodes) (root:ByteArray):List Ent:=(kidsN l root).filterMap entX
theorem kids_map (l:Nodes) (root:ByteArray):kidsL l root=(kidsN l root).map fun x=>baseR x.1:=rfl
theorem kid_path {l:Nodes} {room:Nat} (T:TreeOk l room) {root:ByteArray} (hr:mayB root=true) {x:ByteArray×Nd} (hx:x∈kidsN l root):root++⟨#[47]⟩++baseR x.1=x.1/\readE l x.1=(x.2,0)/\(baseR x.1).size<=160/\x.2.data.size<=room:=by
 obtain ⟨h1,h2⟩:=List.mem_filter.1 hx;have hp:=of_decide_eq_true h2;have hm:=T.may x h1
 have hne:root.toList.isEmpty=false:=by
  cases he:root.toList.isEmpty with
  | false=>rfl
  | true =>
   have:root=⟨#[]⟩:=ba_ext (by simpa using he);rw [this] at hr;rw [show mayB ⟨#[]⟩=false from by kernel_rfl] at hr
   cases hr
 have hp2:parentS x.1=root:=by rw [parentR_may hm] at hp;exact hp
 have hl:=(part_parent hm).2 (by rw [hp2];exact hne);have hb:baseR x.1=baseS x.1:=by unfold baseR;rw [if_pos hm]
 refine ⟨ba_ext ?_,?_,?_,?_⟩
 ·rw [hb,hl,hp2,toList_append,toList_append,show (⟨#[47]⟩:ByteArray).toList=[47] from toList_mk _,List.append_assoc];rfl
 ·unfold readE;rw [if_pos hm,findA_of_mem (T.sorted.nodup) h1]
 ·have h160:=mayB_size hm;have:=congrArg List.length hl;rw [List.length_append,List.length_cons,len_toList,len_toList,len_toList] at this;rw [hb];omega
 ·obtain ⟨k,hk⟩:=List.getElem?_of_mem h1;have h3:=usedL_take hk;have h4:=usedL_take_le l (k+1);have:=T.used;omega
theorem entX_take {l:Nodes} {k:Nat} {x:ByteArray×Nd} (h:l[k]?=some x):(l.take (k+1)).filterMap entX=(l.take k).filterMap entX++(entX x).toList:=by
 rw [take_next h,List.filterMap_append]
 cases hx:entX x <;> simp [hx]
set_option maxRecDepth 100000 in
set_option maxHeartbeats 8000000 in
theorem alist_any {w:World} {d:Nat} {M I:List Nat} {D:Dk} (h:DkAt w d M I D) (O:DkOk D) (E:EnvA w) (root:ByteArray) (hroot:mayB root=true) (hdir:dirE D.live root=0) (hlen:D.live.length<=20000) :
  Calls prog 50 #[.pointer (some ⟨d,0,none⟩),.string root] w fun e w'=>∃ v,e=.returned (.tuple #[v,.int .i64 0])/\Hid (w'.ownsRow w.heap.size 93 4 v (entsL D.live root).length (entsV (entsL D.live root))/\Ext w w'):=by
 have hr160:=mayB_size hroot;have HM:=lh (may_any root w (by omega) E.env);rw [hroot] at HM;have HLs:=lh (fun w1 (x:Ext w w1)=>List_any (h.ext x) O (E.ext x).env root (by omega))
 have hle:listE D.live root=((kidsN D.live root).map fun x=>baseR x.1,0):=by
  unfold listE;rw [hroot,Bool.or_true,if_pos rfl,if_pos hdir,list_kids O.live,kids_map]
 rw [hle] at HLs;obtain ⟨K,hK⟩:∃ K,K=kidsN D.live root:=⟨_,rfl⟩;have HKs:=lh (fun x (hx:x∈K)=>by rw [hK] at hx;exact kid_path O.live hroot hx:∀ x∈K,root++⟨#[47]⟩++baseR x.1=x.1/\readE D.live x.1=(x.2,0)/\(baseR x.1).size<=160/\x.2.data.size<=D.room)
 have hKn:K.length<=20000:=by
  rw [hK];exact Nat.le_trans (List.length_filter_le _ _) hlen
 have HEn:=lh (show entsL D.live root=K.filterMap entX from by rw [hK];rfl);rw [HEn.out];rw [<-hK] at HLs;have hroom:=O.r2;have HD:=lh h;have HE:=lh E;clear h E O hdir hle hK HEn hroot;go_enter func50,ntmps50;go_wp2_with fail;refine HM.out.mono ?_;rintro e w1 ⟨rfl,x1⟩;have X1:=lh x1;clear x1;go_wp2_with fail;refine (HLs.out _ X1.out).mono ?_;rintro e w2 ⟨v,rfl,hv,x2⟩;have HV:=lh (TextsOwn.of hv rfl);have X2:=lh (X1.out.trans x2);obtain ⟨va,vc,rfl,hvc,hvm⟩:=HV.out.shape;clear hv x2 HLs;obtain ⟨n,hn⟩:∃ n,n=(K.map fun x=>baseR x.1).length:=⟨_,rfl⟩;have HN:=lh (show n=K.length from by rw [hn,List.length_map]);rw [<-hn] at hvc ⊢;have hn2:n<=20000:=by rw [HN.out];exact hKn
 have HVn:=lh hn;clear hn hKn;go_wp2_with fail;have hb2:w.heap.size<=w2.heap.size:=X2.out.size;go_loopw [4,34] (fun ov iv wr=>Hid (∃ k:Nat,k<=n/\iv=.int .i64 k/\wr.ownsRow w2.heap.size 93 4 ov ((K.take k).filterMap entX).length (entsV ((K.take k).filterMap entX))/\Ext w2 wr)) (fun _ iv _=>n - (intOf iv).toNat)
 case atStart=>exact ⟨0,Nat.zero_le _,rfl,World.ownsRow_nil _ _ _ _,Ext.refl _⟩
 case round =>
  obtain ⟨k,hk,rfl,ho,hx⟩:=hrel.out;clear hrel;have HO:=lh ho;have HX:=lh hx;clear ho hx;by_cases hlt:k<n
  ·obtain ⟨x,hxk⟩:∃ x,K[k]?=some x:=⟨_,List.getElem?_eq_getElem (by have:=HN.out;omega)⟩;have HXK:=lh hxk;obtain ⟨hp1,hp2,hp3,hp4⟩:=HKs.out x (List.mem_of_getElem? hxk);have HP1:=lh hp1;obtain ⟨gv,rfl,hcv⟩:=HV.out.get va _ vc rfl k (baseR x.1) (by rw [List.getElem?_map,hxk];rfl);have hcv:=(HX.out.cell (lt_of_cell hcv)).trans hcv;have HEk:=lh (entX_take hxk);have HEX:=lh (show entX x=if namedN (baseR x.1)&&openB x.2 then some ⟨baseR x.1,openP x.2,(timeN (baseR x.1):Nat),((openD x.2).size:Nat)⟩ else none from rfl);have HNm:=lh (fun w1=>anamed_any (baseR x.1) w1)
   have HFm:=lh (show namedN (baseR x.1)=true->(if formN (baseR x.1) then ((timeN (baseR x.1):Nat):Int) else 0)=(timeN (baseR x.1):Nat) from fun e=>by
    unfold namedN at e;rw [Bool.and_eq_true] at e
    rw [if_pos e.1])
   have HRd:=lh (fun w1 (y:Ext w w1)=>(by
    have h1:=Read_any (HD.out.ext y) (HE.out.ext y).env x.1 (by rw [<-HP1.out,ByteArray.size_append,ByteArray.size_append];show root.size+1+_<_;omega);rw [hp2,<-HP1.out] at h1
    exact h1:Calls prog 54 #[.pointer (some ⟨d,0,none⟩),.string (root++⟨#[47]⟩++baseR x.1)] w1 _))
   have HOp:=lh (fun w1 (y:Ext w w1)=>aopened_any x.2 w1 (by omega) (HE.out.ext y).env);have HOV:=lh (show openV x.2=if openB x.2 then .tuple #[.string (openP x.2),.agg (nodeC ⟨x.2.kind,openD x.2,x.2.target,x.2.time⟩),.bool true] else .tuple #[.string ⟨#[]⟩,.agg (nodeC nd0),.bool false] from rfl);clear hxk hp1 hp2 hp4;unfold nv at HRd;dsimp only at HRd;generalize openV x.2=V at *;generalize (if formN (baseR x.1) then ((timeN (baseR x.1):Nat):Int) else 0)=T at *;generalize namedN (baseR x.1)=bn at *;generalize openP x.2=P at *;generalize openD x.2=DD at *;generalize openB x.2=bo at *;generalize baseR x.1=nm at *;generalize x.2.kind=xk at *;generalize x.2.data=xd at *;generalize x.2.target=xg at *;generalize x.2.time=xt at *;go_wp2_with fail;refine (HNm.out _).mono ?_;rintro e w3 ⟨rfl,x3⟩;have x3':=lh x3;have X3:=lh (HX.out.trans x3);clear x3 hcv;go_wp2_with fail;refine (HRd.out _ (X2.out.trans X3.out)).mono ?_;rintro e w4 ⟨rfl,x4⟩;have x4':=lh (x4.alloc (.cells #[.int .i64 xk,.string xd,.string xg,.int .i64 xt] 84 (0,0)));have X4:=lh ((X3.out.trans x4).alloc (.cells #[.int .i64 xk,.string xd,.string xg,.int .i64 xt] 84 (0,0)));have HOp':=lh (HOp.out _ (X2.out.trans X4.out));clear x4 HRd HOp
   cases bo with
   | false =>
    have HV1:=lh (show V=.tuple #[.string ⟨#[]⟩,.agg #[.int .i64 0,.string ⟨#[]⟩,.string ⟨#[]⟩,.int .i64 0],.bool false] from HOV.out);have HE0:=lh (show entX x=none from by rw [HEX.out,Bool.and_false];rfl);rw [HV1.out] at HOp';clear HV1 HOV HEX;go_wp2_with fail;refine HOp'.out.mono ?_;rintro e w5 ⟨rfl,x5⟩;have x5':=lh (x5.alloc (.cells #[.int .i64 0,.string ⟨#[]⟩,.string ⟨#[]⟩,.int .i64 0] 84 (0,0)));have X5:=lh (X4.out.trans x5'.out);clear x5 HOp';have HFIN:=lh (show (K.take (k+1)).filterMap entX=(K.take k).filterMap entX from by rw [HEk.out,HE0.out];simp);have HOF:=lh (owns_ext (HO.out) ((show Ext wr _ from (x3'.out.trans x4'.out).trans x5'.out)))
    cases bn <;>
    ·go_wp2;go_roundw
     case rel=>exact ⟨k+1,by omega,by go_num,by rw [HFIN.out];exact HOF.out,X5.out⟩
     case measure=>simp [intOf] <;> omega
   | true =>
    have HV1:=lh (show V=.tuple #[.string P,.agg #[.int .i64 xk,.string DD,.string xg,.int .i64 xt],.bool true] from HOV.out);rw [HV1.out] at HOp';clear HV1 HOV;go_wp2_with fail;refine HOp'.out.mono ?_;rintro e w5 ⟨rfl,x5⟩;have hw25:=(X4.out.trans x5).size;have x5':=lh (x5.alloc (.cells #[.int .i64 xk,.string DD,.string xg,.int .i64 xt] 84 (0,0)));have X5:=lh (X4.out.trans x5'.out);have HOF:=lh (owns_ext (HO.out) ((show Ext wr _ from (x3'.out.trans x4'.out).trans x5'.out)));clear x5 HOp'
    cases bn with
    | false =>
     have HE0:=lh (show entX x=none from by rw [HEX.out];rfl);have HFIN:=lh (show (K.take (k+1)).filterMap entX=(K.take k).filterMap entX from by rw [HEk.out,HE0.out];simp);clear HEX;go_wp2;go_roundw
     case rel=>exact ⟨k+1,by omega,by go_num,by rw [HFIN.out];exact HOF.out,X5.out⟩
     case measure=>simp [intOf] <;> omega
    | true =>
     have hT:=HFm.out rfl;have HE0:=lh (show entX x=some ⟨nm,P,T,(DD.size:Nat)⟩ from by rw [HEX.out,hT];rfl);have HFIN:=lh (show (K.take (k+1)).filterMap entX=(K.take k).filterMap entX++[Ent.mk nm P T (DD.size:Nat)] from by rw [HEk.out,HE0.out];rfl);have hFl:((K.take k).filterMap entX).length<=20000:=Nat.le_trans (List.length_filterMap_le _ _) (by rw [List.length_take];omega);clear HEX hT;generalize (K.take k).filterMap entX=F at *;have hq:(w5.alloc (.cells #[.int .i64 xk,.string DD,.string xg,.int .i64 xt] 84 (0,0))).cell? ⟨w5.heap.size,1,none⟩=some (.string DD):=cellB (block_alloc_new _ _);have HS:=lh (show (w5.alloc (.cells #[.int .i64 xk,.string DD,.string xg,.int .i64 xt] 84 (0,0))).heap.size=w5.heap.size+1 from size_alloc _ _);have HNB:=lh (block_alloc_new (w5.alloc (.cells #[.int .i64 xk,.string DD,.string xg,.int .i64 xt] 84 (0,0))) (.cells #[.string nm,.string P,.int .i64 T,.int .i64 (DD.size:Nat)] 93 (0,0)));have XE:=lh ((Ext.refl (w5.alloc (.cells #[.int .i64 xk,.string DD,.string xg,.int .i64 xt] 84 (0,0)))).alloc (.cells #[.string nm,.string P,.int .i64 T,.int .i64 (DD.size:Nat)] 93 (0,0)));have HO9:=lh (owns_ext HOF.out XE.out)
     go_wp2_with (first
      | (refine wpList_buildOne elEnt (by decide) rfl (.tmp 69) rfl #[.string nm,.string P,.int .i64 T,.int .i64 (DD.size:Nat)] rfl rfl ?_;go_frame)
      | (at_builtin;refine append_kw elEnt w2.heap.size u4 F.length (entsV F) HO9.out _ [.string nm,.string P,.int .i64 T,.int .i64 (DD.size:Nat)] rfl (.tmp 62) (.tmp 70) rfl rfl rfl rfl (fun j u hj=>(cellB HNB.out).trans (by simpa using hj)) (by simp [Value.oneCell']) (by omega) (by simp only [size_alloc];omega) ?_;intro v7 w7 ho7 hg7 hi7 hv7;have HO7:=lh ho7;have HG7:=lh hg7;clear ho7 hg7 hi7 hv7;go_frame))
     have HFN:=lh (show w7.ownsRow w2.heap.size 93 4 v7 (F++[Ent.mk nm P T (DD.size:Nat)]).length (entsV (F++[Ent.mk nm P T (DD.size:Nat)])) from by
      rw [List.length_append,List.length_singleton];unfold entsV;rw [List.flatMap_append]
      exact HO7.out)
     have X7:=lh (show Ext w2 w7 from grown_ext (X5.out.trans XE.out) (Nat.le_refl _) HO9.out HG7.out);go_roundw
     case rel=>exact ⟨k+1,by omega,by go_num,by rw [HFIN.out];exact HFN.out,X7.out⟩
     case measure=>simp [intOf] <;> omega
  ·obtain rfl:k=n:=by omega
   have HT:=lh (show K.take k=K from List.take_of_length_le (by rw [HN.out];exact Nat.le_refl _));rw [HT.out] at HO;go_wp2;go_ret2;exact ⟨_,rfl,owns_down HO.out hb2,X2.out.trans HX.out⟩
theorem alist_many {w0 w:World} {A B:List Thing} {d:Nat} {D:Dk} (h:Things w0 w (A++.disk d D::B)) (O:DkOk D) (E:EnvA w) (root:ByteArray) (hroot:mayB root=true) (hdir:dirE D.live root=0) (hlen:D.live.length<=20000) :
  Calls prog 50 #[.pointer (some ⟨d,0,none⟩),.string root] w fun e w'=>∃ v,e=.returned (.tuple #[v,.int .i64 0])/\Hid (w'.ownsRow w.heap.size 93 4 v (entsL D.live root).length (entsV (entsL D.live root))/\Ext w w') :=
 disk_ext h fun _ _ hd=>alist_any hd O E root hroot hdir hlen
end
section
open Go.RowKit Go.Shelf
theorem anan_any (a:ByteArray) (w:World):Calls prog 165 #[.string a] w fun e w'=>e=.returned (.bool false)/\w=w':=by
 have h:(a.toList != a.toList)=false:=by simp
 go_enter func165,ntmps165;go_wp2;go_ret;exact ⟨rfl,rfl⟩
theorem acmp_gt (a b:ByteArray) (w:World) (h1:Go.Op.bytesLess a.toList b.toList=false) (h2:(a.toList==b.toList)=false):Calls prog 97 #[.string a,.string b] w fun e w'=>e=.returned (.int .i64 1)/\w=w':=by
 go_enter func97,ntmps97;go_wp2_with (refine (anan_any _ _).mono ?_;rintro e w1 ⟨rfl,rfl⟩);go_ret;exact ⟨rfl,rfl⟩
def entA (e:Ent):Value:=.agg #[.string e.name,.string e.path,.int .i64 e.time,.int .i64 e.size]
theorem agt_any (x y:Ent) (w:World) (h1:Go.Op.bytesLess x.name.toList y.name.toList=false) (h2:(x.name.toList==y.name.toList)=false):Calls prog 96 #[entA x,entA y] w fun e w'=>e=.returned (.int .i64 1)/\Ext w w':=by
 have H:=lh (fun w1=>acmp_gt x.name y.name w1 h1 h2);clear h1 h2;unfold entA;go_enter func96,ntmps96;go_wp2_with fail;refine (H.out _).mono ?_;rintro e w1 ⟨rfl,rfl⟩;go_wp2;go_ret;exact ⟨rfl,((Ext.refl w).alloc _).alloc _⟩
theorem aeq_any (x y:Ent) (w:World) (h:x.name≠y.name):Calls prog 99 #[entA x,entA y] w fun e w'=>e=.returned (.bool false)/\Ext w w':=by
 have h1:(x.name.toList==y.name.toList)=false:=by
  rw [beq_eq_false_iff_ne];exact fun e=>h (ba_ext e)
 clear h;unfold entA;go_enter func99,ntmps99;go_wp2;go_ret;exact ⟨rfl,((Ext.refl w).alloc _).alloc _⟩
def EntsSl (w:World) (v:Value) (l:List Ent):Prop :=
 ∃ (g o cap:Nat),v=.slice (some ⟨g,o,none⟩) l.length cap/\l.length<=cap/\cap<=9223372036854775807/\∀ (j:Nat) u,(entsV l)[j]?=some u->w.cell? ⟨g,o+j,none⟩=some u
theorem EntsSl.ext {w w':World} {v:Value} {l:List Ent} (h:EntsSl w v l) (x:Ext w w'):EntsSl w' v l:=by
 obtain ⟨g,o,cap,e,h1,h2,h3⟩:=h;exact ⟨g,o,cap,e,h1,h2,fun j y hy=>(x.cell (lt_of_cell (h3 j y hy))).trans (h3 j y hy)⟩
theorem ents_get {l:List Ent} {k j:Nat} {x:Ent} (h:l[k]?=some x) (hj:j<4):(entsV l)[k*4+j]?=(entV x)[j]?:=flat_get (n:=4) (fun _=>rfl) l k j x h hj
theorem EntsSl.at {w:World} {g o c:Nat} {l:List Ent} (h:EntsSl w (.slice (some ⟨g,o,none⟩) l.length c) l) {k:Nat} {x:Ent} (hk:l[k]?=some x):w.rangeAt g (o+k*4) (entV x):=by
 obtain ⟨g',o',cap,e,h1,h2,h3⟩:=h
 cases e
 intro j u hj;have hj4:j<4:=(List.getElem?_eq_some_iff.1 hj).1;rw [Nat.add_assoc];exact h3 _ u ((ents_get hk hj4).trans hj)
def Rise (l:List Ent):Prop:=l.Pairwise fun x y=>Go.Op.bytesLess y.name.toList x.name.toList=false/\(x.name.toList==y.name.toList)=false
theorem Rise.next {l:List Ent} (h:Rise l) {k:Nat} {x y:Ent} (hx:l[k]?=some x) (hy:l[k+1]?=some y):Go.Op.bytesLess y.name.toList x.name.toList=false/\(x.name.toList==y.name.toList)=false:=by
 obtain ⟨h1,rfl⟩:=List.getElem?_eq_some_iff.1 hx;obtain ⟨h2,rfl⟩:=List.getElem?_eq_some_iff.1 hy;exact List.pairwise_iff_getElem.1 h k (k+1) h1 h2 (Nat.lt_succ_self k)
set_option maxRecDepth 100000 in
set_option maxHeartbeats 4000000 in
theorem acompact_any {w:World} {v:Value} {l:List Ent} (h:EntsSl w v l) (hr:Rise l) (hl:l.length<=100000) :
  Calls prog 98 #[v,.func (.func 99) #[] #[]] w fun e w'=>e=.returned v/\Ext w w':=by
 have HL:=lh h;obtain ⟨g,o,cap,rfl,h1,h2,_⟩:=h;obtain ⟨n,hn⟩:∃ n,n=l.length:=⟨_,rfl⟩;have HN:=lh hn;rw [<-hn] at h1 hl ⊢;have HR:=lh hr;clear hn hr;by_cases h2':n<2
 ·go_enter func98,ntmps98;go_wp2;go_ret;exact ⟨rfl,Ext.refl w⟩
 ·go_enter func98,ntmps98;go_wp2;go_loopw [5] (fun iv wr=>Hid (∃ k:Nat,1<=k/\k<=n/\iv=.int .i64 k/\Ext w wr)) (fun iv _=>n - (intOf iv).toNat)
  case atStart=>exact ⟨1,Nat.le_refl _,by omega,rfl,Ext.refl _⟩
  case round =>
   obtain ⟨k,hk1,hk,rfl,hx⟩:=hrel.out;clear hrel;have HX:=lh hx;clear hx;by_cases hlt:k<n
   ·obtain ⟨m,rfl⟩:∃ m,k=m+1:=⟨k - 1,by omega⟩;obtain ⟨x,hxm⟩:∃ x,l[m]?=some x:=⟨_,List.getElem?_eq_getElem (by have:=HN.out;omega)⟩;obtain ⟨y,hym⟩:∃ y,l[m+1]?=some y:=⟨_,List.getElem?_eq_getElem (by have:=HN.out;omega)⟩
    have r1:=lh (fun (z:After wr)=>by
     have:=(HL.out.ext (HX.out.trans z.x))
     exact this.at hxm:∀ z:After wr,z.v.rangeAt g (o+m*4) (entV x))
    have r2:=lh (fun (z:After wr)=>by
     have:=(HL.out.ext (HX.out.trans z.x))
     exact this.at hym:∀ z:After wr,z.v.rangeAt g (o+(m+1)*4) (entV y))
    have HC:=lh (fun w1=>aeq_any y x w1 (fun e=>by have:=(HR.out.next hxm hym).2;rw [e] at this;simp at this));unfold entA at HC;clear hxm hym;have hw1:IntKind.i64.wrap (((m+1:Nat):Int) - 1)=(m:Int):=by rw [IntWalk.i64_in _ (by omega)];omega
    generalize hkk:m+1=kk at *;go_wp2;refine wp_region_after (by kernel_rfl) (by kernel_rfl) ?_
    iterate 4 go_big_quiet_step (fail)
    refine wpQuiet_load_ag rfl _ _ rfl g (o+kk*4) rfl (entV y).toArray _ (by rintro _ ⟨z,rfl⟩;exact r2.out z) underlying93 rfl (by kernel_rfl) ?_;go_frame
    iterate 4 go_big_quiet_step (fail)
    refine wpQuiet_load_ag rfl _ _ rfl g (o+m*4) rfl (entV x).toArray _ (by rintro _ ⟨z,rfl⟩;exact r1.out z) underlying93 rfl (by kernel_rfl) ?_;go_frame;go_big_quiet_step (exact After.of (HC.out _));refine wpQuiet_nil ?_;rintro _ ⟨z,rfl⟩;have XZ:=lh (HX.out.trans z.x);go_wp2;go_roundw
    case rel=>exact ⟨kk+1,by omega,by omega,by go_num,XZ.out⟩
    case measure=>simp [intOf] <;> omega
   ·obtain rfl:k=n:=by omega
    go_wp2;go_ret;exact ⟨rfl,HX.out⟩
set_option maxRecDepth 100000 in
set_option maxHeartbeats 4000000 in
theorem ainsert_any {w:World} {g o cap:Nat} {l:List Ent} (h:EntsSl w (.slice (some ⟨g,o,none⟩) l.length cap) l) (hr:Rise l) (hl:l.length<=100000) (a b:Nat) (hab:a<=b) (hb:b<=l.length) :
  Calls prog 227 #[.slice (some ⟨g,o,none⟩) l.length cap,.int .i64 a,.int .i64 b,.func (.func 96) #[] #[]] w fun e w'=>e=.returned (.tuple #[])/\Ext w w':=by
 have HL:=lh h;obtain ⟨_,_,_,e,h1,h2,_⟩:=h
 cases e
 obtain ⟨n,hn⟩:∃ n,n=l.length:=⟨_,rfl⟩;have HN:=lh hn;rw [<-hn] at h1 hl hb ⊢;have HR:=lh hr;clear hn hr;go_enter func227,ntmps227;go_wp2;go_loopw [8] (fun iv wr=>Hid (∃ k:Nat,a+1<=k/\k<=b+1/\iv=.int .i64 k/\Ext w wr)) (fun iv _=>b+1 - (intOf iv).toNat)
 case atStart=>exact ⟨a+1,Nat.le_refl _,by omega,by go_num,Ext.refl _⟩
 case round =>
  obtain ⟨k,hk1,hk,rfl,hx⟩:=hrel.out;clear hrel;have HX:=lh hx;clear hx;by_cases hlt:k<b
  ·obtain ⟨m,rfl⟩:∃ m,k=m+1:=⟨k - 1,by omega⟩;obtain ⟨x,hxm⟩:∃ x,l[m]?=some x:=⟨_,List.getElem?_eq_getElem (by have:=HN.out;omega)⟩;obtain ⟨y,hym⟩:∃ y,l[m+1]?=some y:=⟨_,List.getElem?_eq_getElem (by have:=HN.out;omega)⟩
   have r1:=lh (fun (z:After wr)=>by
    have:=(HL.out.ext (HX.out.trans z.x))
    exact this.at hxm:∀ z:After wr,z.v.rangeAt g (o+m*4) (entV x))
   have r2:=lh (fun (z:After wr)=>by
    have:=(HL.out.ext (HX.out.trans z.x))
    exact this.at hym:∀ z:After wr,z.v.rangeAt g (o+(m+1)*4) (entV y))
   have HC:=lh (fun w1=>agt_any y x w1 (HR.out.next hxm hym).1 (by have:=(HR.out.next hxm hym).2;rw [beq_eq_false_iff_ne] at this ⊢;exact fun e=>this e.symm));unfold entA at HC;clear hxm hym;have hw1:IntKind.i64.wrap (((m+1:Nat):Int) - 1)=(m:Int):=by rw [IntWalk.i64_in _ (by omega)];omega
   generalize hkk:m+1=kk at *;have ga:decide (a<kk)=true:=decide_eq_true (by omega);go_wp2;refine wp_loop_rounds 1 ?_;rw [rounds_succ];go_wp2;refine wp_region_after (by kernel_rfl) (by kernel_rfl) ?_
   iterate 8 go_big_quiet_step (fail)
   refine wpQuiet_load_ag ?_ 93 (.tmp 25) rfl g (o+kk*4) rfl (entV y).toArray _ (by rintro _ ⟨z,rfl⟩;exact r2.out z) underlying93 rfl (by kernel_rfl) ?_
   ·simp [Region.wanted,yielded]
   go_frame
   iterate 4 go_big_quiet_step (fail)
   refine wpQuiet_load_ag ?_ 93 (.tmp 30) rfl g (o+m*4) rfl (entV x).toArray _ (by rintro _ ⟨z,rfl⟩;exact r1.out z) underlying93 rfl (by kernel_rfl) ?_
   ·simp [Region.wanted,yielded]
   go_frame
   iterate 3 go_big_quiet_step (exact After.of (HC.out _))
   refine wpQuiet_nil ?_;rintro _ ⟨z,rfl⟩;have XZ:=lh (HX.out.trans z.x);go_wp2;go_roundw
   case rel=>exact ⟨kk+1,by omega,by omega,by go_num,XZ.out⟩
   case measure=>simp [intOf] <;> omega
  ·go_wp2;go_end0;exact ⟨rfl,HX.out⟩
set_option maxRecDepth 100000 in
set_option maxHeartbeats 4000000 in
theorem astable_small {w:World} {g o cap:Nat} {l:List Ent} (h:EntsSl w (.slice (some ⟨g,o,none⟩) l.length cap) l) (hr:Rise l) (hl:l.length<20) :
  Calls prog 164 #[.slice (some ⟨g,o,none⟩) l.length cap,.int .i64 (l.length:Nat),.func (.func 96) #[] #[]] w fun e w'=>e=.returned (.tuple #[])/\Ext w w':=by
 have HI:=lh (ainsert_any h hr (by omega) 0 l.length (Nat.zero_le _) (Nat.le_refl _));generalize l.length=n at *;clear h hr;go_enter func164,ntmps164;go_wp2;refine wp_loop_rounds 1 ?_;rw [rounds_succ];go_wp2_with fail;refine HI.out.mono ?_;rintro e w1 ⟨rfl,x1⟩;have X1:=lh x1;clear x1;go_wp2;refine wp_loop_rounds 1 ?_;rw [rounds_succ];go_wp2;go_end0;exact ⟨rfl,X1.out⟩
def SortsAt (w:World) (v:Value):Prop:=∀ w1,Ext w w1->Calls prog 95 #[v,.func (.func 96) #[] #[]] w1 fun e w'=>e=.returned (.tuple #[])/\Ext w1 w'
theorem sorts_small {w:World} {v:Value} {l:List Ent} (h:EntsSl w v l) (hr:Rise l) (hl:l.length<20):SortsAt w v:=fun w1 x=>by
 have h1:=h.ext x;obtain ⟨g,o,cap,rfl,_⟩:=h;have HS:=lh (astable_small h1 hr hl);clear h1 hr;generalize l.length=n at *;go_enter func95,ntmps95;go_wp2_with fail;refine HS.out.mono ?_;rintro e w1 ⟨rfl,x1⟩;go_wp2;go_end0;exact ⟨rfl,x1⟩
theorem row_ents {w:World} {base n:Nat} {v:Value} {l:List Ent} (h:w.ownsRow base 93 4 v n (entsV l)) (hn:n=l.length) (hv:v≠.slice none 0 0):EntsSl w v l/\∀ g o n c,v=.slice (some ⟨g,o,none⟩) n c->base<=g/\g<w.heap.size:=by
 subst hn;rcases h.2 with ⟨rfl,_⟩ | ⟨g,cap,cur,rfl,hb,hh,h1,h2,h3,h4⟩
 ·exact absurd rfl hv
 ·refine ⟨⟨g,0,cap,rfl,h1,h2,fun j x hx=>?_⟩,fun g' o n c e=>by cases e;exact ⟨hb,ltB hh⟩⟩;rw [Nat.zero_add];refine (cellB hh).trans ?_;rw [<-h4,List.getElem?_take] at hx;split at hx
  ·rw [<-Array.getElem?_toList];exact hx
  ·cases hx
theorem entsV_one {l:List Ent}:∀ u∈entsV l,u.oneCell'=true:=by
 intro u hu;unfold entsV at hu;obtain ⟨e,_,hu⟩:=List.mem_flatMap.1 hu;simp only [entV,List.mem_cons,List.not_mem_nil,or_false] at hu;rcases hu with rfl | rfl | rfl | rfl <;> rfl
set_option maxHeartbeats 1000000 in
theorem aclone_any {w:World} {v:Value} {l:List Ent} (h:EntsSl w v l) (hl:l.length<=100000) :
  Calls prog 94 #[v] w fun e w'=>∃ u,e=.returned u/\Hid (EntsSl w' u l/\Ext w w'):=by
 have HB:=lh h;obtain ⟨g,o,cap,rfl,h1,h2,_⟩:=h;obtain ⟨i,hi,hz,hs,hb⟩:=info_parts elEnt.info;have HL:=lh (entsV_len l);have q90:∀ (w:World) (a:Option Addr) (n c n' c':Nat),(binOp .eql 90 (.slice a n c) (.slice none n' c')).run prog w=.ok (.bool a.isNone) w:=fun w a n c n' c'=>Lib.run_eql_slice_nil w _ _ a n c n' c' elEnt.ut;go_enter func94,ntmps94;go_wp2_with (at_builtin;refine wpList_append_own _ rfl _ _ 90 rfl w.heap.size 93 i _ 4 48 elEnt.ut hi hz hs hb rfl (by decide) _ _ _ rfl (World.ownsRow_made w #[] 0 (Nat.le_refl _) (Nat.zero_le _) (by simp)) ⟨g,o,none⟩ l.length cap (entsV l) rfl ?qc1 ?qc2 ?qc3 ?qc4 ?qc5 ?qc6 ?_)
 case qc1=>exact HL.out
 case qc2 =>
  intro j u hj;obtain ⟨_,_,_,e,_,_,h3⟩:=HB.out
  cases e
  rw [show (⟨g,o,none⟩:Addr).add j=⟨g,o+j,none⟩ from by unfold Addr.add;split <;> simp_all];exact Lib.cell?_alloc_some _ (h3 j u hj)
 case qc3=>exact entsV_one
 case qc4=>rw [Nat.zero_add];unfold maxLen;omega
 case qc5=>rw [Nat.zero_add];omega
 case qc6=>simp
 intro v' w1 hown hgrow hnil;have X1:=lh (show Ext w w1 from ((Below.refl _ w).alloc (Nat.le_refl _) _).grown hgrow (by simp) (by intro k hk;simp [Value.ownBlock] at hk;omega));have K1:=lh (row_ents hown (by simp) hnil).1;clear hown hgrow hnil;go_wp2;go_ret;exact ⟨v',rfl,K1.out,X1.out⟩
end
section
open Go.RowKit Go.Shelf
def bktI (a:Int):Int×Int:=if a<100 then (0,a / 10) else if a<1000 then (1,a / 100) else if a<10000 then (2,a / 1000) else (3,a / 10000)
def bktC (a:Int):Array Value:=#[.int .i64 (bktI a).1,.int .i64 (bktI a).2]
theorem eq_bkt (a b c d:Int) (w:World):(Go.Op.equalIn 10000 105 (.agg #[.int .i64 a,.int .i64 b]) (.agg #[.int .i64 c,.int .i64 d])).run prog w=.ok (decide (a=c/\b=d)) w:=by
 have hel:(prog.info? 2).map (fun i=>(i.zero,i.size,i.bytes))=some (some (.int .i64 0),1,8):=by kernel_rfl
 obtain ⟨i,hi,_,hsz,_⟩:=info_parts hel;have hc:prog.cellsOf 2=1:=by kernel_rfl
 obtain ⟨d',hd⟩:∃ d,d+1+1=10000:=⟨9998,by omega⟩;rw [<-hd,run_equalIn_array w (d'+1) _ _ (show prog.underlying 105=some (.array 2 2) by kernel_rfl) hi,hc];have p1:∀ (x y:Value) (j:Nat) u,(#[x,y]:Array Value)[j]?=some u->_:=fun x y j u h=>run_part_plain (P:=prog) (w:=w) (e:=2) (by kernel_rfl) (off:=j) h;have p3:=fun x y=>run_equalIn_int (P:=prog) w d' 2 .i64 .i64 x y (by kernel_rfl)
 show (Go.Op.eqItems (d'+1) 2 1 #[.int .i64 a,.int .i64 b] #[.int .i64 c,.int .i64 d] [0,1]).run prog w=_
 simp only [Go.Op.eqItems,Sem.run_bind,Nat.mul_one,p1 _ _ 0 _ rfl,Result.andThen_ok];have q1:∀ x y:Int,(#[Value.int .i64 x,Value.int .i64 y]:Array Value)[1]?=some (.int .i64 y):=fun _ _=>rfl;by_cases h1:a=c
 ·by_cases h2:b=d
  ·subst h1;subst h2;simp [p3,p1 _ _ 1 _ (q1 _ _),Result.andThen]
  ·subst h1;simp [p3,p1 _ _ 1 _ (q1 _ _),Result.andThen,h2]
 ·simp [p3,Result.andThen,h1]
set_option maxRecDepth 100000 in
set_option maxHeartbeats 2000000 in
theorem abucket_any (a:Int) (w:World) (h0:0<=a) (h1:a<=4294967295):Calls prog 167 #[.int .i64 a] w fun e w'=>e=.returned (.agg (bktC a))/\Ext w w':=by
 have HB:=lh (show bktC a=#[.int .i64 (bktI a).1,.int .i64 (bktI a).2] from rfl);have HK:=lh (show bktI a=if a<100 then (0,a / 10) else if a<1000 then (1,a / 100) else if a<10000 then (2,a / 1000) else (3,a / 10000) from rfl);have HN:=lh (block_alloc_new w (.cells #[.int .i64 0,.int .i64 0] 105 (0,0)));have X0:=lh ((Ext.refl w).alloc (.cells #[.int .i64 0,.int .i64 0] 105 (0,0)));have HI:=lh (show (prog.info? 105).map (·.size)=some 2 from by kernel_rfl);have HO:=lh (fun x y:Int=>(by simp [Value.oneCell']:(#[.int .i64 x,.int .i64 y]:Array Value).all (·.oneCell')=true));generalize bktC a=C at *;generalize bktI a=K at *;by_cases a1:a<100
 ·have HC:=lh (show C=#[.int .i64 0,.int .i64 (a / 10)] from by rw [HB.out,HK.out,if_pos a1]);clear HB HK;go_enter func167,ntmps167;go_wp2;refine wp_loop_rounds 1 ?_;rw [rounds_succ];go_wp2_with (refine wpList_storeT rfl _ _ _ rfl w.heap.size #[.int .i64 0,.int .i64 (a / 10)] rfl rfl 105 _ HN.out HI.out rfl (HO.out _ _) ?_;intro W6 hb6 ht6;have HB6:=lh hb6;have HT6:=lh ht6;clear hb6 ht6;go_frame);exact bodyPost_ret (results_cell_row rfl _ _ w.heap.size 105 _ (0,0) _ rfl HB6.out underlying105 rfl HI.out) rfl ⟨by rw [HC.out],HT6.out.fresh X0.out (Nat.le_refl _)⟩
 ·by_cases a2:a<1000
  ·have HC:=lh (show C=#[.int .i64 1,.int .i64 (a / 100)] from by rw [HB.out,HK.out,if_neg a1,if_pos a2]);clear HB HK;go_enter func167,ntmps167;go_wp2;refine wp_loop_rounds 2 ?_;rw [rounds_succ];go_wp2;rw [rounds_succ];go_wp2_with (refine wpList_storeT rfl _ _ _ rfl w.heap.size #[.int .i64 1,.int .i64 (a / 100)] rfl rfl 105 _ HN.out HI.out rfl (HO.out _ _) ?_;intro W6 hb6 ht6;have HB6:=lh hb6;have HT6:=lh ht6;clear hb6 ht6;go_frame);exact bodyPost_ret (results_cell_row rfl _ _ w.heap.size 105 _ (0,0) _ rfl HB6.out underlying105 rfl HI.out) rfl ⟨by rw [HC.out],HT6.out.fresh X0.out (Nat.le_refl _)⟩
  ·by_cases a3:a<10000
   ·have HC:=lh (show C=#[.int .i64 2,.int .i64 (a / 1000)] from by rw [HB.out,HK.out,if_neg a1,if_neg a2,if_pos a3]);clear HB HK;go_enter func167,ntmps167;go_wp2;refine wp_loop_rounds 3 ?_;rw [rounds_succ];go_wp2;rw [rounds_succ];go_wp2;rw [rounds_succ];go_wp2_with (refine wpList_storeT rfl _ _ _ rfl w.heap.size #[.int .i64 2,.int .i64 (a / 1000)] rfl rfl 105 _ HN.out HI.out rfl (HO.out _ _) ?_;intro W6 hb6 ht6;have HB6:=lh hb6;have HT6:=lh ht6;clear hb6 ht6;go_frame);exact bodyPost_ret (results_cell_row rfl _ _ w.heap.size 105 _ (0,0) _ rfl HB6.out underlying105 rfl HI.out) rfl ⟨by rw [HC.out],HT6.out.fresh X0.out (Nat.le_refl _)⟩
   ·have HC:=lh (show C=#[.int .i64 3,.int .i64 (a / 10000)] from by rw [HB.out,HK.out,if_neg a1,if_neg a2,if_neg a3]);clear HB HK;go_enter func167,ntmps167;go_wp2;refine wp_loop_rounds 4 ?_;rw [rounds_succ];go_wp2;rw [rounds_succ];go_wp2;rw [rounds_succ];go_wp2;rw [rounds_succ];go_wp2_with (refine wpList_storeT rfl _ _ _ rfl w.heap.size #[.int .i64 3,.int .i64 (a / 10000)] rfl rfl 105 _ HN.out HI.out rfl (HO.out _ _) ?_;intro W6 hb6 ht6;have HB6:=lh hb6;have HT6:=lh ht6;clear hb6 ht6;go_frame);exact bodyPost_ret (results_cell_row rfl _ _ w.heap.size 105 _ (0,0) _ rfl HB6.out underlying105 rfl HI.out) rfl ⟨by rw [HC.out],HT6.out.fresh X0.out (Nat.le_refl _)⟩
def bktsV (l:List (Int×Int)):List Value:=l.flatMap fun x=>[.int .i64 x.1,.int .i64 x.2]
theorem elBkt:ElemK prog 256 105 (.agg #[.int .i64 0,.int .i64 0]) 2 16:=⟨by kernel_rfl,by kernel_rfl,rfl,by decide,by decide⟩
theorem bkts_get {l:List (Int×Int)} {k j:Nat} {x:Int×Int} (h:l[k]?=some x) (hj:j<2):(bktsV l)[k*2+j]?=([.int .i64 x.1,.int .i64 x.2]:List Value)[j]?:=flat_get (n:=2) (fun _=>rfl) l k j x h hj
set_option maxRecDepth 100000 in
set_option maxHeartbeats 2000000 in
theorem aindex_any {w:World} {base:Nat} {v:Value} {l:List (Int×Int)} (h:w.ownsRow base 105 2 v l.length (bktsV l)) (hl:l.length<=100000) (x:Int×Int) :
  Calls prog 230 #[v,.agg #[.int .i64 x.1,.int .i64 x.2]] w fun e w'=>∃ k:Int,e=.returned (.int .i64 k)/\Hid (decide (0<=k)=decide (x∈l)/\Ext w w'):=by
 have HR:=lh (row_cells h);obtain ⟨a,c,rfl,h1,h2,h3,_⟩:=row_cells h;obtain ⟨n,hn⟩:∃ n,n=l.length:=⟨_,rfl⟩;have HN:=lh hn;rw [<-hn] at h1 hl ⊢;have HB:=lh (block_alloc_new w (.cells #[.int .i64 x.1,.int .i64 x.2] 105 (0,0)));have X0:=lh ((Ext.refl w).alloc (.cells #[.int .i64 x.1,.int .i64 x.2] 105 (0,0)));clear hn h h3;go_enter func230,ntmps230;go_wp2;go_loopw [8] (fun iv wr=>Hid (∃ k:Nat,k<=n/\iv=.int .i64 k/\x∉l.take k/\Ext (w.alloc (.cells #[.int .i64 x.1,.int .i64 x.2] 105 (0,0))) wr)) (fun iv _=>n - (intOf iv).toNat)
 case atStart=>exact ⟨0,Nat.zero_le _,rfl,by simp,Ext.refl _⟩
 case round =>
  obtain ⟨k,hk,rfl,hnot,hx⟩:=hrel.out;clear hrel;have HX:=lh hx;have HNot:=lh hnot;clear hx hnot;by_cases hlt:k<n
  ·obtain ⟨y,hy⟩:∃ y,l[k]?=some y:=⟨_,List.getElem?_eq_getElem (by have:=HN.out;omega)⟩;obtain ⟨a',c',e',_,_,_,h4⟩:=HR.out
   cases e'
   obtain ⟨g,rfl,_⟩:=h4 (k*2+0) _ (bkts_get hy (by decide))
   have r1:=lh (fun (z:After wr) j u (hj:([.int .i64 y.1,.int .i64 y.2]:List Value)[j]?=some u)=>by
    have hj2:j<2:=(List.getElem?_eq_some_iff.1 hj).1;obtain ⟨g',e,_,_,hc⟩:=h4 (k*2+j) u ((bkts_get hy hj2).trans hj)
    cases e
    exact ((X0.out.trans (HX.out.trans z.x)).cell (lt_of_cell hc)).trans hc:∀ z:After wr,z.v.rangeAt g (k*2) [.int .i64 y.1,.int .i64 y.2])
   have r2:=lh (fun (z:After wr)=>(HX.out.trans z.x |>.block (ltB HB.out)).trans HB.out:∀ z:After wr,z.v.heap[w.heap.size]?=_)
   have he:∀ w',(Go.Op.equalIn 10000 105 (.agg #[.int .i64 x.1,.int .i64 x.2]) (.agg #[.int .i64 y.1,.int .i64 y.2])).run prog w'=.ok (decide (x=y)) w':=fun w'=>by
    rw [eq_bkt]
    congr 1
    rw [Bool.eq_iff_iff,decide_eq_true_eq,decide_eq_true_eq];exact ⟨fun h=>Prod.ext h.1 h.2,fun h=>⟨by rw [h],by rw [h]⟩⟩
   have HMem:=lh (List.mem_of_getElem? hy);have HTk:=lh (take_next hy);clear hy h4
   cases hxy:decide (x=y) with
   | true =>
    have HXY:=lh (of_decide_eq_true hxy);rw [hxy] at he;clear hxy;go_wp2;refine wp_region_after (by kernel_rfl) (by kernel_rfl) ?_;refine wpQuiet_load_row rfl 105 (.tmp 3) rfl w.heap.size rfl _ _ (0,0) _ (by rintro _ ⟨z,rfl⟩;exact r2.out z) underlying105 rfl (by kernel_rfl) ?_;go_frame
    iterate 3 go_big_quiet_step (fail)
    refine wpQuiet_load_ag rfl 105 (.tmp 14) rfl g (k*2) rfl #[.int .i64 y.1,.int .i64 y.2] _ (by rintro _ ⟨z,rfl⟩;exact r1.out z) underlying105 rfl (by kernel_rfl) ?_;go_frame;go_big_quiet_step (fail);refine wpQuiet_nil ?_;rintro _ ⟨z,rfl⟩;have XZ:=lh (X0.out.trans (HX.out.trans z.x));go_wp2;go_ret;exact ⟨_,rfl,by rw [HXY.out,decide_eq_true HMem.out];exact decide_eq_true (by omega),XZ.out⟩
   | false =>
    have HXY:=lh (of_decide_eq_false hxy);rw [hxy] at he;clear hxy;go_wp2;refine wp_region_after (by kernel_rfl) (by kernel_rfl) ?_;refine wpQuiet_load_row rfl 105 (.tmp 3) rfl w.heap.size rfl _ _ (0,0) _ (by rintro _ ⟨z,rfl⟩;exact r2.out z) underlying105 rfl (by kernel_rfl) ?_;go_frame
    iterate 3 go_big_quiet_step (fail)
    refine wpQuiet_load_ag rfl 105 (.tmp 14) rfl g (k*2) rfl #[.int .i64 y.1,.int .i64 y.2] _ (by rintro _ ⟨z,rfl⟩;exact r1.out z) underlying105 rfl (by kernel_rfl) ?_;go_frame;go_big_quiet_step (fail);refine wpQuiet_nil ?_;rintro _ ⟨z,rfl⟩;have XZ:=lh (HX.out.trans z.x);go_wp2;go_roundw
    case rel=>exact ⟨k+1,by omega,by go_num,by rw [HTk.out];intro hm;rcases List.mem_append.1 hm with hm | hm;exact HNot.out hm;exact HXY.out (List.mem_singleton.1 hm),XZ.out⟩
    case measure=>simp [intOf] <;> omega
  ·obtain rfl:k=n:=by omega
   have HE:=lh (show decide (x∈l)=false from by
    have:=HNot.out;rw [List.take_of_length_le (by rw [HN.out];exact Nat.le_refl _)] at this
    exact decide_eq_false this)
   go_wp2;go_ret;exact ⟨_,rfl,by rw [HE.out];rfl,X0.out.trans HX.out⟩
theorem acontains_any {w:World} {base:Nat} {v:Value} {l:List (Int×Int)} (h:w.ownsRow base 105 2 v l.length (bktsV l)) (hl:l.length<=100000) (x:Int×Int) :
  Calls prog 168 #[v,.agg #[.int .i64 x.1,.int .i64 x.2]] w fun e w'=>e=.returned (.bool (decide (x∈l)))/\Ext w w':=by
 have X0:=lh ((Ext.refl w).alloc (.cells #[.int .i64 x.1,.int .i64 x.2] 105 (0,0)));have HI:=lh (aindex_any (owns_ext h X0.out) hl x);obtain ⟨a,c,rfl⟩:=rowk_shape h;generalize decide (x∈l)=R at *;generalize l.length=n at *;clear h;go_enter func168,ntmps168;go_wp2_with fail;refine HI.out.mono ?_;rintro e w1 ⟨k,rfl,h1⟩;have H1:=h1;clear h1;go_wp2;go_ret;exact ⟨by rw [<-H1.out.1];rfl,X0.out.trans H1.out.2⟩
end
section
open Go.RowKit Go.Shelf
def goB (p:Pol) (n:Nat) (now:Int) (full:List (Int×Int)) (i:Nat) (x:Ent):Bool :=
 (decide (0<p.age)&&decide (p.age<ageI x.time now))||((p.kind==2)&&decide (p.keep<(n:Int) - i))||((p.kind==3)&&decide (bktI (ageI x.time now)∈full))
def goStep (p:Pol) (n:Nat) (now:Int) (s:List ByteArray×List (Int×Int)) (i:Nat) (x:Ent):List ByteArray×List (Int×Int) :=
 if goB p n now s.2 i x then (s.1++[x.name],s.2) else (s.1,s.2++[bktI (ageI x.time now)])
def goS (p:Pol) (l:List Ent) (now:Int):Nat->List ByteArray×List (Int×Int)
 | 0=>([],[])
 | i+1=>match l[i]? with
  | some x=>goStep p l.length now (goS p l now i) i x
  | none=>goS p l now i
def goP (p:Pol) (l:List Ent) (now:Int):List ByteArray:=(goS p l now (l.length - 1)).1
theorem goS_next {p:Pol} {l:List Ent} {now:Int} {i:Nat} {x:Ent} (h:l[i]?=some x):goS p l now (i+1)=goStep p l.length now (goS p l now i) i x:=by
 rw [goS,h]
theorem goS_len (p:Pol) (l:List Ent) (now:Int):∀ i,(goS p l now i).1.length<=i/\(goS p l now i).2.length<=i
 | 0=>⟨Nat.le_refl _,Nat.le_refl _⟩
 | i+1=>by
  have ih:=goS_len p l now i;rcases hx:l[i]? with _ | x
  ·simp only [goS,hx];omega
  ·rw [goS_next hx];unfold goStep;split
   ·exact ⟨by simp;omega,by show (goS p l now i).2.length<=_;omega⟩
   ·exact ⟨by show (goS p l now i).1.length<=_;omega,by simp;omega⟩
structure GS (base:Nat) (w:World) (ov fv:Value) (s:List ByteArray×List (Int×Int)):Prop where
 out:w.ownsRow base 9 1 ov s.1.length (s.1.map Value.string)
 full:w.ownsRow base 105 2 fv s.2.length (bktsV s.2)
 nd:∀ b,ov.ownBlock=some b->fv.ownBlock≠some b
theorem GS.ext {base:Nat} {w w':World} {ov fv:Value} {s:List ByteArray×List (Int×Int)} (h:GS base w ov fv s) (x:Ext w w'):GS base w' ov fv s:=⟨owns_ext h.out x,owns_ext h.full x,h.nd⟩
theorem GS.addOut {base:Nat} {w w1:World} {ov fv ov':Value} {s:List ByteArray×List (Int×Int)} {q:ByteArray} (h:GS base w ov fv s) (ho:w1.ownsRow base 9 1 ov' (s.1.length+1) (s.1.map Value.string++[.string q])) (hg:w.grownBy w1 ov.ownBlock) (hv:ov'.ownBlock=ov.ownBlock\/ov'.ownBlock=some w.heap.size):GS base w1 ov' fv (s.1++[q],s.2):=by
 refine ⟨?_,?_,?_⟩
 ·rw [List.length_append,List.map_append];exact ho
 ·exact owns_blocks h.full fun b hb=>hg.block b (own_lt h.full b hb) fun e=>h.nd b e.symm hb
 ·intro b hb hb2;rcases hv with e | e
  ·rw [e] at hb;exact h.nd b hb hb2
  ·rw [e] at hb
   cases hb
   have:=own_lt h.full _ hb2;omega
theorem GS.addFull {base:Nat} {w w1:World} {ov fv fv':Value} {s:List ByteArray×List (Int×Int)} {q:Int×Int} (h:GS base w ov fv s) (ho:w1.ownsRow base 105 2 fv' (s.2.length+1) (bktsV s.2++[.int .i64 q.1,.int .i64 q.2])) (hg:w.grownBy w1 fv.ownBlock) (hv:fv'.ownBlock=fv.ownBlock\/fv'.ownBlock=some w.heap.size):GS base w1 ov fv' (s.1,s.2++[q]):=by
 refine ⟨?_,?_,?_⟩
 ·exact owns_blocks h.out fun b hb=>hg.block b (own_lt h.out b hb) fun e=>h.nd b hb e.symm
 ·rw [List.length_append];unfold bktsV;rw [List.flatMap_append];exact ho
 ·intro b hb hb2;rcases hv with e | e
  ·rw [e] at hb2;exact h.nd b hb hb2
  ·rw [e] at hb2
   cases hb2
   have:=own_lt h.out _ hb;omega
set_option maxRecDepth 100000 in
set_option maxHeartbeats 16000000 in
theorem apgoes_any {w:World} {v:Value} {l:List Ent} (h:EntsSl w v l) (hl:l.length<=100000) (h0:1<=l.length) (p:Pol) (now:Int) :
  Calls prog 100 #[polV p,v,.int .i64 now] w fun e w'=>∃ u,e=.returned u/\Hid (w'.ownsRow w.heap.size 9 1 u (goP p l now).length ((goP p l now).map Value.string)/\Ext w w'):=by
 obtain ⟨pk,pn,pa⟩:=p;have HL:=lh h;obtain ⟨g,o,cap,rfl,h1,h2,_⟩:=h;obtain ⟨n,hn⟩:∃ n,n=l.length:=⟨_,rfl⟩;have HN:=lh hn;have HGP:=lh (show goP ⟨pk,pn,pa⟩ l now=(goS ⟨pk,pn,pa⟩ l now (n - 1)).1 from by rw [hn];rfl);rw [HGP.out];rw [<-hn] at h1 hl h0 ⊢;have HB:=lh (block_alloc_new w (.cells #[.int .i64 pk,.int .i64 pn,.int .i64 pa] 89 (0,0)));have X0:=lh ((Ext.refl w).alloc (.cells #[.int .i64 pk,.int .i64 pn,.int .i64 pa] 89 (0,0)));clear hn;unfold polV;dsimp only;have hn1:((n:Int) - 1)=((n - 1:Nat):Int):=by omega
 go_enter func100,ntmps100;go_wp2;go_loopw [6,8,20] (fun ov fv iv wr=>Hid (∃ k:Nat,k<=n - 1/\iv=.int .i64 k/\GS (w.heap.size+1) wr ov fv (goS ⟨pk,pn,pa⟩ l now k)/\Ext (w.alloc (.cells #[.int .i64 pk,.int .i64 pn,.int .i64 pa] 89 (0,0))) wr)) (fun _ _ iv _=>n - 1 - (intOf iv).toNat)
 case atStart=>exact ⟨0,Nat.zero_le _,rfl,⟨World.ownsRow_nil _ _ _ _,World.ownsRow_nil _ _ _ _,fun b hb=>by simp [Value.ownBlock] at hb⟩,Ext.refl _⟩
 case round =>
  obtain ⟨k,hk,rfl,hgs,hx⟩:=hrel.out;clear hrel;have HX:=lh hx;have HG:=lh hgs;clear hx hgs;by_cases hlt:k<n - 1
  ·obtain ⟨x,hxk⟩:∃ x,l[k]?=some x:=⟨_,List.getElem?_eq_getElem (by have:=HN.out;omega)⟩;have HXK:=lh hxk;have HSt:=lh (goS_next (p:=⟨pk,pn,pa⟩) (now:=now) hxk);have hlk:=lh (goS_len ⟨pk,pn,pa⟩ l now k);have HR:=lh ((HL.out.ext (X0.out.trans HX.out)).at hxk);obtain ⟨xn,xp,xt,xs⟩:=x;have hab:=ageI_bd xt now;have HAg:=lh (fun w1=>aage_any xn xp xt now xs w1);have HBk:=lh (fun w1=>abucket_any (ageI xt now) w1 hab.1 hab.2);rw [<-HN.out] at HSt;unfold goStep goB at HSt;dsimp only at HSt;unfold bktC at HBk;obtain ⟨s1,s2,hs⟩:∃ s1 s2,goS ⟨pk,pn,pa⟩ l now k=(s1,s2):=⟨_,_,rfl⟩;rw [hs] at HG HSt hlk;dsimp only at HSt hlk;obtain ⟨hl1,hl2⟩:=hlk.out;obtain ⟨ag0,ag1⟩:=hab;generalize hbk:bktI (ageI xt now)=bk at *;generalize ageI xt now=ag at *;obtain ⟨bk1,bk2⟩:=bk;dsimp only at HBk;clear hxk hbk hs hlk;have hss:n - k - 1+1+k=n:=by omega
   have hw1:IntKind.i64.wrap ((n:Int) - (k:Int))=(n:Int) - (k:Int):=IntWalk.i64_in _ (by omega);clear hss;go_wp2_with (refine wpList_load_at rfl 93 (.tmp 23) rfl g (o+k*4) rfl #[.string xn,.string xp,.int .i64 xt,.int .i64 xs] _ HR.out underlying93 rfl (by kernel_rfl) ?_;go_frame);have HNE:=lh (block_alloc_new wr (.cells #[.string xn,.string xp,.int .i64 xt,.int .i64 xs] 93 (0,0)));have XE:=lh (HX.out.alloc (.cells #[.string xn,.string xp,.int .i64 xt,.int .i64 xs] 93 (0,0)));have HGE:=lh (HG.out.ext ((Ext.refl wr).alloc (.cells #[.string xn,.string xp,.int .i64 xt,.int .i64 xs] 93 (0,0))));refine (HAg.out _).mono ?_;rintro e w3 ⟨rfl,x3⟩;have HN3:=lh ((x3.block (ltB HNE.out)).trans HNE.out);have X3:=lh (XE.out.trans x3);have HG3:=lh (HGE.out.ext x3);clear x3 HNE XE HGE HG;go_wp2_with fail;refine (HBk.out _).mono ?_;rintro e w4 ⟨rfl,x4⟩;have x4':=lh (x4.alloc (.cells #[.int .i64 bk1,.int .i64 bk2] 105 (0,0)));have HN4:=lh ((x4'.out.block (ltB HN3.out)).trans HN3.out);have X4:=lh (X3.out.trans x4'.out);have HG4:=lh (HG3.out.ext x4'.out);have HK4:=lh (block_alloc_new w4 (.cells #[.int .i64 bk1,.int .i64 bk2] 105 (0,0)));have HP4:=lh ((X4.out.block (ltB HB.out)).trans HB.out);have hsz4:w.heap.size<=(w4.alloc (.cells #[.int .i64 bk1,.int .i64 bk2] 105 (0,0))).heap.size:=(X0.out.trans X4.out).size;have HMm:=lh (fun w5 (y:Ext (w4.alloc (.cells #[.int .i64 bk1,.int .i64 bk2] 105 (0,0))) w5)=>acontains_any (HG4.out.ext y).full (show s2.length<=100000 by omega) (bk1,bk2));obtain ⟨fa,fc,hfv⟩:=rowk_shape HG4.out.full;obtain ⟨oa,oc,hov⟩:=rowk_shape HG4.out.out;subst hfv;subst hov;obtain ⟨b4,hb4⟩:∃ b,b=w4.heap.size:=⟨_,rfl⟩;rw [<-hb4] at HK4;have HI2:=lh (show (prog.info? 105).map (·.size)=some 2 from by kernel_rfl);go_upto_region 9 with (fail)
   generalize w4.alloc (.cells #[.int .i64 bk1,.int .i64 bk2] 105 (0,0))=w5 at *;rw [<-hb4];clear x4 x4' HN3 X3 HG3 HBk HAg hb4;have q0:w5.cell? ⟨w.heap.size,0,none⟩=some (.int .i64 pk):=cellB HP4.out;have q1:w5.cell? ⟨w.heap.size,1,none⟩=some (.int .i64 pn):=cellB HP4.out;have q2:w5.cell? ⟨w.heap.size,2,none⟩=some (.int .i64 pa):=cellB HP4.out;have q3:w5.cell? ⟨wr.heap.size,0,none⟩=some (.string xn):=cellB HN4.out;generalize hm:decide ((bk1,bk2)∈s2)=m at *;generalize hc2:decide (pn<(n:Int) - (k:Int))=c2 at *;generalize hb2:decide (pa<ag)=b2 at *;generalize hb1:decide (0<pa)=b1 at *;clear hm
   cases b1 with
   | true =>
    cases b2 with
    | true =>
     have HEQ:=lh (show goS _ l now (k+1)=(s1++[xn],s2) from by rw [HSt.out];simp);clear HSt;have HGN:=HG4;have hWs:w.heap.size+1<=w5.heap.size:=by have:=X4.out.size;simp only [size_alloc] at this;omega
     go_wp2_with (at_builtin;refine append_kw elText (w.heap.size+1) (.slice oa s1.length oc) s1.length (s1.map Value.string) (owns_ext HGN.out.out ((Ext.refl _).alloc (.cells #[.string xn] 9 (0,0)))) w5.heap.size [.string xn] rfl (.tmp 64) (.tmp 67) rfl rfl rfl rfl (fun j u hj=>(cellB (block_alloc_new _ _)).trans (by simpa using hj)) (by simp [Value.oneCell']) (by omega) (by simp only [size_alloc];omega) ?_;intro v7 w7 ho7 hg7 hi7 hv7;have HO7:=lh ho7;have HG7:=lh hg7;have HV7:=lh hv7;clear ho7 hg7 hi7 hv7;go_frame);have HF:=lh (show GS (w.heap.size+1) w7 v7 (.slice fa s2.length fc) (s1++[xn],s2) from (HGN.out.ext ((Ext.refl _).alloc (.cells #[.string xn] 9 (0,0)))).addOut HO7.out HG7.out HV7.out);have XF:=lh (show Ext _ w7 from grown_ext (X4.out.alloc (.cells #[.string xn] 9 (0,0))) (by simp only [size_alloc];omega) (owns_ext HGN.out.out ((Ext.refl _).alloc (.cells #[.string xn] 9 (0,0)))) HG7.out);go_roundw
     case rel=>exact ⟨k+1,by omega,by go_num,by rw [HEQ.out];exact HF.out,XF.out⟩
     case measure=>simp [intOf] <;> omega
    | false =>
     rw [Bool.and_false,Bool.false_or] at HSt;by_cases hk2:pk=2
     ·subst hk2
      cases c2 with
      | true =>
       have HEQ:=lh (show goS _ l now (k+1)=(s1++[xn],s2) from by rw [HSt.out];simp);clear HSt;have HGN:=HG4;have hWs:w.heap.size+1<=w5.heap.size:=by have:=X4.out.size;simp only [size_alloc] at this;omega
       go_wp2_with (at_builtin;refine append_kw elText (w.heap.size+1) (.slice oa s1.length oc) s1.length (s1.map Value.string) (owns_ext HGN.out.out ((Ext.refl _).alloc (.cells #[.string xn] 9 (0,0)))) w5.heap.size [.string xn] rfl (.tmp 64) (.tmp 67) rfl rfl rfl rfl (fun j u hj=>(cellB (block_alloc_new _ _)).trans (by simpa using hj)) (by simp [Value.oneCell']) (by omega) (by simp only [size_alloc];omega) ?_;intro v7 w7 ho7 hg7 hi7 hv7;have HO7:=lh ho7;have HG7:=lh hg7;have HV7:=lh hv7;clear ho7 hg7 hi7 hv7;go_frame);have HF:=lh (show GS (w.heap.size+1) w7 v7 (.slice fa s2.length fc) (s1++[xn],s2) from (HGN.out.ext ((Ext.refl _).alloc (.cells #[.string xn] 9 (0,0)))).addOut HO7.out HG7.out HV7.out);have XF:=lh (show Ext _ w7 from grown_ext (X4.out.alloc (.cells #[.string xn] 9 (0,0))) (by simp only [size_alloc];omega) (owns_ext HGN.out.out ((Ext.refl _).alloc (.cells #[.string xn] 9 (0,0)))) HG7.out);go_roundw
       case rel=>exact ⟨k+1,by omega,by go_num,by rw [HEQ.out];exact HF.out,XF.out⟩
       case measure=>simp [intOf] <;> omega
      | false =>
       have HEQ:=lh (show goS _ l now (k+1)=(s1,s2++[(bk1,bk2)]) from by rw [HSt.out];simp);clear HSt;have HGN:=HG4;have hWs:w.heap.size+1<=w5.heap.size:=by have:=X4.out.size;simp only [size_alloc] at this;omega
       go_wp2_with (first
        | (refine wpList_load_row rfl 105 (.tmp 12) rfl b4 rfl _ _ (0,0) _ HK4.out underlying105 rfl HI2.out ?_;go_frame)
        | (refine wpList_buildOne elBkt (by decide) rfl (.tmp 31) rfl #[.int .i64 bk1,.int .i64 bk2] rfl rfl ?_;go_frame)
        | (at_builtin;refine append_kw elBkt (w.heap.size+1) (.slice fa s2.length fc) s2.length (bktsV s2) (owns_ext HGN.out.full ((Ext.refl _).alloc (.cells #[.int .i64 bk1,.int .i64 bk2] 105 (0,0)))) w5.heap.size [.int .i64 bk1,.int .i64 bk2] rfl (.tmp 30) (.tmp 32) rfl rfl rfl rfl (fun j u hj=>(cellB (block_alloc_new _ _)).trans (by simpa using hj)) (by simp [Value.oneCell']) (by omega) (by simp only [size_alloc];omega) ?_;intro v7 w7 ho7 hg7 hi7 hv7;have HO7:=lh ho7;have HG7:=lh hg7;have HV7:=lh hv7;clear ho7 hg7 hi7 hv7;go_frame))
       have HF:=lh (show GS (w.heap.size+1) w7 (.slice oa s1.length oc) v7 (s1,s2++[(bk1,bk2)]) from (HGN.out.ext ((Ext.refl _).alloc (.cells #[.int .i64 bk1,.int .i64 bk2] 105 (0,0)))).addFull HO7.out HG7.out HV7.out);have XF:=lh (show Ext _ w7 from grown_ext (X4.out.alloc (.cells #[.int .i64 bk1,.int .i64 bk2] 105 (0,0))) (by simp only [size_alloc];omega) (owns_ext HGN.out.full ((Ext.refl _).alloc (.cells #[.int .i64 bk1,.int .i64 bk2] 105 (0,0)))) HG7.out);go_roundw
       case rel=>exact ⟨k+1,by omega,by go_num,by rw [HEQ.out];exact HF.out,XF.out⟩
       case measure=>simp [intOf] <;> omega
     ·have hk2b:(pk==2)=false:=by simpa using hk2
      rw [hk2b,Bool.false_and] at HSt;by_cases hk3:pk=3
      ·subst hk3;go_wp2_with (refine wpList_load_row_g ?_ 105 (.tmp 12) rfl b4 rfl _ _ (0,0) _ HK4.out underlying105 rfl HI2.out ?_;(focus (simp [Region.wanted,yielded];done));go_frame);refine (HMm.out _ (Ext.refl _)).mono ?_;rintro e w6 ⟨rfl,x6⟩;have X6:=lh (X4.out.trans x6);have HG6:=lh (HG4.out.ext x6);have HK6:=lh ((x6.block (ltB HK4.out)).trans HK4.out);have q4:=(x6.cell (lt_of_cell q3)).trans q3;clear x6 q3
       cases m with
       | true =>
        have HEQ:=lh (show goS _ l now (k+1)=(s1++[xn],s2) from by rw [HSt.out];simp);clear HSt;have HGN:=HG6;have hWs:w.heap.size+1<=w6.heap.size:=by have:=X6.out.size;simp only [size_alloc] at this;omega
        go_wp2_with (at_builtin;refine append_kw elText (w.heap.size+1) (.slice oa s1.length oc) s1.length (s1.map Value.string) (owns_ext HGN.out.out ((Ext.refl _).alloc (.cells #[.string xn] 9 (0,0)))) w6.heap.size [.string xn] rfl (.tmp 64) (.tmp 67) rfl rfl rfl rfl (fun j u hj=>(cellB (block_alloc_new _ _)).trans (by simpa using hj)) (by simp [Value.oneCell']) (by omega) (by simp only [size_alloc];omega) ?_;intro v7 w7 ho7 hg7 hi7 hv7;have HO7:=lh ho7;have HG7:=lh hg7;have HV7:=lh hv7;clear ho7 hg7 hi7 hv7;go_frame);have HF:=lh (show GS (w.heap.size+1) w7 v7 (.slice fa s2.length fc) (s1++[xn],s2) from (HGN.out.ext ((Ext.refl _).alloc (.cells #[.string xn] 9 (0,0)))).addOut HO7.out HG7.out HV7.out);have XF:=lh (show Ext _ w7 from grown_ext (X6.out.alloc (.cells #[.string xn] 9 (0,0))) (by simp only [size_alloc];omega) (owns_ext HGN.out.out ((Ext.refl _).alloc (.cells #[.string xn] 9 (0,0)))) HG7.out);go_roundw
        case rel=>exact ⟨k+1,by omega,by go_num,by rw [HEQ.out];exact HF.out,XF.out⟩
        case measure=>simp [intOf] <;> omega
       | false =>
        have HEQ:=lh (show goS _ l now (k+1)=(s1,s2++[(bk1,bk2)]) from by rw [HSt.out];simp);clear HSt;have HGN:=HG6;have hWs:w.heap.size+1<=w6.heap.size:=by have:=X6.out.size;simp only [size_alloc] at this;omega
        go_wp2_with (first
         | (refine wpList_load_row rfl 105 (.tmp 12) rfl b4 rfl _ _ (0,0) _ HK6.out underlying105 rfl HI2.out ?_;go_frame)
         | (refine wpList_buildOne elBkt (by decide) rfl (.tmp 31) rfl #[.int .i64 bk1,.int .i64 bk2] rfl rfl ?_;go_frame)
         | (at_builtin;refine append_kw elBkt (w.heap.size+1) (.slice fa s2.length fc) s2.length (bktsV s2) (owns_ext HGN.out.full ((Ext.refl _).alloc (.cells #[.int .i64 bk1,.int .i64 bk2] 105 (0,0)))) w6.heap.size [.int .i64 bk1,.int .i64 bk2] rfl (.tmp 30) (.tmp 32) rfl rfl rfl rfl (fun j u hj=>(cellB (block_alloc_new _ _)).trans (by simpa using hj)) (by simp [Value.oneCell']) (by omega) (by simp only [size_alloc];omega) ?_;intro v7 w7 ho7 hg7 hi7 hv7;have HO7:=lh ho7;have HG7:=lh hg7;have HV7:=lh hv7;clear ho7 hg7 hi7 hv7;go_frame))
        have HF:=lh (show GS (w.heap.size+1) w7 (.slice oa s1.length oc) v7 (s1,s2++[(bk1,bk2)]) from (HGN.out.ext ((Ext.refl _).alloc (.cells #[.int .i64 bk1,.int .i64 bk2] 105 (0,0)))).addFull HO7.out HG7.out HV7.out);have XF:=lh (show Ext _ w7 from grown_ext (X6.out.alloc (.cells #[.int .i64 bk1,.int .i64 bk2] 105 (0,0))) (by simp only [size_alloc];omega) (owns_ext HGN.out.full ((Ext.refl _).alloc (.cells #[.int .i64 bk1,.int .i64 bk2] 105 (0,0)))) HG7.out);go_roundw
        case rel=>exact ⟨k+1,by omega,by go_num,by rw [HEQ.out];exact HF.out,XF.out⟩
        case measure=>simp [intOf] <;> omega
      ·have hk3b:(pk==3)=false:=by simpa using hk3
       rw [hk3b,Bool.false_and] at HSt;have HEQ:=lh (show goS _ l now (k+1)=(s1,s2++[(bk1,bk2)]) from by rw [HSt.out];simp);clear HSt;have HGN:=HG4;have hWs:w.heap.size+1<=w5.heap.size:=by have:=X4.out.size;simp only [size_alloc] at this;omega
       go_wp2_with (first
        | (refine wpList_load_row rfl 105 (.tmp 12) rfl b4 rfl _ _ (0,0) _ HK4.out underlying105 rfl HI2.out ?_;go_frame)
        | (refine wpList_buildOne elBkt (by decide) rfl (.tmp 31) rfl #[.int .i64 bk1,.int .i64 bk2] rfl rfl ?_;go_frame)
        | (at_builtin;refine append_kw elBkt (w.heap.size+1) (.slice fa s2.length fc) s2.length (bktsV s2) (owns_ext HGN.out.full ((Ext.refl _).alloc (.cells #[.int .i64 bk1,.int .i64 bk2] 105 (0,0)))) w5.heap.size [.int .i64 bk1,.int .i64 bk2] rfl (.tmp 30) (.tmp 32) rfl rfl rfl rfl (fun j u hj=>(cellB (block_alloc_new _ _)).trans (by simpa using hj)) (by simp [Value.oneCell']) (by omega) (by simp only [size_alloc];omega) ?_;intro v7 w7 ho7 hg7 hi7 hv7;have HO7:=lh ho7;have HG7:=lh hg7;have HV7:=lh hv7;clear ho7 hg7 hi7 hv7;go_frame))
       have HF:=lh (show GS (w.heap.size+1) w7 (.slice oa s1.length oc) v7 (s1,s2++[(bk1,bk2)]) from (HGN.out.ext ((Ext.refl _).alloc (.cells #[.int .i64 bk1,.int .i64 bk2] 105 (0,0)))).addFull HO7.out HG7.out HV7.out);have XF:=lh (show Ext _ w7 from grown_ext (X4.out.alloc (.cells #[.int .i64 bk1,.int .i64 bk2] 105 (0,0))) (by simp only [size_alloc];omega) (owns_ext HGN.out.full ((Ext.refl _).alloc (.cells #[.int .i64 bk1,.int .i64 bk2] 105 (0,0)))) HG7.out);go_roundw
       case rel=>exact ⟨k+1,by omega,by go_num,by rw [HEQ.out];exact HF.out,XF.out⟩
       case measure=>simp [intOf] <;> omega
   | false =>
    rw [Bool.false_and,Bool.false_or] at HSt;by_cases hk2:pk=2
    ·subst hk2
     cases c2 with
     | true =>
      have HEQ:=lh (show goS _ l now (k+1)=(s1++[xn],s2) from by rw [HSt.out];simp);clear HSt;have HGN:=HG4;have hWs:w.heap.size+1<=w5.heap.size:=by have:=X4.out.size;simp only [size_alloc] at this;omega
      go_wp2_with (at_builtin;refine append_kw elText (w.heap.size+1) (.slice oa s1.length oc) s1.length (s1.map Value.string) (owns_ext HGN.out.out ((Ext.refl _).alloc (.cells #[.string xn] 9 (0,0)))) w5.heap.size [.string xn] rfl (.tmp 64) (.tmp 67) rfl rfl rfl rfl (fun j u hj=>(cellB (block_alloc_new _ _)).trans (by simpa using hj)) (by simp [Value.oneCell']) (by omega) (by simp only [size_alloc];omega) ?_;intro v7 w7 ho7 hg7 hi7 hv7;have HO7:=lh ho7;have HG7:=lh hg7;have HV7:=lh hv7;clear ho7 hg7 hi7 hv7;go_frame);have HF:=lh (show GS (w.heap.size+1) w7 v7 (.slice fa s2.length fc) (s1++[xn],s2) from (HGN.out.ext ((Ext.refl _).alloc (.cells #[.string xn] 9 (0,0)))).addOut HO7.out HG7.out HV7.out);have XF:=lh (show Ext _ w7 from grown_ext (X4.out.alloc (.cells #[.string xn] 9 (0,0))) (by simp only [size_alloc];omega) (owns_ext HGN.out.out ((Ext.refl _).alloc (.cells #[.string xn] 9 (0,0)))) HG7.out);go_roundw
      case rel=>exact ⟨k+1,by omega,by go_num,by rw [HEQ.out];exact HF.out,XF.out⟩
      case measure=>simp [intOf] <;> omega
     | false =>
      have HEQ:=lh (show goS _ l now (k+1)=(s1,s2++[(bk1,bk2)]) from by rw [HSt.out];simp);clear HSt;have HGN:=HG4;have hWs:w.heap.size+1<=w5.heap.size:=by have:=X4.out.size;simp only [size_alloc] at this;omega
      go_wp2_with (first
       | (refine wpList_load_row rfl 105 (.tmp 12) rfl b4 rfl _ _ (0,0) _ HK4.out underlying105 rfl HI2.out ?_;go_frame)
       | (refine wpList_buildOne elBkt (by decide) rfl (.tmp 31) rfl #[.int .i64 bk1,.int .i64 bk2] rfl rfl ?_;go_frame)
       | (at_builtin;refine append_kw elBkt (w.heap.size+1) (.slice fa s2.length fc) s2.length (bktsV s2) (owns_ext HGN.out.full ((Ext.refl _).alloc (.cells #[.int .i64 bk1,.int .i64 bk2] 105 (0,0)))) w5.heap.size [.int .i64 bk1,.int .i64 bk2] rfl (.tmp 30) (.tmp 32) rfl rfl rfl rfl (fun j u hj=>(cellB (block_alloc_new _ _)).trans (by simpa using hj)) (by simp [Value.oneCell']) (by omega) (by simp only [size_alloc];omega) ?_;intro v7 w7 ho7 hg7 hi7 hv7;have HO7:=lh ho7;have HG7:=lh hg7;have HV7:=lh hv7;clear ho7 hg7 hi7 hv7;go_frame))
      have HF:=lh (show GS (w.heap.size+1) w7 (.slice oa s1.length oc) v7 (s1,s2++[(bk1,bk2)]) from (HGN.out.ext ((Ext.refl _).alloc (.cells #[.int .i64 bk1,.int .i64 bk2] 105 (0,0)))).addFull HO7.out HG7.out HV7.out);have XF:=lh (show Ext _ w7 from grown_ext (X4.out.alloc (.cells #[.int .i64 bk1,.int .i64 bk2] 105 (0,0))) (by simp only [size_alloc];omega) (owns_ext HGN.out.full ((Ext.refl _).alloc (.cells #[.int .i64 bk1,.int .i64 bk2] 105 (0,0)))) HG7.out);go_roundw
      case rel=>exact ⟨k+1,by omega,by go_num,by rw [HEQ.out];exact HF.out,XF.out⟩
      case measure=>simp [intOf] <;> omega
    ·have hk2b:(pk==2)=false:=by simpa using hk2
     rw [hk2b,Bool.false_and] at HSt;by_cases hk3:pk=3
     ·subst hk3;go_wp2_with (refine wpList_load_row_g ?_ 105 (.tmp 12) rfl b4 rfl _ _ (0,0) _ HK4.out underlying105 rfl HI2.out ?_;(focus (simp [Region.wanted,yielded];done));go_frame);refine (HMm.out _ (Ext.refl _)).mono ?_;rintro e w6 ⟨rfl,x6⟩;have X6:=lh (X4.out.trans x6);have HG6:=lh (HG4.out.ext x6);have HK6:=lh ((x6.block (ltB HK4.out)).trans HK4.out);have q4:=(x6.cell (lt_of_cell q3)).trans q3;clear x6 q3
      cases m with
      | true =>
       have HEQ:=lh (show goS _ l now (k+1)=(s1++[xn],s2) from by rw [HSt.out];simp);clear HSt;have HGN:=HG6;have hWs:w.heap.size+1<=w6.heap.size:=by have:=X6.out.size;simp only [size_alloc] at this;omega
       go_wp2_with (at_builtin;refine append_kw elText (w.heap.size+1) (.slice oa s1.length oc) s1.length (s1.map Value.string) (owns_ext HGN.out.out ((Ext.refl _).alloc (.cells #[.string xn] 9 (0,0)))) w6.heap.size [.string xn] rfl (.tmp 64) (.tmp 67) rfl rfl rfl rfl (fun j u hj=>(cellB (block_alloc_new _ _)).trans (by simpa using hj)) (by simp [Value.oneCell']) (by omega) (by simp only [size_alloc];omega) ?_;intro v7 w7 ho7 hg7 hi7 hv7;have HO7:=lh ho7;have HG7:=lh hg7;have HV7:=lh hv7;clear ho7 hg7 hi7 hv7;go_frame);have HF:=lh (show GS (w.heap.size+1) w7 v7 (.slice fa s2.length fc) (s1++[xn],s2) from (HGN.out.ext ((Ext.refl _).alloc (.cells #[.string xn] 9 (0,0)))).addOut HO7.out HG7.out HV7.out);have XF:=lh (show Ext _ w7 from grown_ext (X6.out.alloc (.cells #[.string xn] 9 (0,0))) (by simp only [size_alloc];omega) (owns_ext HGN.out.out ((Ext.refl _).alloc (.cells #[.string xn] 9 (0,0)))) HG7.out);go_roundw
       case rel=>exact ⟨k+1,by omega,by go_num,by rw [HEQ.out];exact HF.out,XF.out⟩
       case measure=>simp [intOf] <;> omega
      | false =>
       have HEQ:=lh (show goS _ l now (k+1)=(s1,s2++[(bk1,bk2)]) from by rw [HSt.out];simp);clear HSt;have HGN:=HG6;have hWs:w.heap.size+1<=w6.heap.size:=by have:=X6.out.size;simp only [size_alloc] at this;omega
       go_wp2_with (first
        | (refine wpList_load_row rfl 105 (.tmp 12) rfl b4 rfl _ _ (0,0) _ HK6.out underlying105 rfl HI2.out ?_;go_frame)
        | (refine wpList_buildOne elBkt (by decide) rfl (.tmp 31) rfl #[.int .i64 bk1,.int .i64 bk2] rfl rfl ?_;go_frame)
        | (at_builtin;refine append_kw elBkt (w.heap.size+1) (.slice fa s2.length fc) s2.length (bktsV s2) (owns_ext HGN.out.full ((Ext.refl _).alloc (.cells #[.int .i64 bk1,.int .i64 bk2] 105 (0,0)))) w6.heap.size [.int .i64 bk1,.int .i64 bk2] rfl (.tmp 30) (.tmp 32) rfl rfl rfl rfl (fun j u hj=>(cellB (block_alloc_new _ _)).trans (by simpa using hj)) (by simp [Value.oneCell']) (by omega) (by simp only [size_alloc];omega) ?_;intro v7 w7 ho7 hg7 hi7 hv7;have HO7:=lh ho7;have HG7:=lh hg7;have HV7:=lh hv7;clear ho7 hg7 hi7 hv7;go_frame))
       have HF:=lh (show GS (w.heap.size+1) w7 (.slice oa s1.length oc) v7 (s1,s2++[(bk1,bk2)]) from (HGN.out.ext ((Ext.refl _).alloc (.cells #[.int .i64 bk1,.int .i64 bk2] 105 (0,0)))).addFull HO7.out HG7.out HV7.out);have XF:=lh (show Ext _ w7 from grown_ext (X6.out.alloc (.cells #[.int .i64 bk1,.int .i64 bk2] 105 (0,0))) (by simp only [size_alloc];omega) (owns_ext HGN.out.full ((Ext.refl _).alloc (.cells #[.int .i64 bk1,.int .i64 bk2] 105 (0,0)))) HG7.out);go_roundw
       case rel=>exact ⟨k+1,by omega,by go_num,by rw [HEQ.out];exact HF.out,XF.out⟩
       case measure=>simp [intOf] <;> omega
     ·have hk3b:(pk==3)=false:=by simpa using hk3
      rw [hk3b,Bool.false_and] at HSt;have HEQ:=lh (show goS _ l now (k+1)=(s1,s2++[(bk1,bk2)]) from by rw [HSt.out];simp);clear HSt;have HGN:=HG4;have hWs:w.heap.size+1<=w5.heap.size:=by have:=X4.out.size;simp only [size_alloc] at this;omega
      go_wp2_with (first
       | (refine wpList_load_row rfl 105 (.tmp 12) rfl b4 rfl _ _ (0,0) _ HK4.out underlying105 rfl HI2.out ?_;go_frame)
       | (refine wpList_buildOne elBkt (by decide) rfl (.tmp 31) rfl #[.int .i64 bk1,.int .i64 bk2] rfl rfl ?_;go_frame)
       | (at_builtin;refine append_kw elBkt (w.heap.size+1) (.slice fa s2.length fc) s2.length (bktsV s2) (owns_ext HGN.out.full ((Ext.refl _).alloc (.cells #[.int .i64 bk1,.int .i64 bk2] 105 (0,0)))) w5.heap.size [.int .i64 bk1,.int .i64 bk2] rfl (.tmp 30) (.tmp 32) rfl rfl rfl rfl (fun j u hj=>(cellB (block_alloc_new _ _)).trans (by simpa using hj)) (by simp [Value.oneCell']) (by omega) (by simp only [size_alloc];omega) ?_;intro v7 w7 ho7 hg7 hi7 hv7;have HO7:=lh ho7;have HG7:=lh hg7;have HV7:=lh hv7;clear ho7 hg7 hi7 hv7;go_frame))
      have HF:=lh (show GS (w.heap.size+1) w7 (.slice oa s1.length oc) v7 (s1,s2++[(bk1,bk2)]) from (HGN.out.ext ((Ext.refl _).alloc (.cells #[.int .i64 bk1,.int .i64 bk2] 105 (0,0)))).addFull HO7.out HG7.out HV7.out);have XF:=lh (show Ext _ w7 from grown_ext (X4.out.alloc (.cells #[.int .i64 bk1,.int .i64 bk2] 105 (0,0))) (by simp only [size_alloc];omega) (owns_ext HGN.out.full ((Ext.refl _).alloc (.cells #[.int .i64 bk1,.int .i64 bk2] 105 (0,0)))) HG7.out);go_roundw
      case rel=>exact ⟨k+1,by omega,by go_num,by rw [HEQ.out];exact HF.out,XF.out⟩
      case measure=>simp [intOf] <;> omega
  ·obtain rfl:k=n - 1:=by omega
   have hx1:=HX.out;go_wp2;go_ret;exact ⟨_,rfl,owns_down HG.out.out (Nat.le_succ _),X0.out.trans HX.out⟩
end
section
open Go.RowKit Go.Shelf
section
variable {P:Program} {ops:Array Oper} {Q:Exit->Act->World->Prop} {md:Region.Mode} {S:World->Prop} {a:Act}
theorem run_buildOneOp {w:World} {t e:TypeId} {z:Value} {k bytes:Nat} (el:ElemK P t e z k bytes) (hk:k<=1000) {o:Oper} (x:Operand)
  (ho:o.op=.buildSlice t 1 #[(0,x)]) (C:Array Value) (hx:a.eval x=.agg C) (hC:C.size=k):(execOp a.eval o).run P w=.ok (.value (.slice (some ⟨w.heap.size,0,none⟩) 1 1)) (w.alloc (.cells C e)):=by
 obtain ⟨i,hi,hz,hs,_⟩:=info_parts el.info;have hp:=el.pos;have h1:=Go.Great.fill_whole (s:=i.size) (by rw [hs];exact hp) [.agg C] ((Array.range (1*i.size)).map (z.cells[· % z.cells.size]!)) (fun v hv=>by rw [List.mem_singleton.1 hv,hs];exact hC) (by simp);have h2:((#[(0,x)]:Array (Nat×Operand)).map fun (i,x)=>(i,a.eval x)).toList=(([.agg C]:List Value).zipIdx 0).map fun x=>(x.2,x.1):=by simp [hx]
 have hr:=run_buildSlice (P:=P) w t e 1 ((#[(0,x)]:Array (Nat×Operand)).map fun (i,x)=>(i,a.eval x)) C i z el.ut hi hz (by rw [hs];omega) (by rw [hs];omega) (by rw [h2,h1];simp [Value.cells]);unfold execOp;simp only [ho,Sem.run_bind,hr,Result.andThen_ok];rfl
theorem run_append_kwOp {o:Oper} {w:World} {t e:TypeId} {z:Value} {k bytes:Nat} (el:ElemK P t e z k bytes)
  (base:Nat) (v:Value) (n:Nat) (xs:List Value) (hown:w.ownsRow base e k v n xs) (g:Nat) (us:List Value) (hus:us.length=k) (s x:Operand)
  (ho:o.op=.call { callee:=.builtin .append,args:=#[s,x],argTypes:=#[t,t] })
  (hs:a.eval s=v) (hx:a.eval x=.slice (some ⟨g,0,none⟩) 1 1) (hnew:∀ (j:Nat) u,us[j]?=some u->w.cell? ⟨g,j,none⟩=some u) (h1:∀ u∈us,u.oneCell'=true) (hn:n<=68719476736) (hbase:base<=w.heap.size) :
  ∃ v' w',(execOp a.eval o).run P w=.ok (.value v') w'/\w'.ownsRow base e k v' (n+1) (xs++us)/\w.grownBy w' v.ownBlock/\(v'.ownBlock=v.ownBlock\/v'.ownBlock=some w.heap.size):=by
 obtain ⟨i,hi,hz,hsz,hby⟩:=info_parts el.info;have hf:=el.few
 have hnews:∀ j u,us[j]?=some u->w.cell? ((⟨g,0,none⟩:Addr).add j)=some u:=fun j u hj=>by
  rw [append_kw.add_off,Nat.zero_add];exact hnew j u hj
 have hm:n+1<=maxLen:=by unfold maxLen;omega
 have hb:(n+1)*bytes<=140737488355328:=by
  have:(n+1)*bytes<=(n+1)*1024:=Nat.mul_le_mul_left _ hf;omega
 obtain ⟨v',w',hr,h2,h3,_⟩:=run_append_own w base t o.type e i z k bytes el.ut hi hz hsz hby el.cells el.pos v n xs hown ⟨g,0,none⟩ 1 1 us (by omega) hnews h1 hm hb hbase;have hw:=append_where el.ut hi hz hsz hown (by omega) hnews h1 (by omega) hm (by rw [hby];exact hb) hr;refine ⟨v',w',?_,h2,h3,hw⟩;unfold execOp;simp only [ho,resolve,invoke,builtin,Sem.run_bind,Sem.run_pure,Result.andThen_ok,List.map_toArray,List.map_cons,List.map_nil,hs,hx,hr]
theorem HeadAt.append {o:Oper} {n f i:Nat} {listed:Array Bool} {w:World} {rest:List Oper} (hin:decide (i<n)=true) (hr:Region.ready .any ops listed=[i]) (hi:ops.toList.drop i=o::rest) (hw:Region.wanted o (yielded ops a.tmps)=true)
  {t e:TypeId} {z:Value} {k bytes:Nat} (el:ElemK P t e z k bytes)
  (base:Nat) (v:Value) (m:Nat) (xs:List Value) (hown:w.ownsRow base e k v m xs) (g:Nat) (us:List Value) (hus:us.length=k) (s x:Operand)
  (ho:o.op=.call { callee:=.builtin .append,args:=#[s,x],argTypes:=#[t,t] })
  (hs:a.eval s=v) (hx:a.eval x=.slice (some ⟨g,0,none⟩) 1 1) (hnew:∀ (j:Nat) u,us[j]?=some u->w.cell? ⟨g,j,none⟩=some u) (h1:∀ u∈us,u.oneCell'=true) (hn:m<=68719476736) (hbase:base<=w.heap.size)
  (h:∀ v' w',w'.ownsRow base e k v' (m+1) (xs++us)->w.grownBy w' v.ownBlock->(v'.ownBlock=v.ownBlock\/v'.ownBlock=some w.heap.size)->S w'/\HeadAt P ops Q S n f (listed.setIfInBounds i true) (a.put o.dst v') w'):HeadAt P ops Q S n (f+1) listed a w:=by
 obtain ⟨v',w',hrun,h2,h3,h4⟩:=run_append_kwOp (a:=a) el base v m xs hown g us hus s x ho hs hx hnew h1 hn hbase;obtain ⟨h5,h6⟩:=h v' w' h2 h3 h4;exact HeadAt.one hin hr hi hw hrun h5 h6
theorem yieldsIf_lookup {o:Oper} (hgd:o.guard=none) (t:TypeId) (m k:Operand) (ho:o.op=.lookup t m k false) {vm vk v:Value} (h1:a.eval m=vm) (h2:a.eval k=vk)
  (hr:∀ w,S w->(Instr.lookup t vm vk false).run P w=.ok v w):YieldsIf P ops S o v a :=
 .inl ⟨by simp only [Region.wanted,hgd],fun w hw=>by
  subst h1;subst h2;unfold execOp
  simp only [ho,Sem.run_bind,Sem.run_pure,hr w hw,Result.andThen_ok]⟩
theorem yieldsIf_load1 {o:Oper} (hgd:o.guard=none) (ty:TypeId) (x:Operand) (ho:o.op=.load ty x) {v:Value} (hr:∀ w,S w->(Instr.loadAt ty (a.eval x)).run P w=.ok v w):YieldsIf P ops S o v a :=
 .inl ⟨by simp only [Region.wanted,hgd],fun w hw=>by
  unfold execOp
  simp only [ho,Sem.run_bind,Sem.run_pure,hr w hw,Result.andThen_ok]⟩
theorem yieldsIf_cell {o:Oper} (hgd:o.guard=none) (ty:TypeId) (x:Operand) (ho:o.op=.load ty x) (g i:Nat) (hx:a.eval x=.pointer (some ⟨g,i,none⟩)) {v:Value} (hag:∀ w,(isAgg ty).run P w=.ok false w) (hc:∀ w,S w->w.cell? ⟨g,i,none⟩=some v):YieldsIf P ops S o v a :=
 yieldsIf_load1 hgd ty x ho fun w hw=>by
  have hl:(load ⟨g,i,none⟩).run P w=.ok v w:=by simp [hc w hw]
  simp only [hx,Instr.loadAt,Instr.sureAddr,Sem.run_bind,Sem.run_pure,Result.andThen_ok,loadVar,hag,hl,Bool.false_eq_true,if_false]
end
theorem agg9 (w:World):(isAgg 9).run prog w=.ok false w:=by kernel_rfl
def MapU (w:World) (b n:Nat) (f:ByteArray->Option Value):Prop:=∃ D:DataW Value,w.ownsMap prog 9 RV b n D/\∀ s:ByteArray,
 (Maps.has D (.string s.data.toList)=(f s).isSome/\∀ z,D.atKey (.string s.data.toList) z=(match f s with | some v=>.held v | none=>z))
theorem MapU.made (w:World):MapU (w.alloc (.map #[] 0)) w.heap.size 0 fun _=>none:=⟨.map [],World.ownsMap_made _ _ _ _,fun _=>⟨rfl,fun _=>rfl⟩⟩
theorem MapU.at {w:World} {b n:Nat} {f:ByteArray->Option Value} (h:MapU w b n f):MapAt w b n f:=by
 obtain ⟨D,h1,h2⟩:=h;exact ⟨D,h1,fun s _=>h2 s⟩
theorem MapU.kept {w w':World} {b n:Nat} {f:ByteArray->Option Value} (h:MapU w b n f) (k:w'.heap[b]?=w.heap[b]?):MapU w' b n f:=by
 obtain ⟨D,⟨es,clock,h1,h2⟩,h3⟩:=h;exact ⟨D,⟨es,clock,k.trans h1,h2⟩,h3⟩
theorem MapU.lt {w:World} {b n:Nat} {f:ByteArray->Option Value} (h:MapU w b n f):b<w.heap.size:=h.at.lt
theorem MapU.congr {w:World} {b n:Nat} {f g:ByteArray->Option Value} (h:MapU w b n f) (k:∀ s,f s=g s):MapU w b n g:=by
 rw [show g=f from funext fun s=>(k s).symm];exact h
theorem MapU.store {w:World} {b n:Nat} {f:ByteArray->Option Value} (h:MapU w b n f) {t e:TypeId} (ht:prog.underlying t=some (.map 9 e)) (hn:n<maxLen) (s:ByteArray) (hs:s.size<=maxLen) (v:Value) :
  ∃ w',(Instr.mapUpdate t (.map (some b)) (.string s) v).run prog w=.ok () w'/\MapU w' b (n+1) (fun x=>if x=s then some v else f x)/\w.grownBy w' (some b)/\w'.heap.size=w.heap.size:=by
 obtain ⟨D,h1,h2⟩:=h;obtain ⟨w',hr,ho,hg⟩:=h1.store keyed9 ht hn (val:=v) (d:=.held v) (ps:=[]) (WideMaps.keyOf_string_mk underlying9 hs) rfl;refine ⟨w',hr,⟨_,ho,fun x=>?_⟩,hg.grown,?_⟩
 ·have hl:WideAt.IsKeyLit (Lit.string s.data.toList):=keyed9.key (WideMaps.keyOf_string_mk underlying9 hs);by_cases e:x=s
  ·subst e;dsimp only;rw [if_pos rfl];exact ⟨Maps.has_put_same h1.isMap hl _,fun z=>Maps.atKey_put_same h1.isMap hl _ _⟩
  ·dsimp only;rw [if_neg e]
   have hne:Lit.string x.data.toList≠Lit.string s.data.toList:=fun q=>e (by
    have:x.data.toList=s.data.toList:=by injection q
    exact ba_ext (by rw [Lib.toList_data,Lib.toList_data];exact this))
   obtain ⟨g1,g2⟩:=h2 x;exact ⟨by rw [Maps.has_put_other hne,g1],fun z=>by rw [Maps.atKey_put_other hne,g2]⟩
 ·obtain ⟨es,c,es',c',_,hw⟩:=hg;rw [hw];exact Array.size_setIfInBounds
def grp (l:List Ent) (s:ByteArray):List Ent:=l.filter fun x=>decide (x.path=s)
theorem grp_snoc (l:List Ent) (x:Ent) (s:ByteArray):grp (l++[x]) s=if s=x.path then grp l s++[x] else grp l s:=by
 unfold grp;rw [List.filter_append,List.filter_cons];by_cases h:s=x.path
 ·rw [if_pos h,if_pos (by simp [h])];rfl
 ·rw [if_neg h,if_neg (by simpa using fun e=>h e.symm)];simp
theorem grp_len (l:List Ent) (s:ByteArray):(grp l s).length<=l.length:=List.length_filter_le _ _
structure GrpIn (base b:Nat) (w:World) (l:List Ent) (V:ByteArray->Value):Prop where
 map:MapU w b l.length (fun s=>if grp l s=[] then none else some (V s))
 row:∀ s,w.ownsRow base 93 4 (V s) (grp l s).length (entsV (grp l s))
 nil:∀ s,grp l s=[]->V s=.slice none 0 0
 nd:∀ s t,s≠t->∀ j,(V s).ownBlock=some j->(V t).ownBlock≠some j
 lt:b<base
theorem GrpIn.start (w:World):GrpIn (w.heap.size+1) w.heap.size (w.alloc (.map #[] 0)) [] (fun _=>.slice none 0 0) :=
 ⟨(MapU.made w).congr fun _=>rfl,fun _=>World.ownsRow_nil _ _ _ _,fun _ _=>rfl,fun _ _ _ j h=>by simp [Value.ownBlock] at h,Nat.lt_succ_self _⟩
theorem GrpIn.ext {base b:Nat} {w w':World} {l:List Ent} {V:ByteArray->Value} (h:GrpIn base b w l V) (x:Ext w w'):GrpIn base b w' l V :=
 ⟨h.map.kept (x.block h.map.lt),fun s=>owns_ext (h.row s) x,h.nil,h.nd,h.lt⟩
theorem GrpIn.look' {base b:Nat} {w w':World} {l:List Ent} {V:ByteArray->Value} (h:GrpIn base b w l V) (k:w'.heap[b]?=w.heap[b]?) (s:ByteArray) (hs:s.size<=maxLen):(Instr.lookup 193 (.map (some b)) (.string s) false).run prog w'=.ok (V s) w':=by
 rw [(h.map.kept k).at.look (t:=193) (e:=90) (by kernel_rfl) (z:=.slice none 0 0) (by kernel_rfl) s hs];by_cases hn:grp l s=[]
 ·rw [if_pos hn,h.nil s hn];rfl
 ·rw [if_neg hn];rfl
theorem GrpIn.add {base b:Nat} {w1 w2:World} {l:List Ent} {V:ByteArray->Value} {x:Ent} {v':Value} (h:GrpIn base b w1 l V) (hl:l.length<maxLen) (hsz:x.path.size<=maxLen)
  (ho:w2.ownsRow base 93 4 v' ((grp l x.path).length+1) (entsV (grp l x.path)++entV x)) (hg:w1.grownBy w2 (V x.path).ownBlock) (hv:v'.ownBlock=(V x.path).ownBlock\/v'.ownBlock=some w1.heap.size) :
  ∃ w3 V',(Instr.mapUpdate 193 (.map (some b)) (.string x.path) v').run prog w2=.ok () w3/\GrpIn base b w3 (l++[x]) V'/\w2.grownBy w3 (some b)/\w3.heap.size=w2.heap.size:=by
 have hbm:=h.map.lt;have hlt:=h.lt
 have hm2:w2.heap[b]?=w1.heap[b]?:=hg.block b hbm fun e=>by
  have:=own_block_ge_k (h.row x.path) b e.symm;omega
 obtain ⟨w3,hr,hm3,hg3,hs3⟩:=(h.map.kept hm2).store (t:=193) (e:=90) (by kernel_rfl) hl x.path hsz v';refine ⟨w3,fun s=>if s=x.path then v' else V s,hr,⟨?_,?_,?_,?_,hlt⟩,hg3,hs3⟩
 ·rw [List.length_append];refine hm3.congr fun s=>?_;rw [grp_snoc];by_cases e:s=x.path
  ·simp only [if_pos e];rw [if_neg (by simp)]
  ·simp only [if_neg e]
 ·intro s;rw [grp_snoc];by_cases e:s=x.path
  ·simp only [if_pos e];subst e;rw [List.length_append,show entsV (grp l x.path++[x])=entsV (grp l x.path)++entV x from by unfold entsV;simp]
   exact owns_blocks ho fun j hj=>hg3.block j (own_lt ho j hj) fun e=>by
    cases e
    have:=own_block_ge_k ho b hj;omega
  ·simp only [if_neg e];have h1:=h.row s;have h2:w2.ownsRow base 93 4 (V s) (grp l s).length (entsV (grp l s)):=owns_blocks h1 fun j hj=>hg.block j (own_lt h1 j hj) fun e2=>h.nd s x.path e j hj e2.symm
   exact owns_blocks h2 fun j hj=>hg3.block j (own_lt h2 j hj) fun e=>by
    cases e
    have:=own_block_ge_k h2 b hj;omega
 ·intro s hs;rw [grp_snoc] at hs;by_cases e:s=x.path
  ·rw [if_pos e] at hs;simp at hs
  ·rw [if_neg e] at hs;simp only [if_neg e];exact h.nil s hs
 ·intro s t hst j hj;by_cases e1:s=x.path
  ·have e2:t≠x.path:=fun e=>hst (e1.trans e.symm);simp only [if_pos e1] at hj;simp only [if_neg e2];rcases hv with q | q
   ·rw [q] at hj;exact h.nd x.path t (fun e=>e2 e.symm) j hj
   ·rw [q] at hj
    cases hj
    intro e;have:=own_lt (h.row t) _ e;omega
  ·simp only [if_neg e1] at hj;by_cases e2:t=x.path
   ·simp only [if_pos e2];rcases hv with q | q
    ·rw [q];intro e;exact h.nd s x.path e1 j hj e
    ·rw [q];intro e
     cases e
     have:=own_lt (h.row s) _ hj;omega
   ·simp only [if_neg e2];exact h.nd s t hst j hj
end
end Go.Proofs.YtodickpibbbiiaaGreatDoor
