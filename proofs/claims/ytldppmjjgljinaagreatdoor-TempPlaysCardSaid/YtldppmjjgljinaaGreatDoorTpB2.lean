import Derived.Test.YtldppmjjgljinaaGreatDoorTpA1
import Derived.Test.YtldppmjjgljinaaGreatDoorTpB1
import Derived.Test.YtldppmjjgljinaaGreatDoorTpA2
import Derived.Test.YtldppmjjgljinaaGreatDoorIterB
import Derived.Lib.ConvBytes
import Derived.Great.FillDense
import Derived.ChangeKeysEq
import Derived.BigQuiet
import Derived.Great.BuildSlice
open Go.Proofs.Tryz
namespace Go.Proofs.YtldppmjjgljinaaGreatDoor
section
open Go.RowKit
def rootsTab:List Int:=kTab.map fun (n:Nat)=>(n:Int)
def firstTab:List Int:=first8.list.map fun x=>(x.toNat:Int)
theorem roots_data:(Lib.tabData .u32 rootsTab:DataW Unit)=Rows.laid_caravan_sha_roots:=by kernel_rfl
theorem first_data:(Lib.tabData .u32 firstTab:DataW Unit)=Rows.laid_caravan_sha_first:=by kernel_rfl
theorem sha_of {laid:List (String×DataW Unit)} {W:World} (hl:laidMet prog laid W) (i j:Nat) (h1:laid[i]?=some ("caravan/sha.first",Rows.laid_caravan_sha_first)) (h2:laid[j]?=some ("caravan/sha.roots",Rows.laid_caravan_sha_roots)):ShaTabs W:=by
 obtain ⟨_,h,_⟩:=hl;have t1:Lib.TabIs prog W "caravan/sha.first" .u32 firstTab:=tabIs_of_mem (g:=0) (t:=246) (e:=26) (n:=8) (by kernel_rfl) (by kernel_rfl) (by kernel_rfl) (by kernel_rfl) (by kernel_rfl) (by kernel_rfl) h (by rw [first_data];exact List.mem_of_getElem? h1);have t2:Lib.TabIs prog W "caravan/sha.roots" .u32 rootsTab:=tabIs_of_mem (g:=1) (t:=280) (e:=26) (n:=64) (by kernel_rfl) (by kernel_rfl) (by kernel_rfl) (by kernel_rfl) (by kernel_rfl) (by kernel_rfl) h (by rw [roots_data];exact List.mem_of_getElem? h2);refine ⟨fun k hk=>?_,fun k x hx=>?_⟩
 ·have:=t2.cell (g:=1) (by kernel_rfl) k (by simpa [rootsTab,kTab] using hk);rw [this,show rootsTab.getD k 0=((kAt k).toNat:Int) from ?_];have hs:∀ j,j<64->rootsTab.getD j 0=((kAt j).toNat:Int):=by decide
  exact hs k hk
 ·have hk:k<8:=(List.getElem?_eq_some_iff.1 hx).1;have:=t1.cell (g:=0) (by kernel_rfl) k (by simpa [firstTab,V8.list] using hk);rw [this];unfold firstTab wv;rw [List.getD_eq_getElem?_getD,List.getElem?_map,hx];rfl
end
section
open Go.RowKit
def besideS (p b:ByteArray):ByteArray:=if p.toList.isEmpty then b else p++⟨#[47]⟩++b
theorem beside_any (p b:ByteArray) (w:World) (hs:p.size+b.size<9223372036854775807) :
  Calls prog 195 #[.string p,.string b] w fun e w'=>e=.returned (.string (besideS p b))/\w'=w:=by
 unfold besideS
 cases h:p.toList.isEmpty
 ·go_enter func195,ntmps195;go_wp2;go_ret;exact ⟨rfl,rfl⟩
 ·go_enter func195,ntmps195;go_wp2;go_ret;exact ⟨rfl,rfl⟩
theorem baseS_le (s:ByteArray):(baseS s).size<=s.size:=by
 unfold baseS;simp
end
section
open Go.RowKit
def hex8 (p:ByteArray):ByteArray:=(⟨(hexL (shaL p.toList)).toArray⟩:ByteArray).extract 0 8
def tempS (p:ByteArray):ByteArray:=besideS (parentS p) (⟨#[126,116,126]⟩++(baseS p).extract 0 (min ((baseS p).size:Int) 12).toNat++hex8 p)
def tempR (p:ByteArray):ByteArray:=if mayB p then tempS p else ⟨#[]⟩
theorem hex8_size (p:ByteArray):(hex8 p).size=8:=by
 unfold hex8;rw [ByteArray.size_extract,size_mk,List.size_toArray,hexL_len,shaL_len];rfl
theorem conv_bytes (s:ByteArray) (w:World) (hs:s.size<=1048576):∃ v w',(convert 9 22 (.string s)).run prog w=.ok v w'/\BytesOff w'.heap.size w' v s.toList/\Ext w w':=by
 refine ⟨_,_,Lib.run_convert_string_bytes w 9 22 5 s underlying9 underlying22 (by kernel_rfl),⟨_,_,by rw [len_toList],by rw [len_toList];exact grownCap_ge _ _ _ _,grownCap_le_maxLen _ _ _ _ (by unfold maxLen;omega),fun _=>⟨w.heap.size,0,rfl,by rw [Lib.bytesWorld_size];omega,by rw [Lib.bytesWorld_size];omega,fun j x hj=>?_⟩⟩,⟨rfl,rfl,rfl,by rw [Lib.bytesWorld_size];omega,fun i hi=>Lib.bytesWorld_at_old _ _ _ _ hi⟩⟩;have hj':j<s.size:=by rw [<-len_toList];exact (List.getElem?_eq_some_iff.1 hj).1
 rw [Nat.zero_add,Lib.bytesWorld_cell _ _ _ _ hj',<-Lib.toList_data,List.getD_eq_getElem?_getD,hj];rfl
set_option maxHeartbeats 1000000 in
set_option maxRecDepth 100000 in
theorem temp_any (p:ByteArray) (w:World) (hs:p.size<4294967281) (E:Env w) (T:ShaTabs w) :
  Calls prog 144 #[.string p] w fun e w'=>e=.returned (.tuple #[.string (tempR p),.bool (mayB p)])/\Ext w w':=by
 have HM:=lh (may_any p w hs E);have h160:mayB p=true->p.size<=160:=fun h=>by unfold mayB at h;simp at h;exact h.1.1
 unfold tempR
 cases hb:mayB p
 ·rw [hb] at HM;clear hb h160;go_enter func144,ntmps144;go_wp2_with fail;refine HM.out.mono ?_;rintro e w1 ⟨rfl,x1⟩;go_wp2_with fail;go_ret2;exact ⟨rfl,x1⟩
 ·rw [hb] at HM
  replace h160:=h160 hb
  have HSp:=fun w=>lh (split_any p w (by omega));have hb:=baseS_le p;have hpar:=parentS_le p;have HSUM:=fun v w T hv=>lh (sum_any p.toList v w T hv (by rw [len_toList];omega));have HTX:=fun w=>lh (text_any (shaL p.toList) (shaL_len _) w);have h8:=hex8_size p;have HFIN:=lh (show besideS (parentS p) (⟨#[126,116,126]⟩++(baseS p).extract 0 (min ((baseS p).size:Int) 12).toNat++hex8 p)=tempS p from rfl);have hx64:(⟨(hexL (shaL p.toList)).toArray⟩:ByteArray).size=64:=by rw [size_mk,List.size_toArray,hexL_len,shaL_len]
  unfold hex8 at h8 HFIN;generalize parentS p=P at *;generalize baseS p=b at *;generalize shaL p.toList=sm at *;generalize (⟨(hexL sm).toArray⟩:ByteArray)=hx at *;have HT:=lh T;have HX64:=lh hx64;have H8:=lh h8;have h64:8<=hx.size:=by omega
  have h65:hx.size<=64:=by omega
  clear T h8 hx64;go_enter func144,ntmps144;go_wp2_with fail;refine HM.out.mono ?_;rintro e w1 ⟨rfl,x1⟩;go_wp2_with fail;refine (HSp _).out.mono ?_;rintro e w1' ⟨rfl,n,rfl⟩;have X2:=lh (x1.drewN n);obtain ⟨v,w3,hcv,hbo,x3⟩:=conv_bytes p (w1.drewN n) (by omega);have X3:=lh (X2.out.trans x3);have HBO:=lh hbo;clear hbo x3;go_wp2_with fail;refine (HSUM _ _ (HT.out.ext X3.out) HBO.out).out.mono ?_;rintro e w4 ⟨rfl,x4⟩;have X4:=lh (X3.out.trans x4);clear x4 hcv;go_wp2_with fail;refine (HTX _).out.mono ?_;rintro e w5 ⟨rfl,x5⟩;have X5:=lh (X4.out.trans x5);clear x5;go_wp2_with fail;refine (beside_any _ _ _ ?hsz).mono ?_
  case hsz=>simp [size_mk];omega
  rintro e w' ⟨rfl,rfl⟩;go_wp2_with fail;go_ret2;exact ⟨ret_strb HFIN.out,X5.out⟩
end
section
open Go.RowKit
def sizeN (n:Nat):Nat:=if n<=512 then 16 else if n<=1024 then 32 else if n<=2048 then 64 else 128
def sizeZ (n:Int):Int:=if n<0\/4096<n then 0 else (sizeN n.toNat:Nat)
def countN (n:Nat):Nat:=(n+sizeN n - 1) / sizeN n
def countZ (n:Int):Int:=if n<0\/4096<n then 0 else (countN n.toNat:Nat)
def partL (d:List UInt8) (i:Nat):List UInt8:=(d.drop (i*sizeN d.length)).take (sizeN d.length)
theorem sizeN_spec (n:Nat):(n<=512/\sizeN n=16)\/(512<n/\n<=1024/\sizeN n=32)\/(1024<n/\n<=2048/\sizeN n=64)\/(2048<n/\sizeN n=128):=by
 unfold sizeN;split
 ·exact .inl ⟨by omega,rfl⟩
 ·split
  ·exact .inr (.inl ⟨by omega,by omega,rfl⟩)
  ·split
   ·exact .inr (.inr (.inl ⟨by omega,by omega,rfl⟩))
   ·exact .inr (.inr (.inr ⟨by omega,rfl⟩))
theorem count_spec (n:Nat) (i:Nat):i<countN n↔i*sizeN n<n:=by
 unfold countN;have h:=sizeN_spec n;have hs:0<sizeN n:=by omega
 rw [Nat.lt_iff_add_one_le,Nat.le_div_iff_mul_le hs,Nat.add_mul,Nat.one_mul];omega
theorem count_le {n:Nat} (h:n<=4096):countN n<=32:=by
 unfold countN;rcases sizeN_spec n with ⟨h1,h2⟩ | ⟨_,h1,h2⟩ | ⟨_,h1,h2⟩ | ⟨h1,h2⟩ <;> rw [h2] <;> omega
theorem part_len (d:List UInt8) (i:Nat):(partL d i).length=min (sizeN d.length) (d.length - i*sizeN d.length):=by simp [partL]
set_option maxHeartbeats 1000000 in
theorem bsize_any (n:Int) (w:World) (hlo:-9223372036854775808<=n) (hhi:n<=9223372036854775807) :
  Calls prog 72 #[.int .i64 n] w fun e w'=>e=.returned (.int .i64 (sizeZ n))/\w'=w:=by
 have HS:=lh (show sizeZ n=if n<0\/4096<n then (0:Int) else ((sizeN n.toNat:Nat):Int) from rfl);generalize sizeZ n=S at *;by_cases h1:n<0
 ·have d1:decide (n<0)=true:=decide_eq_true h1;have HR:=lh (HS.out.trans (if_pos (.inl h1)));go_enter func72,ntmps72;go_wp2_with fail;go_ret;exact ⟨ret_int HR.out.symm,rfl⟩
 ·have d1:decide (n<0)=false:=decide_eq_false h1;by_cases h2:4096<n
  ·have d2:decide (4096<n)=true:=decide_eq_true h2;have HR:=lh (HS.out.trans (if_pos (.inr h2)));go_enter func72,ntmps72;go_wp2_with fail;go_ret;exact ⟨ret_int HR.out.symm,rfl⟩
  ·have d2:decide (4096<n)=false:=decide_eq_false h2;have HR:=lh (HS.out.trans (if_neg (by omega)));obtain ⟨m,rfl⟩:∃ m:Nat,n=(m:Int):=⟨n.toNat,by omega⟩;have hm:m<=4096:=by omega
   have hsp:=sizeN_spec m;have HR2:=lh (show S=(sizeN m:Nat) from by rw [HR.out];simp);generalize sizeN m=z at *;clear HR HS h1 h2 hlo hhi;go_enter func72,ntmps72;go_wp2_with fail;go_loop [3] (fun sv=>∃ s:Nat,sv=.int .i64 s/\(s=16\/s=32\/s=64\/s=128)/\s<=z) (fun sv=>4096 - (intOf sv).toNat)
   case atStart=>exact ⟨16,rfl,.inl rfl,by omega⟩
   case round =>
    obtain ⟨s,rfl,hs,hz⟩:=hrel;have q1:IntKind.i64.wrap ((s:Int)*32)=(s:Int)*32:=IntWalk.i64_in _ (by omega);have q2:IntKind.i64.wrap ((s:Int)*2)=(s:Int)*2:=IntWalk.i64_in _ (by omega);by_cases hlt:s*32<m
    ·have d3:decide ((s:Int)*32<(m:Int))=true:=by rw [decide_eq_true_eq];omega
     go_wp2_with fail;go_round
     case rel=>exact ⟨s*2,by congr 1,by omega,by omega⟩
     case measure=>simp [intOf];omega
    ·have d3:decide ((s:Int)*32<(m:Int))=false:=by rw [decide_eq_false_iff_not];omega
     have HE:=lh (show S=(s:Nat) from by rw [HR2.out];omega);go_wp2_with fail;go_ret;exact ⟨ret_int HE.out.symm,rfl⟩
theorem bcount_any (n:Int) (w:World) (hlo:-9223372036854775808<=n) (hhi:n<=9223372036854775807) :
  Calls prog 81 #[.int .i64 n] w fun e w'=>e=.returned (.int .i64 (countZ n))/\w'=w:=by
 have HC:=lh (show countZ n=if n<0\/4096<n then (0:Int) else ((countN n.toNat:Nat):Int) from rfl);have HB:=lh (bsize_any n w hlo hhi);have HS:=lh (show sizeZ n=if n<0\/4096<n then (0:Int) else ((sizeN n.toNat:Nat):Int) from rfl);generalize sizeZ n=S at *;generalize countZ n=C at *;by_cases h:n<0\/4096<n
 ·have HS2:=HS.out.trans (if_pos h);subst HS2;have HR:=lh (HC.out.trans (if_pos h));clear HS HC;go_enter func81,ntmps81;go_wp2_with fail;refine HB.out.mono ?_;rintro e w1 ⟨rfl,hw⟩;obtain rfl:=hw.symm;clear hw;go_wp2_with fail;go_ret;exact ⟨ret_int HR.out.symm,rfl⟩
 ·obtain ⟨m,rfl⟩:∃ m:Nat,n=(m:Int):=⟨n.toNat,by omega⟩;have hm:m<=4096:=by omega
  have HS2:=HS.out.trans (if_neg h);have HR:=lh (show C=((m+sizeN m - 1) / sizeN m:Nat) from by rw [HC.out,if_neg h];rfl);have hsp:=sizeN_spec m;rw [Int.toNat_natCast] at HS2;generalize sizeN m=z at *;subst HS2;clear HS HC h;have hz:0<z:=by omega
  have z0:((z:Int)==0)=false:=by rw [beq_eq_false_iff_ne];omega
  have z1:(z:Int)≠0:=by omega
  have z2:¬ z=0:=by omega
  have q1:IntKind.i64.wrap ((m:Int)+(z:Int))=(m:Int)+(z:Int):=IntWalk.i64_in _ (by omega);have q2:IntKind.i64.wrap ((m:Int)+(z:Int) - 1)=((m+z - 1:Nat):Int):=(IntWalk.i64_in _ (by omega)).trans (by omega);obtain ⟨c,hc⟩:∃ c,c=(m+z - 1) / z:=⟨_,rfl⟩;have hdv:c<=m+z - 1:=hc▸Nat.div_le_self _ _;have q3:((m+z - 1:Nat):Int).tdiv (z:Int)=(c:Int):=by rw [hc,Int.ofNat_tdiv]
  have q5:((m+z - 1:Nat):Int) / (z:Int)=(c:Int):=by rw [hc,Int.natCast_ediv]
  have q4:IntKind.i64.wrap (c:Int)=(c:Int):=IntWalk.i64_in _ (by omega);rw [<-hc] at HR;clear hc;go_enter func81,ntmps81;go_wp2_with fail;refine HB.out.mono ?_;rintro e w1 ⟨rfl,hw⟩;obtain rfl:=hw.symm;clear hw;go_wp2_with fail;go_ret;exact ⟨ret_int HR.out.symm,rfl⟩
theorem bytesOff_cut {b g o n lo cap:Nat} {w:World} {l m:List UInt8} (hm:m=(l.drop lo).take n) (hn:m.length=n) (hlo:lo+n<=l.length) (hc:l.length<=cap) (hcm:cap<=maxLen) (hg:g≠b) (hl:g<w.heap.size) (hcell:∀ (j:Nat) x,l[j]?=some x->w.cell? ⟨g,o+j,none⟩=some (bv x)) :
  BytesOff b w (.slice (some ⟨g,o+lo,none⟩) n (cap - lo)) m:=by
 refine ⟨_,_,by rw [hn],by omega,by omega,fun _=>⟨g,o+lo,rfl,hg,hl,fun j x hj=>?_⟩⟩;have hjn:j<n:=by have:=(List.getElem?_eq_some_iff.1 hj).1;omega
 rw [hm,List.getElem?_take,if_pos hjn,List.getElem?_drop] at hj;have:=hcell (lo+j) x hj
 rwa [<-Nat.add_assoc] at this
set_option maxRecDepth 100000 in
set_option maxHeartbeats 1000000 in
theorem bpart_any (b:Nat) (l:List UInt8) (v:Value) (i:Nat) (w:World) (hv:BytesOff b w v l) (hl:l.length<=4096) (hi:i<countN l.length) :
  Calls prog 82 #[v,.int .i64 i] w fun e w'=>w'=w/\∃ u,e=.returned u/\Hid (BytesOff b w u (partL l i)):=by
 obtain ⟨a,cap,rfl,h1,h2,h3⟩:=hv;have hlt:=(count_spec l.length i).1 hi;have HB:=lh (bsize_any (l.length:Int) w (by omega) (by omega));rw [show sizeZ (l.length:Int)=(sizeN l.length:Nat) from by unfold sizeZ;rw [if_neg (by omega)];simp] at HB;obtain ⟨g,o,rfl,hg,hgl,hcell⟩:=h3 (by omega);have hpl:=part_len l i;have HP:=lh (show partL l i=(l.drop (i*sizeN l.length)).take (sizeN l.length) from rfl);have hsp:=sizeN_spec l.length;have hi32:=count_le hl;obtain ⟨n,hn⟩:∃ n,n=l.length:=⟨_,rfl⟩;have HN:=lh hn;rw [<-hn] at h1 hlt HB hpl HP hl hsp hi hi32 ⊢;generalize sizeN n=z at *;obtain ⟨lo,hlo⟩:∃ lo,lo=i*z:=⟨_,rfl⟩;obtain ⟨m,hm⟩:∃ m,m=min z (n - lo):=⟨_,rfl⟩;have hm1:lo+m<=n/\m<=z/\(m=z\/lo+m=n):=by omega
 have HFin:=lh (show BytesOff b w (.slice (some ⟨g,o+lo,none⟩) m (cap - lo)) (partL l i) from
  bytesOff_cut (by
   rw [HP.out,<-hlo,List.take_eq_take_iff,List.length_drop,<-HN.out]
   omega) (by rw [hpl,<-hlo,hm]) (by rw [<-HN.out];omega) (by rw [<-HN.out];omega) h2 hg hgl hcell)
 rw [<-hlo] at hlt;have q1:IntKind.i64.wrap ((i:Int)*(z:Int))=(lo:Int):=(IntWalk.i64_in _ (by rw [<-Int.natCast_mul,<-hlo];omega)).trans (by rw [<-Int.natCast_mul,<-hlo]);have q2:IntKind.i64.wrap ((i:Int)+1)=((i+1:Nat):Int):=(IntWalk.i64_in _ (by omega)).trans (by omega);have hmul:(i+1)*z=lo+z:=by rw [Nat.add_mul,Nat.one_mul,hlo]
 have q3:IntKind.i64.wrap (((i+1:Nat):Int)*(z:Int))=((lo+z:Nat):Int):=(IntWalk.i64_in _ (by rw [<-Int.natCast_mul,hmul];omega)).trans (by rw [<-Int.natCast_mul,hmul]);have q4:min (n:Int) ((lo+z:Nat):Int)=((lo+m:Nat):Int):=by omega
 have q5:(lo:Int)<=((lo+m:Nat):Int):=by omega
 have q6:((lo+m:Nat):Int)<=(cap:Int):=by omega
 have q7:lo+m - lo=m:=by omega
 have q8:¬ cap=lo:=by omega
 have hll:0<=(lo:Int):=by omega
 generalize hLM:lo+m=lm at *;generalize hIE:i+1=i1 at q2 q3;generalize hZE:lo+z=ze at q3 q4;unfold maxLen at h2;clear HP hpl hm hcell h3 hmul hlo hsp hm1 hlt hi32 hi hl HN hg hgl hLM hn hIE hZE;go_enter func82,ntmps82;go_wp2_with fail;refine HB.out.mono ?_;rintro e w1 ⟨rfl,hw⟩;obtain rfl:=hw.symm;clear hw;go_wp2_with fail;go_ret;exact ⟨rfl,_,rfl,HFin.out⟩
def hrow (hs:List (List UInt8)):List Value:=hs.flatMap fun h=>h.map bv
def hashesL (l:List UInt8):List (List UInt8):=(List.range (countN l.length)).map fun i=>shaL (partL l i)
theorem elHash:ElemK prog 29 45 (.agg (Array.replicate 32 (.int .u8 0))) 32 32:=⟨by kernel_rfl,by kernel_rfl,rfl,by decide,by decide⟩
theorem hArr_list {h:List UInt8} (hl:h.length=32):hArr h 32=(h.map bv).toArray:=by
 unfold hArr;rw [List.take_of_length_le (by omega)];simp
theorem fold_hash {A:Array Value} (hA:A.size=32) :
  Array.foldl (fun (cs:Array Value) (x:Value×Nat)=>cs.setIfInBounds x.snd x.fst) (Array.replicate 32 (Value.int .u8 0)) A.zipIdx 0 A.size=A:=by
 have h:=Go.Great.fill_whole (s:=32) (by decide) [.agg A] (Array.replicate 32 (Value.int .u8 0)) (fun v hv=>by rw [List.mem_singleton.1 hv];exact hA) (by simp);simp only [List.zipIdx_cons,List.zipIdx_nil,List.map_cons,List.map_nil,Instr.fill,Value.cells,hA,Nat.zero_mul,Nat.zero_add,Array.size_replicate] at h;rw [if_neg (by decide)] at h;simp only [Option.some.injEq,List.flatMap_cons,List.flatMap_nil,List.append_nil,Array.toArray_toList] at h;rw [<-hA] at h
 simpa [hA] using h
theorem grown_extB {w0 w w1:World} {base k:Nat} {e:TypeId} {v:Value} {n:Nat} {xs:List Value} (x:Ext w0 w) (hb:w0.heap.size<=base) (ho:w.ownsRow base e k v n xs) (hg:w.grownBy w1 v.ownBlock):Ext w0 w1 :=
 Below.trans x ⟨hg.os,hg.tape,hg.output,hg.size,fun i hi=>hg.block i (Nat.lt_of_lt_of_le hi x.size) fun e=>by have:=(ho.lt _ e.symm).1;omega⟩
theorem rowk_shape {w:World} {base n k:Nat} {e:TypeId} {v:Value} {xs:List Value} (h:w.ownsRow base e k v n xs):∃ (a:Option Addr) (cap:Nat),v=.slice a n cap:=by
 rcases h.2 with ⟨h1,h2⟩ | ⟨g,cap,cur,h1,_⟩
 ·exact ⟨none,0,by rw [h1,h2]⟩
 ·exact ⟨_,cap,h1⟩
def HsAt (w0:World) (l:List UInt8) (k:Nat) (v:Value) (wr:World):Prop :=
 wr.ownsRow w0.heap.size 45 32 v k (hrow ((List.range k).map fun i=>shaL (partL l i)))/\Ext w0 wr
set_option maxRecDepth 100000 in
set_option maxHeartbeats 2000000 in
theorem blist_any (l:List UInt8) (v:Value) (w:World) (T:ShaTabs w) (hv:BytesOff w.heap.size w v l) (hl:l.length<=4096) :
  Calls prog 23 #[v] w fun e w'=>∃ u,e=.returned (.tuple #[u,.int .i64 0])/\Hid (w'.ownsRow w.heap.size 45 32 u (countN l.length) (hrow (hashesL l))/\Ext w w'):=by
 have HC:=lh (bcount_any (l.length:Int) w (by omega) (by omega));rw [show countZ (l.length:Int)=(countN l.length:Nat) from by unfold countZ;rw [if_neg (by omega)];simp] at HC;have HP:=fun wr (x:Ext w wr) (i:Nat) hi=>lh (bpart_any wr.heap.size l v i wr (bytesOff_any hv x x.size) hl hi);have HSm:=fun wr (x:Ext w wr) (u:Value) i (h:BytesOff wr.heap.size wr u (partL l i))=>lh (sum_any (partL l i) u wr (T.ext x) h (by rw [part_len];omega));have hc32:=count_le hl;obtain ⟨a,cap,rfl,h1,h2,h3⟩:=hv;unfold maxLen at h2;have HH:=lh (show hashesL l=(List.range (countN l.length)).map fun i=>shaL (partL l i) from rfl);generalize hashesL l=hs at *;obtain ⟨n,hn⟩:∃ n,n=l.length:=⟨_,rfl⟩;rw [<-hn] at HC h1 hl HP hc32 HH ⊢;generalize countN n=c at *;clear h3 hn T;have d0:decide (4096<(n:Int))=false:=decide_eq_false (by omega);have d1:decide (4096<n)=false:=decide_eq_false (by omega);go_enter func23,ntmps23;go_wp2_with fail;refine HC.out.mono ?_;rintro e w1 ⟨rfl,hw⟩;obtain rfl:=hw.symm;clear hw;go_wp2_with fail;go_loopw [4,12] (fun lv iv wr=>Hid (∃ k:Nat,k<=c/\iv=.int .i64 k/\HsAt w l k lv wr)) (fun _ iv _=>c - (intOf iv).toNat)
 case atStart=>exact ⟨0,Nat.zero_le _,rfl,World.ownsRow_nil _ _ _ _,Ext.refl _⟩
 case round =>
  obtain ⟨k,hk,rfl,ho,hx⟩:=hrel.out;clear hrel;have HX:=lh hx;have HO:=lh ho;obtain ⟨oa,ocap,rfl⟩:=rowk_shape ho;by_cases hlt:k<c
  ·have HPk:=HP wr hx k hlt;clear ho hx HP;go_wp2_with fail;refine HPk.out.mono ?_;rintro e w2 ⟨hw,u,rfl,hu⟩;obtain rfl:=hw.symm;have HS:=HSm _ HX.out u k hu.out;clear hw HPk hu;have hsl:=shaL_len (partL l k);have HR:=lh (show hrow ((List.range (k+1)).map fun i=>shaL (partL l i))=hrow ((List.range k).map fun i=>shaL (partL l i))++(shaL (partL l k)).map bv from by simp [hrow,List.range_succ]);obtain ⟨H,hH⟩:∃ H,H=shaL (partL l k):=⟨_,rfl⟩;rw [<-hH] at HS hsl HR;unfold hashV at HS;clear hH HSm;obtain ⟨AH,hAH⟩:∃ A,A=hArr H 32:=⟨_,rfl⟩;have HAH:=lh hAH;rw [<-hAH] at HS;clear hAH;go_wp2_with fail;refine HS.out.mono ?_;rintro e w3 ⟨rfl,x3⟩;have HX3:=lh (HX.out.trans x3);have HO3:=lh (owns_ext HO.out x3);have hsz:=HX3.out.size;clear x3 HS HO HX;have hAz:AH.size=32:=by rw [HAH.out];exact hArr_size _ _ hsl (by omega)
   have HBu:=lh (fold_hash hAz);have HAl:=lh (show AH.toList=H.map bv from by rw [HAH.out,hArr_list hsl]);go_wp2_with (at_builtin;refine append_k elHash w.heap.size _ _ _ (HO3.out.alloc _) w3.heap.size (H.map bv) (by simp [hsl]) (.tmp 15) (.tmp 20) rfl rfl rfl rfl ?c1 ?c2 (by omega) (by simp;omega) ?_)
   case c1 =>
    intro j y hj;have hf:=HBu.out;rw [show Array.replicate 32 (Value.int .u8 0)=#[Value.int .u8 0,Value.int .u8 0,Value.int .u8 0,Value.int .u8 0,Value.int .u8 0,Value.int .u8 0,Value.int .u8 0,Value.int .u8 0,Value.int .u8 0,Value.int .u8 0,Value.int .u8 0,Value.int .u8 0,Value.int .u8 0,Value.int .u8 0,Value.int .u8 0,Value.int .u8 0,Value.int .u8 0,Value.int .u8 0,Value.int .u8 0,Value.int .u8 0,Value.int .u8 0,Value.int .u8 0,Value.int .u8 0,Value.int .u8 0,Value.int .u8 0,Value.int .u8 0,Value.int .u8 0,Value.int .u8 0,Value.int .u8 0,Value.int .u8 0,Value.int .u8 0,Value.int .u8 0] from rfl] at hf;rw [cell_alloc_new rfl,<-hj,<-HAl.out];rw [hAz] at hf;simp [hf]
   case c2 =>
    intro y hy;obtain ⟨z,_,rfl⟩:=List.mem_map.1 hy;rfl
   intro v' w4 hown4 hg4 hrow4;have HF:=lh (show HsAt w l (k+1) v' w4 from ⟨by rw [HR.out];exact hown4,grown_extB (HX3.out.alloc _) (Nat.le_refl _) (HO3.out.alloc _) hg4⟩);clear hown4 hg4 hrow4;go_wp2_with fail;go_roundw
   case rel=>exact ⟨k+1,by omega,by go_num,HF.out⟩
   case measure=>simp [intOf] <;> omega
  ·obtain rfl:k=c:=by omega
   have nlt:decide ((k:Int)<(k:Int))=false:=by simp
   clear ho hx HP HSm;go_wp2_with fail;go_ret2;refine ⟨_,rfl,?_⟩;rw [HH.out];exact ⟨HO.out,HX.out⟩
theorem run_eqItems_bytes (d:Nat) (w:World) (xs ys:Array Value) (a b:List UInt8) (hx:∀ (i:Nat) x,a[i]?=some x->xs[i]?=some (bv x)) (hy:∀ (i:Nat) x,b[i]?=some x->ys[i]?=some (bv x)) :
  ∀ (is:List Nat),(∀ i∈is,i<a.length/\i<b.length)->(Go.Op.eqItems (d+1) 5 1 xs ys is).run prog w=.ok (is.all fun i=>a[i]?==b[i]?) w
 | [],_=>by simp [Go.Op.eqItems]
 | i::is,h=>by
  obtain ⟨h1,h2⟩:=h i List.mem_cons_self;obtain ⟨x,hxa⟩:∃ x,a[i]?=some x:=⟨_,List.getElem?_eq_getElem h1⟩;obtain ⟨y,hyb⟩:∃ y,b[i]?=some y:=⟨_,List.getElem?_eq_getElem h2⟩;have p1:=run_part_plain (P:=prog) (w:=w) (e:=5) (by kernel_rfl) (off:=i) (hx i x hxa);have p2:=run_part_plain (P:=prog) (w:=w) (e:=5) (by kernel_rfl) (off:=i) (hy i y hyb);have p3:=run_equalIn_int (P:=prog) w d 5 .u8 .u8 (x.toNat:Int) (y.toNat:Int) (by kernel_rfl);have ih:=run_eqItems_bytes d w xs ys a b hx hy is fun j hj=>h j (List.mem_cons_of_mem _ hj);simp only [Go.Op.eqItems,Sem.run_bind,Nat.mul_one,p1,p2,bv,p3,Result.andThen_ok,List.all_cons,hxa,hyb]
  have he:((x.toNat:Int)==(y.toNat:Int))=(some x==some y):=by
   rw [Bool.eq_iff_iff,beq_iff_eq,beq_iff_eq,Option.some.injEq];constructor
   ·intro h;exact UInt8.toNat_inj.1 (by omega)
   ·intro h;rw [h]
  rw [he]
  cases hc:(some x==some y) with
  | false=>simp
  | true=>simpa using ih
theorem eq_hash (a b:List UInt8) (ha:a.length=32) (hb:b.length=32) (w:World):(Go.Op.equalIn 10000 45 (.agg (hArr a 32)) (.agg (hArr b 32))).run prog w=.ok (decide (a=b)) w:=by
 obtain ⟨i,hi,_,hsz,_⟩:=info_parts elU8.info;have hc:prog.cellsOf 5=1:=by kernel_rfl
 obtain ⟨d,hd⟩:∃ d,d+1+1=10000:=⟨9998,by omega⟩;rw [<-hd,run_equalIn_array w (d+1) _ _ (show prog.underlying 45=some (.array 32 5) by kernel_rfl) hi,hc]
 have key:∀ (c:List UInt8),c.length=32->∀ (i:Nat) x,c[i]?=some x->(hArr c 32)[i]?=some (bv x):=fun c hcl i x hx=>by
  rw [hArr_list hcl];simp [hx]
 have e:((List.range 32).all fun i=>a[i]?==b[i]?)=decide (a=b):=by
  rw [Bool.eq_iff_iff,List.all_eq_true,decide_eq_true_eq];constructor
  ·intro h;apply List.ext_getElem?;intro i;by_cases hi:i<32
   ·simpa using h i (List.mem_range.2 hi)
   ·rw [List.getElem?_eq_none (by omega),List.getElem?_eq_none (by omega)]
  ·rintro rfl i _;simp
 rw [run_eqItems_bytes d w _ _ a b (key a ha) (key b hb) (List.range 32) fun i hi=>by have:=List.mem_range.1 hi;omega,e]
set_option maxRecDepth 100000 in
set_option maxHeartbeats 1000000 in
theorem bverify_any (l h:List UInt8) (v:Value) (w:World) (T:ShaTabs w) (hv:BytesOff w.heap.size w v l) (hl:l.length<=1048576) (hh:h.length=32) :
  Calls prog 20 #[v,hashV h] w fun e w'=>e=.returned (.bool (decide (shaL l=h)))/\Ext w w':=by
 have HS:=fun w' (x:Ext w w')=>lh (sum_any l v w' (T.ext x) (bytesOff_any hv x x.size) hl);have hsl:=shaL_len l;generalize shaL l=H at *;have HE:=lh (eq_hash H h hsl hh);have hz1:(hArr H 32).size=32:=hArr_size _ _ hsl (by omega);have hz2:(hArr h 32).size=32:=hArr_size _ _ hh (by omega);have HZ2:=lh hz2;obtain ⟨r,hr⟩:∃ r,r=decide (H=h):=⟨_,rfl⟩;rw [<-hr] at HE ⊢;unfold hashV at HS ⊢;generalize hArr H 32=A at *;generalize hArr h 32=B at *;clear hr hsl hh T hv
 have HB:=lh (show ∀ w',(∃ y:After (w.alloc (.cells B 45)),w'=y.v)->w'.heap[w.heap.size]?=some (.cells B 45 (0,0)) from by
  rintro _ ⟨y,rfl⟩
  exact (y.x.block (by simp)).trans (block_alloc_new _ _))
 have HX1:=lh ((Ext.refl w).alloc (.cells B 45));have heq:=HE.out;go_enter func20,ntmps20;go_wp2_with fail;refine wp_region_after (by kernel_rfl) (by kernel_rfl) ?_
 repeat (first | (refine wpQuiet_load_row rfl 45 (.tmp 3) rfl w.heap.size rfl 45 B (0,0) _ HB.out underlying45 rfl (by rw [HZ2.out];kernel_rfl) ?_;go_frame) | go_big_quiet_step (exact After.of (HS _ (HX1.out.trans (After.x _))).out))
 refine wpQuiet_nil ?_;rintro _ ⟨y,rfl⟩;go_wp2_with fail;go_ret;exact ⟨rfl,HX1.out.trans y.x⟩
end
section
open Go.RowKit
structure RecS where
 path:ByteArray
 kind:Int
 del:Bool
 size:Int
 time:Int
 bs:Int
 hs:List (List UInt8)
structure RecC (C:Array Value) (r:RecS) (bl:Value):Prop where
 n:C.size=27
 c0:C[0]?=some (.string r.path)
 c1:C[1]?=some (.int .i64 r.kind)
 c2:C[2]?=some (.bool r.del)
 c3:C[3]?=some (.int .i64 r.size)
 c4:C[4]?=some (.int .i64 r.time)
 c22:C[22]?=some (.int .i64 r.bs)
 c23:C[23]?=some bl
def HashesAt (w:World) (bl:Value) (hs:List (List UInt8)):Prop :=
 ∃ a cap,bl=.slice a hs.length cap/\hs.length<=cap/\cap<=9223372036854775807/\∀ (i:Nat) h,hs[i]?=some h->h.length=32/\∃ g o,a=some ⟨g,o,none⟩/\g<w.heap.size/\w.rangeAt g (o+i*32) (h.map bv)
theorem HashesAt.ext {w w':World} {bl:Value} {hs:List (List UInt8)} (h:HashesAt w bl hs) (x:Ext w w'):HashesAt w' bl hs:=by
 obtain ⟨a,cap,h1,h2,h3,h4⟩:=h;refine ⟨a,cap,h1,h2,h3,fun i y hy=>?_⟩;obtain ⟨h5,g,o,h6,h7,h8⟩:=h4 i y hy;exact ⟨h5,g,o,h6,Nat.lt_of_lt_of_le h7 x.size,fun j u hj=>(x.cell h7).trans (h8 j u hj)⟩
def wantedB (del k1 b1 b2 b3 b4:Bool):Int:=if del||k1 then 11 else if b1||b2||b3||b4 then 4 else 0
def RecS.wanted (r:RecS):Int:=wantedB r.del (r.kind != 1) (decide (r.size<0)) (decide (4096<r.size)) (r.bs != sizeZ r.size) ((r.hs.length:Int) != countZ r.size)
def RecS.lenAt (r:RecS) (i:Int):Int:=if r.wanted=0/\0<=i/\i<r.hs.length then min r.bs (r.size - i*r.bs) else 0
set_option maxRecDepth 100000 in
set_option maxHeartbeats 4000000 in
theorem cwanted_any (r:RecS) (C:Array Value) (bl:Value) (w:World) (hC:RecC C r bl) (hb:∃ a cap,bl=.slice a r.hs.length cap) (hlo:-9223372036854775808<=r.size) (hhi:r.size<=9223372036854775807) :
  Calls prog 145 #[.agg C] w fun e w'=>e=.returned (.int .i64 r.wanted)/\Ext w w':=by
 obtain ⟨a,cap,rfl⟩:=hb;have HW:=lh (show r.wanted=wantedB r.del (r.kind != 1) (decide (r.size<0)) (decide (4096<r.size)) (r.bs != sizeZ r.size) ((r.hs.length:Int) != countZ r.size) from rfl);have HSz:=fun w'=>lh (bsize_any r.size w' hlo hhi);have HCn:=fun w'=>lh (bcount_any r.size w' hlo hhi);have hbk:=block_alloc_new w (.cells C 31 (0,0));have HX:=lh ((Ext.refl w).alloc (.cells C 31));have c1:=(cellB (k:=1) hbk).trans hC.c1;have c2:=(cellB (k:=2) hbk).trans hC.c2;have c3:=(cellB (k:=3) hbk).trans hC.c3;have c22:=(cellB (k:=22) hbk).trans hC.c22;have c23:=(cellB (k:=23) hbk).trans hC.c23;generalize r.wanted=W at *;generalize sizeZ r.size=S at *;generalize countZ r.size=N at *;generalize r.hs.length=n at *;generalize r.bs=bs at *;generalize r.size=z at *;generalize r.kind=k at *;generalize r.del=del at *;clear hbk hC hlo hhi
 cases del
 case' false =>
  cases hk:(k != 1)
  case' false =>
   cases h1:decide (z<0)
   case' false =>
    cases h2:decide (4096<z)
    case' false =>
     cases h3:(bs != S)
     case' false =>
      cases h4:((n:Int) != N)
 all_goals
  try simp only [*] at HW
  go_enter func145,ntmps145;go_wp2_with fail
  first
  | (go_ret
     exact ⟨ret_int (HW.out.symm),HX.out⟩)
  | (have q3:=After.cell c3
     have q22:=After.cell c22;have q23:=After.cell c23;refine wp_region_after (by kernel_rfl) (by kernel_rfl) ?_
     repeat (go_big_quiet_step (first | (go_at_call 72;exact After.same (HSz _).out) | (go_at_call 81;exact After.same (HCn _).out)))
     refine wpQuiet_nil ?_;rintro _ ⟨y,rfl⟩;clear q3 q22 q23;go_wp2_with fail;go_ret
     exact ⟨ret_int (HW.out.symm),HX.out.trans y.x⟩)
structure RecS.Good (r:RecS) (N:Nat):Prop where
 del:r.del=false
 kind:r.kind=1
 size:r.size=(N:Int)
 small:N<=4096
 bs:r.bs=(sizeN N:Int)
 count:r.hs.length=countN N
theorem RecS.good {r:RecS} (h:r.wanted=0):∃ N,r.Good N:=by
 unfold RecS.wanted wantedB at h;split at h
 ·cases h
 ·rename_i h1;split at h
  ·cases h
  ·rename_i h2;simp only [Bool.or_eq_true,decide_eq_true_eq,bne_iff_ne,ne_eq,not_or,Bool.not_eq_true,Decidable.not_not] at h1 h2;obtain ⟨⟨⟨h3,h4⟩,h5⟩,h6⟩:=h2;refine ⟨r.size.toNat,h1.1,h1.2,by omega,by omega,?_,?_⟩
   ·rw [h5];unfold sizeZ;rw [if_neg (by omega)]
   ·unfold countZ at h6;rw [if_neg (by omega)] at h6;omega
theorem RecS.Good.wanted {r:RecS} {N:Nat} (g:r.Good N):r.wanted=0:=by
 have h1:sizeZ r.size=(sizeN N:Int):=by unfold sizeZ;rw [g.size,if_neg (by have:=g.small;omega)];simp
 have h2:countZ r.size=(countN N:Int):=by unfold countZ;rw [g.size,if_neg (by have:=g.small;omega)];simp
 unfold RecS.wanted wantedB;rw [h1,h2,g.del,g.kind,g.bs,g.count,g.size,decide_eq_false (by omega),decide_eq_false (by have:=g.small;omega)];simp
def lenN (N i:Nat):Nat:=min (sizeN N) (N - i*sizeN N)
theorem RecS.Good.len {r:RecS} {N:Nat} (g:r.Good N) {i:Nat} (h:i<countN N):r.lenAt i=(lenN N i:Nat):=by
 unfold RecS.lenAt lenN;have h1:=(count_spec N i).1 h;rw [if_pos ⟨g.wanted,by omega,by rw [g.count];omega⟩,g.bs,g.size,<-Int.natCast_mul];omega
set_option maxRecDepth 100000 in
set_option maxHeartbeats 4000000 in
theorem clength_any (r:RecS) (C:Array Value) (bl:Value) (i:Int) (w:World) (hC:RecC C r bl) (hb:∃ a cap,bl=.slice a r.hs.length cap) (hlo:-9223372036854775808<=r.size) (hhi:r.size<=9223372036854775807) :
  Calls prog 77 #[.agg C,.int .i64 i] w fun e w'=>e=.returned (.int .i64 (r.lenAt i))/\Ext w w':=by
 have HWt:=fun w'=>lh (cwanted_any r C bl w' hC hb hlo hhi);obtain ⟨a,cap,rfl⟩:=hb;have HL:=lh (show r.lenAt i=if r.wanted=0/\0<=i/\i<r.hs.length then min r.bs (r.size - i*r.bs) else 0 from rfl);have HGd:=lh (fun h=>RecS.good (r:=r) h);have HCz:=lh (show (prog.info? 31).map (·.size)=some C.size from by rw [hC.n];kernel_rfl);have HC:=lh hC;have HX:=lh ((Ext.refl w).alloc (.cells C 31));have HB:=lh (block_alloc_new w (.cells C 31 (0,0)));generalize hLL:r.lenAt i=L at *;clear hLL;obtain ⟨W,hW⟩:∃ W,W=r.wanted:=⟨_,rfl⟩;have HWe:=lh hW;rw [<-hW] at HWt HL HGd;clear hW hC;by_cases h0:W=0
 ·obtain ⟨N,hG⟩:=HGd.out h0;subst h0;have hG1:=hG.size;have hG2:=hG.small;have hG3:=hG.bs;have hG4:=hG.count;have hsp:=sizeN_spec N;have hcs:=count_spec N;clear hG HGd HWe;by_cases h1:i<0
  ·have d1:decide (i<0)=true:=decide_eq_true h1;have HR:=lh (HL.out.trans (if_neg (by omega)));clear hcs hsp HL;go_enter func77,ntmps77;go_wp2_with (refine wpList_load_row rfl 31 (.tmp 2) rfl w.heap.size rfl 31 C (0,0) _ HB.out underlying31 rfl HCz.out ?_;go_frame);refine (HWt _).out.mono ?_;rintro e w1 ⟨rfl,x1⟩;have HX1:=lh (HX.out.trans x1);clear x1;go_wp2_with fail;go_ret;exact ⟨ret_int HR.out.symm,HX1.out⟩
  ·have d1:decide (i<0)=false:=decide_eq_false h1;obtain ⟨n,hn⟩:∃ n,n=r.hs.length:=⟨_,rfl⟩
   have c23:∀ w',Ext (w.alloc (.cells C 31 (0,0))) w'->w'.cell? ⟨w.heap.size,23,none⟩=some (.slice a n cap):=fun w' x=>by
    rw [hn];exact (cellB (k:=23) ((x.block (by simp)).trans HB.out)).trans HC.out.c23
   by_cases h2:i<n
   ·have d2:decide ((n:Int)<=i)=false:=decide_eq_false (by omega);obtain ⟨m,rfl⟩:∃ m:Nat,i=(m:Int):=⟨i.toNat,by omega⟩;have hmz:=(hcs m).1 (by omega);have HR:=lh (HL.out.trans (if_pos ⟨rfl,by omega,by omega⟩));obtain ⟨z,hz⟩:∃ z:Nat,z=sizeN N:=⟨_,rfl⟩;rw [<-hz] at hsp hmz hG3
    have c3:∀ w',Ext (w.alloc (.cells C 31 (0,0))) w'->w'.cell? ⟨w.heap.size,3,none⟩=some (.int .i64 (N:Nat)):=fun w' x=>by
     rw [<-hG1];exact (cellB (k:=3) ((x.block (by simp)).trans HB.out)).trans HC.out.c3
    have c22:∀ w',Ext (w.alloc (.cells C 31 (0,0))) w'->w'.cell? ⟨w.heap.size,22,none⟩=some (.int .i64 (z:Nat)):=fun w' x=>by
     rw [<-hG3];exact (cellB (k:=22) ((x.block (by simp)).trans HB.out)).trans HC.out.c22
    have HQ:=lh (And.intro c3 (And.intro c22 c23));obtain ⟨lo,hlo2⟩:∃ lo,lo=m*z:=⟨_,rfl⟩;rw [<-hlo2] at hmz;have q1:IntKind.i64.wrap ((m:Int)*(z:Int))=(lo:Int):=(IntWalk.i64_in _ (by rw [<-Int.natCast_mul,<-hlo2];omega)).trans (by rw [<-Int.natCast_mul,<-hlo2]);have q2:IntKind.i64.wrap ((N:Int) - (lo:Int))=((N - lo:Nat):Int):=(IntWalk.i64_in _ (by omega)).trans (by omega)
    have HR2:=lh (show L=min (z:Int) ((N - lo:Nat):Int) from by
     rw [HR.out,hG1,hG3,<-Int.natCast_mul,<-hlo2];omega)
    generalize N - lo=nl at *;clear c3 c22 c23 hcs hsp hG1 hG2 hG3 hG4 HL HR hmz hlo2 hz h1;go_enter func77,ntmps77;go_wp2_with (refine wpList_load_row rfl 31 (.tmp 2) rfl w.heap.size rfl 31 C (0,0) _ HB.out underlying31 rfl HCz.out ?_;go_frame);refine (HWt _).out.mono ?_;rintro e w1 ⟨rfl,x1⟩;have HX1:=lh (HX.out.trans x1);have k3:=HQ.out.1 _ x1;have k22:=HQ.out.2.1 _ x1;have k23:=HQ.out.2.2 _ x1;clear x1;go_wp2_with fail;go_ret;exact ⟨ret_int HR2.out.symm,HX1.out⟩
   ·have d2:decide ((n:Int)<=i)=true:=decide_eq_true (by omega);have HR:=lh (HL.out.trans (if_neg (by omega)));have HQ:=lh c23;clear c23 hcs hsp HL;go_enter func77,ntmps77;go_wp2_with (refine wpList_load_row rfl 31 (.tmp 2) rfl w.heap.size rfl 31 C (0,0) _ HB.out underlying31 rfl HCz.out ?_;go_frame);refine (HWt _).out.mono ?_;rintro e w1 ⟨rfl,x1⟩;have HX1:=lh (HX.out.trans x1);have k23:=HQ.out _ x1;clear x1;go_wp2_with fail;go_ret;exact ⟨ret_int HR.out.symm,HX1.out⟩
 ·have HR:=lh (HL.out.trans (if_neg (by omega)));have d0:(W != 0)=true:=by rw [bne_iff_ne];exact h0
  have d0':(W==0)=false:=by rw [beq_eq_false_iff_ne];exact h0
  clear HL HGd HWe h0;go_enter func77,ntmps77;go_wp2_with (refine wpList_load_row rfl 31 (.tmp 2) rfl w.heap.size rfl 31 C (0,0) _ HB.out underlying31 rfl HCz.out ?_;go_frame);refine (HWt _).out.mono ?_;rintro e w1 ⟨rfl,x1⟩;have HX1:=lh (HX.out.trans x1);clear x1;go_wp2_with fail;go_ret;exact ⟨ret_int HR.out.symm,HX1.out⟩
end
section
open Go.RowKit
theorem wpList_load_at_g {P:Program} {ops:Array Oper} {rest:List Oper} {op:Oper} {a:Act} {w:World} {Q:Exit->Act->World->Prop} (hw:Region.wanted op (yielded ops a.tmps)=true) (ty:TypeId) (x:Operand) (ho:op.op=.load ty x)
  (b o:Nat) (hx:a.eval x=.pointer (some ⟨b,o,none⟩)) (cs:Array Value) (d:TypeDesc) (hc:w.rangeAt b o cs.toList)
  (hu:P.underlying ty=some d) (hd:d.isRow=true) (hi:(P.info? ty).map (·.size)=some cs.size)
  (h:wpList P ops Q rest (a.put op.dst (.agg cs)) w):wpList P ops Q (op::rest) a w:=by
 unfold wpList;rw [if_pos hw];exact .inl (wp_load_mid ty x ho b o hx cs.toList d hc hu hd (by rw [hi];simp) (by simpa using h))
def placedL (N:Nat) (t:List UInt8) (i:Nat):List UInt8:=if i*sizeN N+lenN N i<=t.length then (t.drop (i*sizeN N)).take (lenN N i) else []
theorem lenN_pos {N i:Nat} (h:i<countN N):1<=lenN N i:=by
 have h1:=(count_spec N i).1 h;have h2:=sizeN_spec N;unfold lenN;omega
theorem lenN_le (N i:Nat):lenN N i<=128:=by
 have h2:=sizeN_spec N;unfold lenN;omega
theorem BytesOff.nil (b:Nat) (w:World):BytesOff b w (.slice none 0 0) []:=⟨none,0,rfl,Nat.le_refl _,by unfold maxLen;omega,fun h=>by simp at h⟩
set_option maxRecDepth 100000 in
set_option maxHeartbeats 4000000 in
theorem cplaced_any (r:RecS) (C:Array Value) (bl:Value) (N i:Nat) (t:List UInt8) (v:Value) (b:Nat) (w0:World) (hC:RecC C r bl) (hb:∃ a cap,bl=.slice a r.hs.length cap) (G:r.Good N) (hi:i<countN N) (hv:BytesOff b w0 v t) :
  ∃ u,(∀ w,Ext w0 w->Calls prog 197 #[.agg C,.int .i64 i,v] w fun e w'=>e=.returned u/\Ext w w')/\∀ w' b',Ext w0 w'->w'.heap.size<=b'->BytesOff b' w' u (placedL N t i):=by
 have hsm:=G.small;have HLen:=fun w'=>lh (clength_any r C bl i w' hC hb (by rw [G.size];omega) (by rw [G.size];omega));rw [G.len hi] at HLen;have hl1:=lenN_pos hi;have hl2:=lenN_le N i;have hmz:=(count_spec N i).1 hi;have hsp:=sizeN_spec N;have HP:=lh (show placedL N t i=if i*sizeN N+lenN N i<=t.length then (t.drop (i*sizeN N)).take (lenN N i) else [] from rfl);have HCz:=lh (show (prog.info? 31).map (·.size)=some C.size from by rw [hC.n];kernel_rfl);have HB:=fun w=>lh (block_alloc_new w (.cells C 31 (0,0)))
 have HC22:=fun (w:World)=>lh (show (w.alloc (.cells C 31 (0,0))).cell? ⟨w.heap.size,22,none⟩=some (.int .i64 (sizeN N:Nat)) from by
  rw [<-G.bs];exact (cellB (k:=22) (HB w).out).trans hC.c22)
 obtain ⟨a,cap,rfl,h1,h2,h3⟩:=hv;have hcap:=h2;unfold maxLen at h2;have HT3:=lh h3;generalize placedL N t i=pl at *;generalize lenN N i=m at *;obtain ⟨z,hz⟩:∃ z:Nat,z=sizeN N:=⟨_,rfl⟩;rw [<-hz] at hsp hmz HC22 HP;obtain ⟨lo,hlo⟩:∃ lo,lo=i*z:=⟨_,rfl⟩;rw [<-hlo] at hmz HP;obtain ⟨n,hn⟩:∃ n,n=t.length:=⟨_,rfl⟩;have HN:=lh hn;rw [<-hn] at h1 HP ⊢;have q1:IntKind.i64.wrap ((i:Int)*(z:Int))=(lo:Int):=(IntWalk.i64_in _ (by rw [<-Int.natCast_mul,<-hlo];omega)).trans (by rw [<-Int.natCast_mul,<-hlo]);obtain ⟨hi2,hhi2⟩:∃ hi2,hi2=lo+m:=⟨_,rfl⟩;have q2:IntKind.i64.wrap ((lo:Int)+(m:Int))=(hi2:Int):=(IntWalk.i64_in _ (by omega)).trans (by omega);rw [<-hhi2] at HP;by_cases hle:hi2<=n
 ·have d1:decide ((n:Int)<(hi2:Int))=false:=decide_eq_false (by omega);have d2:decide (n<hi2)=false:=decide_eq_false (by omega);have HR:=lh (HP.out.trans (if_pos hle));obtain ⟨g,o,rfl,hg,hgl,hcell⟩:=HT3.out (by rw [<-HN.out];omega)
  refine ⟨.slice (some ⟨g,o+lo,none⟩) m (cap - lo),fun w hx0=>?_,fun w' b' x hb' =>
   bytesOff_any (bytesOff_cut (b:=b) HR.out (by rw [HR.out,List.length_take,List.length_drop,<-HN.out];omega) (by rw [<-HN.out];omega) (by rw [<-HN.out];exact h1) hcap hg hgl hcell) x (Nat.le_trans x.size hb')⟩
  have HX:=lh ((Ext.refl w).alloc (.cells C 31));have HBw:=HB w;have c22:=(HC22 w).out;have s1:(lo:Int)<=(hi2:Int):=by omega
  have s2:(hi2:Int)<=(cap:Int):=by omega
  have s3:hi2 - lo=m:=by omega
  have s4:¬ cap=lo:=by omega
  have s5:0<=(lo:Int):=by omega
  clear HP HR hmz hsp hl1 hl2 hcell HT3 hg hgl hlo hz hhi2 hle hcap hi hn hsm G hC HN h3 HB HC22 hx0;go_enter func197,ntmps197;go_wp2_with (refine wpList_load_row rfl 31 (.tmp 3) rfl w.heap.size rfl 31 C (0,0) _ HBw.out underlying31 rfl HCz.out ?_;go_frame);refine (HLen _).out.mono ?_;rintro e w1 ⟨rfl,x1⟩;have HX1:=lh (HX.out.trans x1);clear x1;go_wp2_with fail;go_ret;exact ⟨rfl,HX1.out⟩
 ·have d1:decide ((n:Int)<(hi2:Int))=true:=decide_eq_true (by omega);have d2:decide (n<hi2)=true:=decide_eq_true (by omega);have HR:=lh (HP.out.trans (if_neg hle));refine ⟨.slice none 0 0,fun w hx0=>?_,fun w' b' x hb'=>by rw [HR.out];exact BytesOff.nil b' _⟩;have HX:=lh ((Ext.refl w).alloc (.cells C 31));have HBw:=HB w;have c22:=(HC22 w).out;clear HP HR hmz hsp hl1 hl2 HT3 hlo hz hhi2 hle hcap hi hn hsm G hC HN h3 HB HC22 hx0;go_enter func197,ntmps197;go_wp2_with (refine wpList_load_row rfl 31 (.tmp 3) rfl w.heap.size rfl 31 C (0,0) _ HBw.out underlying31 rfl HCz.out ?_;go_frame);refine (HLen _).out.mono ?_;rintro e w1 ⟨rfl,x1⟩;have HX1:=lh (HX.out.trans x1);clear x1;go_wp2_with fail;go_ret;exact ⟨rfl,HX1.out⟩
def rightB (N:Nat) (hs:List (List UInt8)) (i:Nat) (l:List UInt8):Bool:=decide (l.length=lenN N i)&&decide (hs[i]?=some (shaL l))
set_option maxRecDepth 100000 in
set_option maxHeartbeats 4000000 in
theorem cright_any (r:RecS) (C:Array Value) (bl:Value) (N i:Nat) (l:List UInt8) (u:Value) (w:World) (T:ShaTabs w) (hC:RecC C r bl) (hb:HashesAt w bl r.hs) (G:r.Good N) (hi:i<countN N) (hu:BytesOff w.heap.size w u l) (hl:l.length<=1048576) :
  Calls prog 196 #[.agg C,.int .i64 i,u] w fun e w'=>e=.returned (.bool (rightB N r.hs i l))/\Ext w w':=by
 have hsm:=G.small;obtain ⟨ha,hcap,rfl,hb1,hb2,hb3⟩:=hb;have HLen:=fun w'=>lh (clength_any r C _ i w' hC ⟨_,_,rfl⟩ (by rw [G.size];omega) (by rw [G.size];omega));rw [G.len hi] at HLen;obtain ⟨h,hh⟩:∃ h,r.hs[i]?=some h:=⟨_,List.getElem?_eq_getElem (by rw [G.count];exact hi)⟩;obtain ⟨hh32,g,o,rfl,hgl,hrg⟩:=hb3 i h hh;have HVf:=fun w' (x:Ext w w')=>lh (bverify_any l h u w' (T.ext x) (bytesOff_any hu x x.size) hl hh32)
 have HRB:=lh (show rightB N r.hs i l=(decide (l.length=lenN N i)&&decide (shaL l=h)) from by
  unfold rightB;rw [hh]
  congr 1
  rw [decide_eq_decide,Option.some.injEq]
  exact eq_comm)
 have HAl:=lh (show (hArr h 32).toList=h.map bv from by rw [hArr_list hh32]);have HAz:=lh (show (prog.info? 45).map (·.size)=some (hArr h 32).size from by rw [hArr_size _ _ hh32 (by omega)];kernel_rfl)
 have HRg:=lh (show ∀ w',Ext w w'->w'.rangeAt g (o+i*32) (hArr h 32).toList from fun w' x j y hj=>by
  rw [HAl.out] at hj
  exact (x.cell hgl).trans (hrg j y hj))
 have HCz:=lh (show (prog.info? 31).map (·.size)=some C.size from by rw [hC.n];kernel_rfl);have HX:=lh ((Ext.refl w).alloc (.cells C 31));have HB:=lh (block_alloc_new w (.cells C 31 (0,0)));have HC23:=lh hC.c23;have hin:(i:Int)<(r.hs.length:Int):=by rw [G.count];omega
 have hin2:i<r.hs.length:=by omega
 obtain ⟨a,cap,rfl,h1,h2,_⟩:=hu;unfold maxLen at h2;unfold hashV at HVf;generalize rightB N r.hs i l=R at *;generalize hArr h 32=A at *;generalize lenN N i=m at *;generalize r.hs.length=n at *;obtain ⟨q,hq⟩:∃ q,q=decide (shaL l=h):=⟨_,rfl⟩;rw [<-hq] at HVf HRB;clear hq hC T hrg hh G hb3 HAl hsm hh32;by_cases hlm:l.length=m
 ·have e1:((l.length:Int)==(m:Int))=true:=by rw [beq_iff_eq];omega
  have HR:=lh (show R=q from by rw [HRB.out,decide_eq_true hlm,Bool.true_and]);clear HRB;generalize l.length=ln at *;subst hlm;go_enter func196,ntmps196;go_wp2_with (refine wpList_load_row rfl 31 (.tmp 3) rfl w.heap.size rfl 31 C (0,0) _ HB.out underlying31 rfl HCz.out ?_;go_frame);refine (HLen _).out.mono ?_;rintro e w1 ⟨rfl,x1⟩;have HX1:=lh (HX.out.trans x1);have k23:w1.cell? ⟨w.heap.size,23,none⟩=some (.slice (some ⟨g,o,none⟩) n hcap):=(cellB (k:=23) ((x1.block (by simp)).trans HB.out)).trans HC23.out;have HR1:=lh (HRg.out _ HX1.out);clear x1 HLen;go_wp2_with (refine wpList_load_at_g (by simp [Region.wanted,yielded]) 45 (.tmp 18) rfl g (o+i*32) rfl A _ HR1.out underlying45 rfl HAz.out ?_;go_frame);refine (HVf _ HX1.out).out.mono ?_;rintro e w2 ⟨rfl,x2⟩;have HX2:=lh (HX1.out.trans x2);clear x2;go_wp2_with fail;go_ret;exact ⟨ret_bool HR.out.symm,HX2.out⟩
 ·have e1:((l.length:Int)==(m:Int))=false:=by rw [beq_eq_false_iff_ne];omega
  have HR:=lh (show R=false from by rw [HRB.out,decide_eq_false hlm,Bool.false_and]);clear HRB;generalize l.length=ln at *;go_enter func196,ntmps196;go_wp2_with (refine wpList_load_row rfl 31 (.tmp 3) rfl w.heap.size rfl 31 C (0,0) _ HB.out underlying31 rfl HCz.out ?_;go_frame);refine (HLen _).out.mono ?_;rintro e w1 ⟨rfl,x1⟩;have HX1:=lh (HX.out.trans x1);clear x1;go_wp2_with fail;go_ret;exact ⟨ret_bool HR.out.symm,HX1.out⟩
theorem results_row3 {P:Program} {fn:Func} {p u v:Tmp} {ty:TypeId} (h:fn.results=#[.tmp u,.cell p ty,.tmp v]) (tmps:Array Value) (w:World) (g:Nat) (t:TypeId) (cs:Array Value) (fr:Nat×Nat) (d:TypeDesc)
  (hp:tmps.getD p undef=.pointer (some ⟨g,0,none⟩)) (hg:w.heap[g]?=some (.cells cs t fr))
  (hu:P.underlying ty=some d) (hd:(match d with | .struct _ | .array _ _=>true | _=>false)=true) (hi:(P.info? ty).map (·.size)=some cs.size) :
  (results fn tmps).run P w=.ok (.tuple #[tmps.getD u undef,.agg cs,tmps.getD v undef]) w:=by
 have hp':tmps[p]?.getD undef=.pointer (some ⟨g,0,none⟩):=by simpa using hp
 simp [results,h,hp',asAddr,Result.andThen,run_loadVar_row w g t ty cs fr d hg hu hd hi]
theorem bfis_nil (w:World):Calls prog 147 #[.pointer none] w fun e w'=>e=.returned (.bool false)/\w'=w:=by
 go_enter func147,ntmps147;go_wp2_with fail;go_ret;exact ⟨rfl,rfl⟩
set_option maxRecDepth 100000 in
set_option maxHeartbeats 1000000 in
theorem bfind_nil (A:Array Value) (w:World):Calls prog 78 #[.pointer none,.agg A] w fun e w'=>e=.returned (.tuple #[.slice none 0 0,.agg #[.string ⟨#[]⟩,.int .i64 0],.bool false])/\Ext w w':=by
 have HI:=fun w'=>lh (bfis_nil w');have HX:=lh (((Ext.refl w).alloc (.cells A 45)).alloc (.cells #[.string ⟨#[]⟩,.int .i64 0] 126))
 have hb:((w.alloc (.cells A 45)).alloc (.cells #[.string ⟨#[]⟩,.int .i64 0] 126)).heap[w.heap.size+1]?=some (.cells #[.string ⟨#[]⟩,.int .i64 0] 126 (0,0)):=by
  have:=block_alloc_new (w.alloc (.cells A 45)) (.cells #[.string ⟨#[]⟩,.int .i64 0] 126 (0,0))
  rwa [size_alloc] at this
 have HB:=lh hb;clear hb;go_enter func78,ntmps78;go_wp2_with fail;refine wp_region_after (by kernel_rfl) (by kernel_rfl) ?_
 repeat (go_big_quiet_step (exact After.same (HI _).out))
 refine wpQuiet_nil ?_;rintro _ ⟨y,rfl⟩;have hb:=(y.x.block (ltB HB.out)).trans HB.out;have k0:=cellB (k:=0) hb;have k1:=cellB (k:=1) hb;have f0:=frozenB (k:=0) hb;have f1:=frozenB (k:=1) hb;have HY:=lh hb;clear hb;go_wp2_with fail;refine bodyPost_ret (results_row3 rfl _ _ (w.heap.size+1) 126 #[.string ⟨#[]⟩,.int .i64 0] (0,0) _ rfl (by rw [setCellB (setCellB HY.out)];rfl) underlying126 rfl (by kernel_rfl)) rfl ?_;exact ⟨rfl,((HX.out.trans y.x).setCell (p:=⟨w.heap.size+1,0,none⟩) (Nat.le_succ _) _).setCell (p:=⟨w.heap.size+1,1,none⟩) (Nat.le_succ _) _⟩
end
section
open Go.RowKit
theorem wpQuiet_load_row_g {P:Program} {ops:Array Oper} {C:World->Prop} {Q:Act->Prop} {a:Act} {o:Oper} {rest:List Oper} (hw:Region.wanted o (yielded ops a.tmps)=true) (ty:TypeId) (x:Operand) (ho:o.op=.load ty x)
  (g:Nat) (hx:a.eval x=.pointer (some ⟨g,0,none⟩)) (t:TypeId) (cs:Array Value) (fr:Nat×Nat) (d:TypeDesc) (hg:∀ w,C w->w.heap[g]?=some (.cells cs t fr))
  (hu:P.underlying ty=some d) (hd:(match d with | .struct _ | .array _ _=>true | _=>false)=true) (hi:(P.info? ty).map (·.size)=some cs.size)
  (h:wpQuiet P ops C Q rest (a.put o.dst (.agg cs))):wpQuiet P ops C Q (o::rest) a :=
 wpQuiet_step fun K hK=>by
  rw [if_pos hw];refine ⟨.agg cs,fun w hw=>?_,hK _ h⟩;unfold Oper.quietAt execOp;simp only [ho,hx,Instr.loadAt,Instr.sureAddr,Sem.run_bind,Sem.run_pure,Result.andThen_ok,run_loadVar_row w g t ty cs fr d (hg w hw) hu hd hi];exact ⟨rfl,rfl⟩
def sameB (N:Nat) (hs:List (List UInt8)) (k i:Nat):Bool:=decide (hs[k]?=hs[i]?)&&decide (lenN N k=lenN N i)
def stepV (N:Nat) (hs:List (List UInt8)) (t:List UInt8) (i:Nat):Value :=
 if rightB N hs i (placedL N t i) then .agg #[.int .i64 i,.int .i64 1,.string ⟨#[]⟩,.int .i64 0,.int .i64 0]
 else match (List.range i).find? fun k=>sameB N hs k i with
  | some k=>.agg #[.int .i64 i,.int .i64 3,.string ⟨#[]⟩,.int .i64 0,.int .i64 k]
  | none=>.agg #[.int .i64 i,.int .i64 4,.string ⟨#[]⟩,.int .i64 0,.int .i64 0]
set_option maxRecDepth 100000 in
set_option maxHeartbeats 4000000 in
theorem cstep_any (r:RecS) (C:Array Value) (bl:Value) (N i:Nat) (t:List UInt8) (v:Value) (b:Nat) (w:World) (T:ShaTabs w) (hC:RecC C r bl) (hb:HashesAt w bl r.hs) (G:r.Good N) (hi:i<countN N) (hv:BytesOff b w v t) :
  Calls prog 146 #[.agg C,.int .i64 i,.pointer none,v] w fun e w'=>e=.returned (stepV N r.hs t i)/\Ext w w':=by
 have hsm:=G.small;have hcn:=G.count;have hc32:=count_le hsm;obtain ⟨ha,hcap,rfl,hb1,hb2,hb3⟩:=hb;have HRt:=fun w' (x:Ext w w') u (h:BytesOff w'.heap.size w' u (placedL N t i))=>lh (cright_any r C _ N i (placedL N t i) u w' (T.ext x) hC ((show HashesAt w _ r.hs from ⟨_,_,rfl,hb1,hb2,hb3⟩).ext x) G hi h (by unfold placedL;split <;> simp;have:=lenN_le N i;omega));obtain ⟨u,hpl,hpb⟩:=cplaced_any r C _ N i t v b w hC ⟨_,_,rfl⟩ G hi hv;have HPl:=fun w' (x:Ext w w')=>lh (hpl w' x);have HRu:=fun w' (x:Ext w w')=>HRt w' x u (hpb w' _ x (Nat.le_refl _));clear HRt hpl hpb
 have HLen:=fun (k:Nat) (hk:k<countN N) w'=>lh (show Calls prog 77 #[.agg C,.int .i64 k] w' (fun e w''=>e=.returned (.int .i64 (lenN N k:Nat))/\Ext w' w'') from by
  rw [<-G.len hk]
  exact clength_any r C _ k w' hC ⟨_,_,rfl⟩ (by rw [G.size];omega) (by rw [G.size];omega))
 have HFd:=fun A w'=>lh (bfind_nil A w')
 have HS:=lh (show stepV N r.hs t i=if rightB N r.hs i (placedL N t i) then .agg #[.int .i64 i,.int .i64 1,.string ⟨#[]⟩,.int .i64 0,.int .i64 0] else match (List.range i).find? fun k=>sameB N r.hs k i with
  | some k=>.agg #[.int .i64 i,.int .i64 3,.string ⟨#[]⟩,.int .i64 0,.int .i64 k]
  | none=>.agg #[.int .i64 i,.int .i64 4,.string ⟨#[]⟩,.int .i64 0,.int .i64 0] from rfl)
 have HCz:=lh (show (prog.info? 31).map (·.size)=some C.size from by rw [hC.n];kernel_rfl);obtain ⟨W1,hW1⟩:∃ W1,W1=(w.alloc (.cells C 31 (0,0))).alloc (.cells #[.int .i64 0,.int .i64 0,.string ⟨#[]⟩,.int .i64 0,.int .i64 0] 128 (0,0)):=⟨_,rfl⟩;have HX1:=lh (show Ext w W1 from hW1▸((Ext.refl w).alloc _).alloc _)
 have HB4:=lh (show W1.heap[w.heap.size]?=some (.cells C 31 (0,0)) from by
  rw [hW1,block_alloc_old (by rw [size_alloc];omega)];exact block_alloc_new _ _)
 have HB8:=lh (show W1.heap[w.heap.size+1]?=some (.cells #[.int .i64 0,.int .i64 0,.string ⟨#[]⟩,.int .i64 0,.int .i64 0] 128 (0,0)) from by
  have:=block_alloc_new (w.alloc (.cells C 31 (0,0))) (.cells #[.int .i64 0,.int .i64 0,.string ⟨#[]⟩,.int .i64 0,.int .i64 0] 128 (0,0));rw [size_alloc] at this
  rw [hW1];exact this)
 have HC23:=lh hC.c23;obtain ⟨h,hh⟩:∃ h,r.hs[i]?=some h:=⟨_,List.getElem?_eq_getElem (by omega)⟩;obtain ⟨hh32,g,o,rfl,hgl,hrg⟩:=hb3 i h hh;have HAi:=lh (hArr_list hh32);have HZi:=lh (show (prog.info? 45).map (·.size)=some (hArr h 32).size from by rw [hArr_size _ _ hh32 (by omega)];kernel_rfl)
 have HRi:=lh (show ∀ w',Ext w w'->w'.rangeAt g (o+i*32) (hArr h 32).toList from fun w' x j y hj=>by
  rw [HAi.out] at hj
  exact (x.cell hgl).trans (hrg j y (by simpa using hj)))
 have HB3:=lh hb3;have HH:=lh hh;have HH32:=lh hh32
 have HBq:=lh (show ∀ w2,Ext W1 w2->∀ w',(∃ y:After w2,w'=y.v)->w'.heap[w.heap.size]?=some (.cells C 31 (0,0)) from by
  rintro w2 x _ ⟨y,rfl⟩
  exact ((x.trans y.x).block (ltB HB4.out)).trans HB4.out)
 have hin:(i:Int)<(r.hs.length:Int):=by omega
 have hin2:i<r.hs.length:=by omega
 have HHi:=lh hi;have HCN:=lh hcn;obtain ⟨rb,hrb⟩:∃ rb,rb=rightB N r.hs i (placedL N t i):=⟨_,rfl⟩;have HBo:=lh hrb;rw [<-hrb] at HRu HS;generalize stepV N r.hs t i=S at *;obtain ⟨n,hn⟩:∃ n,n=r.hs.length:=⟨_,rfl⟩;have HN:=lh hn;rw [<-hn] at hin hin2 hb1 hcn HC23;have hi32:i<=32:=by omega
 clear hrb hn hb3 hrg hh hh32 hC G T hv HBo hsm hc32 hi;go_enter func146,ntmps146;go_wp2_with fail;rw [<-hW1];clear hW1;refine wp_region_after (by kernel_rfl) (by kernel_rfl) ?_
 repeat (first | (refine wpQuiet_load_row rfl 31 (.tmp 4) rfl w.heap.size rfl 31 C (0,0) _ (HBq.out _ (Ext.refl _)) underlying31 rfl HCz.out ?_;go_frame) | go_big_quiet_step (first | (go_at_call 197;exact After.of (HPl _ (HX1.out.trans (After.x _))).out) | (go_at_call 196;exact After.of (HRu _ (HX1.out.trans (After.x _))).out)))
 refine wpQuiet_nil ?_;rintro _ ⟨y,rfl⟩;have HZ:=lh y.x;obtain ⟨w2,hw2⟩:∃ x,x=y.v:=⟨_,rfl⟩;rw [<-hw2] at HZ ⊢;clear hw2 y HPl HRu
 cases rb with
 | true =>
  have HSR:=lh (HS.out.trans (if_pos rfl));have hbr:=(HZ.out.block (ltB HB8.out)).trans HB8.out;have k0:=cellB (k:=0) hbr;have k1:=cellB (k:=1) hbr;have k2:=cellB (k:=2) hbr;have k3:=cellB (k:=3) hbr;have k4:=cellB (k:=4) hbr;have f0:=frozenB (k:=0) hbr;have f1:=frozenB (k:=1) hbr;have f2:=frozenB (k:=2) hbr;have f3:=frozenB (k:=3) hbr;have f4:=frozenB (k:=4) hbr;have HRR:=lh hbr;clear hbr;go_wp2_with fail;refine bodyPost_ret (results_cell_row rfl _ _ (w.heap.size+1) 128 #[.int .i64 i,.int .i64 1,.string ⟨#[]⟩,.int .i64 0,.int .i64 0] (0,0) _ rfl (by rw [setCellB (setCellB (setCellB (setCellB (setCellB HRR.out))))];rfl) underlying128 rfl (by kernel_rfl)) rfl ?_;exact ⟨by rw [HSR.out],(((((HX1.out.trans HZ.out).setCell (p:=⟨w.heap.size+1,0,none⟩) (Nat.le_succ _) _).setCell (p:=⟨w.heap.size+1,1,none⟩) (Nat.le_succ _) _).setCell (p:=⟨w.heap.size+1,2,none⟩) (Nat.le_succ _) _).setCell (p:=⟨w.heap.size+1,3,none⟩) (Nat.le_succ _) _).setCell (p:=⟨w.heap.size+1,4,none⟩) (Nat.le_succ _) _⟩
 | false =>
  have HS2:=lh (HS.out.trans (if_neg (by decide)));go_wp2_with fail;go_loopw [23] (fun kv wr=>Hid (∃ k:Nat,k<=i/\kv=.int .i64 k/\Ext W1 wr/\∀ j,j<k->sameB N r.hs j i=false)) (fun kv _=>i - (intOf kv).toNat)
  case atStart=>exact ⟨0,Nat.zero_le _,rfl,HZ.out,fun j hj=>absurd hj (Nat.not_lt_zero j)⟩
  case round =>
   obtain ⟨k,hk,rfl,hx,hno⟩:=hrel.out;clear hrel HZ;have HZ:=lh hx;have HNo:=lh hno;clear hx hno;have k23:wr.cell? ⟨w.heap.size,23,none⟩=some (.slice (some ⟨g,o,none⟩) n hcap):=(cellB (k:=23) ((HZ.out.block (ltB HB4.out)).trans HB4.out)).trans HC23.out;by_cases hlt:k<i
   ·obtain ⟨hk',hhk⟩:∃ h',r.hs[k]?=some h':=⟨_,List.getElem?_eq_getElem (by have:=HN.out;omega)⟩;obtain ⟨hk32,g',o',e',hgl',hrg'⟩:=HB3.out k hk' hhk
    cases e'
    have HAk:=lh (hArr_list hk32);have HZk:=lh (show (prog.info? 45).map (·.size)=some (hArr hk' 32).size from by rw [hArr_size _ _ hk32 (by omega)];kernel_rfl)
    have HRk:=lh (show ∀ w',(∃ y:After wr,w'=y.v)->w'.rangeAt g (o+k*32) (hArr hk' 32).toList from by
     rintro _ ⟨y,rfl⟩ j z hj;rw [HAk.out] at hj
     exact (((HX1.out.trans HZ.out).trans y.x).cell hgl').trans (hrg' j z (by simpa using hj)))
    have HRi2:=lh (show ∀ w',(∃ y:After wr,w'=y.v)->w'.rangeAt g (o+i*32) (hArr h 32).toList from by
     rintro _ ⟨y,rfl⟩
     exact HRi.out _ ((HX1.out.trans HZ.out).trans y.x))
    have heq:=eq_hash hk' h hk32 HH32.out;obtain ⟨q,hq⟩:∃ q,q=decide (hk'=h):=⟨_,rfl⟩
    have HSm:=lh (show sameB N r.hs k i=(q&&decide (lenN N k=lenN N i)) from by
     unfold sameB;rw [hhk,HH.out,hq]
     congr 1
     rw [decide_eq_decide,Option.some.injEq])
    rw [<-hq] at heq;have HLk:=HLen k (by have:=HHi.out;omega);have HLi:=HLen i HHi.out;have q23:=After.cell k23;have hkn:(k:Int)<(n:Int):=by omega
    generalize hArr hk' 32=Ak at *;generalize hArr h 32=Ai at *;clear hq hhk hrg' hk32
    cases q with
    | false =>
     have HNo2:=lh (show ∀ j,j<k+1->sameB N r.hs j i=false from fun j hj=>by
      rcases Nat.lt_or_eq_of_le (Nat.le_of_lt_succ hj) with h1 | h1
      ·exact HNo.out j h1
      ·rw [h1,HSm.out];rfl)
     go_wp2_with fail;refine wp_region_after (by kernel_rfl) (by kernel_rfl) ?_
     iterate 4 go_big_quiet_step (fail)
     refine wpQuiet_load_at rfl 45 (.tmp 29) rfl g (o+k*32) rfl Ak _ HRk.out underlying45 rfl HZk.out ?_;go_frame
     iterate 4 go_big_quiet_step (fail)
     refine wpQuiet_load_at rfl 45 (.tmp 34) rfl g (o+i*32) rfl Ai _ HRi2.out underlying45 rfl HZi.out ?_;go_frame
     repeat (go_big_quiet_step (fail))
     refine wpQuiet_nil ?_;rintro _ ⟨y,rfl⟩;have HZy:=lh (HZ.out.trans y.x);clear q23 k23 heq;go_wp2_with fail;go_roundw
     case rel=>exact ⟨k+1,by omega,by go_num,HZy.out,HNo2.out⟩
     case measure=>simp [intOf] <;> omega
    | true =>
     have HLE:=lh (show sameB N r.hs k i=decide (lenN N k=lenN N i) from by rw [HSm.out,Bool.true_and]);generalize lenN N k=lk at *;generalize lenN N i=li at *;have HBqr:=lh (HBq.out wr HZ.out);by_cases hll:lk=li
     ·have e5:((lk:Int)==(li:Int))=true:=by rw [beq_iff_eq];omega
      have e6:(lk==li)=true:=by rw [beq_iff_eq];exact hll
      have HSR:=lh (show S=.agg #[.int .i64 i,.int .i64 3,.string ⟨#[]⟩,.int .i64 0,.int .i64 k] from by
       rw [HS2.out]
       have hf:(List.range i).find? (fun k=>sameB N r.hs k i)=some k:=by
        rw [List.find?_eq_some_iff_append];refine ⟨by rw [HLE.out];exact decide_eq_true hll,List.range k,(List.range' (k+1) (i - k - 1)),?_,fun j hj=>?_⟩
        ·have hik:i=k+(1+(i - k - 1)):=by omega
         rw [hik,List.range_eq_range',List.range_eq_range',<-List.range'_append_1,<-List.range'_append_1];simp
        ·have:=HNo.out j (List.mem_range.1 hj);rw [this];rfl
       rw [hf])
      clear hll HSm HLE;go_wp2_with fail;refine wp_region_after (by kernel_rfl) (by kernel_rfl) ?_
      iterate 4 go_big_quiet_step (fail)
      refine wpQuiet_load_at rfl 45 (.tmp 29) rfl g (o+k*32) rfl Ak _ HRk.out underlying45 rfl HZk.out ?_;go_frame
      iterate 4 go_big_quiet_step (fail)
      refine wpQuiet_load_at rfl 45 (.tmp 34) rfl g (o+i*32) rfl Ai _ HRi2.out underlying45 rfl HZi.out ?_;go_frame
      iterate 2 go_big_quiet_step (fail)
      refine wpQuiet_load_row_g ?_ 31 (.tmp 4) rfl w.heap.size rfl 31 C (0,0) _ HBqr.out underlying31 rfl HCz.out ?_
      ·simp [Region.wanted,yielded]
      go_frame;go_big_quiet_step (fail);go_big_quiet_step (exact After.of (HLk _).out);refine wpQuiet_load_row_g ?_ 31 (.tmp 4) rfl w.heap.size rfl 31 C (0,0) _ HBqr.out underlying31 rfl HCz.out ?_
      ·simp [Region.wanted,yielded]
      go_frame;go_big_quiet_step (fail);go_big_quiet_step (exact After.of (HLi _).out)
      repeat (go_big_quiet_step (fail))
      refine wpQuiet_nil ?_;rintro _ ⟨y,rfl⟩;have HZ:=lh (HZ.out.trans y.x);clear q23 k23 heq;have hbr:=(HZ.out.block (ltB HB8.out)).trans HB8.out;have k0:=cellB (k:=0) hbr;have k1:=cellB (k:=1) hbr;have k2:=cellB (k:=2) hbr;have k3:=cellB (k:=3) hbr;have k4:=cellB (k:=4) hbr;have f0:=frozenB (k:=0) hbr;have f1:=frozenB (k:=1) hbr;have f2:=frozenB (k:=2) hbr;have f3:=frozenB (k:=3) hbr;have f4:=frozenB (k:=4) hbr;have HRR:=lh hbr;clear hbr;go_wp2_with fail;refine bodyPost_ret (results_cell_row rfl _ _ (w.heap.size+1) 128 #[.int .i64 i,.int .i64 3,.string ⟨#[]⟩,.int .i64 0,.int .i64 k] (0,0) _ rfl (by rw [setCellB (setCellB (setCellB (setCellB (setCellB HRR.out))))];rfl) underlying128 rfl (by kernel_rfl)) rfl ?_;exact ⟨by rw [HSR.out],(((((HX1.out.trans HZ.out).setCell (p:=⟨w.heap.size+1,0,none⟩) (Nat.le_succ _) _).setCell (p:=⟨w.heap.size+1,1,none⟩) (Nat.le_succ _) _).setCell (p:=⟨w.heap.size+1,2,none⟩) (Nat.le_succ _) _).setCell (p:=⟨w.heap.size+1,3,none⟩) (Nat.le_succ _) _).setCell (p:=⟨w.heap.size+1,4,none⟩) (Nat.le_succ _) _⟩
     ·have e5:((lk:Int)==(li:Int))=false:=by rw [beq_eq_false_iff_ne];omega
      have e6:(lk==li)=false:=by rw [beq_eq_false_iff_ne];exact hll
      have HNo2:=lh (show ∀ j,j<k+1->sameB N r.hs j i=false from fun j hj=>by
       rcases Nat.lt_or_eq_of_le (Nat.le_of_lt_succ hj) with h1 | h1
       ·exact HNo.out j h1
       ·rw [h1,HLE.out];exact decide_eq_false hll)
      clear hll HSm HLE;go_wp2_with fail;refine wp_region_after (by kernel_rfl) (by kernel_rfl) ?_
      iterate 4 go_big_quiet_step (fail)
      refine wpQuiet_load_at rfl 45 (.tmp 29) rfl g (o+k*32) rfl Ak _ HRk.out underlying45 rfl HZk.out ?_;go_frame
      iterate 4 go_big_quiet_step (fail)
      refine wpQuiet_load_at rfl 45 (.tmp 34) rfl g (o+i*32) rfl Ai _ HRi2.out underlying45 rfl HZi.out ?_;go_frame
      iterate 2 go_big_quiet_step (fail)
      refine wpQuiet_load_row_g ?_ 31 (.tmp 4) rfl w.heap.size rfl 31 C (0,0) _ HBqr.out underlying31 rfl HCz.out ?_
      ·simp [Region.wanted,yielded]
      go_frame;go_big_quiet_step (fail);go_big_quiet_step (exact After.of (HLk _).out);refine wpQuiet_load_row_g ?_ 31 (.tmp 4) rfl w.heap.size rfl 31 C (0,0) _ HBqr.out underlying31 rfl HCz.out ?_
      ·simp [Region.wanted,yielded]
      go_frame;go_big_quiet_step (fail);go_big_quiet_step (exact After.of (HLi _).out)
      repeat (go_big_quiet_step (fail))
      refine wpQuiet_nil ?_;rintro _ ⟨y,rfl⟩;have HZy:=lh (HZ.out.trans y.x);clear q23 k23 heq;go_wp2_with fail;go_roundw
      case rel=>exact ⟨k+1,by omega,by go_num,HZy.out,HNo2.out⟩
      case measure=>simp [intOf] <;> omega
   ·obtain rfl:k=i:=by omega
    have nlt:decide ((k:Int)<(k:Int))=false:=by simp
    have HSR:=lh (show S=.agg #[.int .i64 k,.int .i64 4,.string ⟨#[]⟩,.int .i64 0,.int .i64 0] from by
     rw [HS2.out]
     have hf:(List.range k).find? (fun j=>sameB N r.hs j k)=none:=by
      rw [List.find?_eq_none];intro j hj;rw [HNo.out j (List.mem_range.1 hj)];decide
     rw [hf])
    have HRi2:=lh (HRi.out wr (HX1.out.trans HZ.out));generalize hArr h 32=Ai at *;have HF1:=HFd Ai wr;clear HS2 HNo;go_wp2_with (refine wpList_load_at rfl 45 (.tmp 55) rfl g (o+k*32) rfl Ai _ HRi2.out underlying45 rfl HZi.out ?_;go_frame);refine HF1.out.mono ?_;rintro e w5 ⟨rfl,x5⟩;have HZ:=lh ((HZ.out.trans x5).alloc (.cells #[.string ⟨#[]⟩,.int .i64 0] 126));clear x5 HF1 k23;have hbr:=(HZ.out.block (ltB HB8.out)).trans HB8.out;have k0:=cellB (k:=0) hbr;have k1:=cellB (k:=1) hbr;have k2:=cellB (k:=2) hbr;have k3:=cellB (k:=3) hbr;have k4:=cellB (k:=4) hbr;have f0:=frozenB (k:=0) hbr;have f1:=frozenB (k:=1) hbr;have f2:=frozenB (k:=2) hbr;have f3:=frozenB (k:=3) hbr;have f4:=frozenB (k:=4) hbr;have HRR:=lh hbr;clear hbr;go_wp2_with fail;refine bodyPost_ret (results_cell_row rfl _ _ (w.heap.size+1) 128 #[.int .i64 k,.int .i64 4,.string ⟨#[]⟩,.int .i64 0,.int .i64 0] (0,0) _ rfl (by rw [setCellB (setCellB (setCellB (setCellB (setCellB HRR.out))))];rfl) underlying128 rfl (by kernel_rfl)) rfl ?_;exact ⟨by rw [HSR.out],(((((HX1.out.trans HZ.out).setCell (p:=⟨w.heap.size+1,0,none⟩) (Nat.le_succ _) _).setCell (p:=⟨w.heap.size+1,1,none⟩) (Nat.le_succ _) _).setCell (p:=⟨w.heap.size+1,2,none⟩) (Nat.le_succ _) _).setCell (p:=⟨w.heap.size+1,3,none⟩) (Nat.le_succ _) _).setCell (p:=⟨w.heap.size+1,4,none⟩) (Nat.le_succ _) _⟩
end
section
open Go.RowKit
def stepP (N:Nat) (hs:List (List UInt8)) (t:List UInt8) (i:Nat):Int×Int :=
 if rightB N hs i (placedL N t i) then (1,0)
 else match (List.range i).find? fun k=>sameB N hs k i with
  | some k=>(3,k)
  | none=>(4,0)
def stepL (N:Nat) (hs:List (List UInt8)) (t:List UInt8) (i:Nat):List Value:=[.int .i64 i,.int .i64 (stepP N hs t i).1,.string ⟨#[]⟩,.int .i64 0,.int .i64 (stepP N hs t i).2]
theorem stepV_eq (N:Nat) (hs:List (List UInt8)) (t:List UInt8) (i:Nat):stepV N hs t i=.agg #[.int .i64 i,.int .i64 (stepP N hs t i).1,.string ⟨#[]⟩,.int .i64 0,.int .i64 (stepP N hs t i).2]:=by
 unfold stepV stepP;split
 ·rfl
 ·split <;> simp [*]
def stepsL (N:Nat) (hs:List (List UInt8)) (t:List UInt8) (n:Nat):List Value:=(List.range n).flatMap fun i=>stepL N hs t i
theorem elStep:ElemK prog 121 128 (.agg #[.int .i64 0,.int .i64 0,.string ⟨#[]⟩,.int .i64 0,.int .i64 0]) 5 48:=⟨by kernel_rfl,by kernel_rfl,rfl,by decide,by decide⟩
theorem owns_low {w:World} {b b' k:Nat} {e:TypeId} {v:Value} {n:Nat} {xs:List Value} (h:w.ownsRow b e k v n xs) (hb:b'<=b):w.ownsRow b' e k v n xs:=by
 refine ⟨h.1,?_⟩;rcases h.2 with h1 | ⟨g,cap,cur,hv,hg,hr⟩
 ·exact .inl h1
 ·exact .inr ⟨g,cap,cur,hv,Nat.le_trans hb hg,hr⟩
def PlAt (w0:World) (N:Nat) (hs:List (List UInt8)) (t:List UInt8) (k:Nat) (v:Value) (wr:World):Prop :=
 wr.ownsRow (w0.heap.size+1) 128 5 v k (stepsL N hs t k)/\Ext w0 wr
set_option maxRecDepth 100000 in
set_option maxHeartbeats 2000000 in
theorem cplan_ok (r:RecS) (C:Array Value) (bl:Value) (N:Nat) (t:List UInt8) (v:Value) (w:World) (T:ShaTabs w) (hC:RecC C r bl) (hb:HashesAt w bl r.hs) (G:r.Good N) (hv:BytesOff w.heap.size w v t) :
  Calls prog 74 #[.agg C,.pointer none,v] w fun e w'=>∃ u,e=.returned (.tuple #[u,.int .i64 0])/\Hid (w'.ownsRow w.heap.size 128 5 u (countN N) (stepsL N r.hs t (countN N))/\Ext w w'):=by
 have HW:=fun w'=>lh (show Calls prog 145 #[.agg C] w' (fun e w''=>e=.returned (.int .i64 0)/\Ext w' w'') from by
  obtain ⟨a,cap,h,_⟩:=hb;rw [<-G.wanted]
  exact cwanted_any r C bl w' hC ⟨a,cap,h⟩ (by rw [G.size];omega) (by rw [G.size];have:=G.small;omega))
 have HSt:=fun wr (x:Ext w wr) (i:Nat) (hi:i<countN N)=>lh (cstep_any r C bl N i t v w.heap.size wr (T.ext x) hC (hb.ext x) G hi (bytesOff_any hv x (Nat.le_refl _)));have hcn:=G.count;have hc32:=count_le G.small;obtain ⟨a,cap,rfl,hb1,hb2,_⟩:=hb;have HB:=lh (block_alloc_new w (.cells C 31 (0,0)));have HX:=lh ((Ext.refl w).alloc (.cells C 31));have HCz:=lh (show (prog.info? 31).map (·.size)=some C.size from by rw [hC.n];kernel_rfl);have HC:=lh hC;rw [hcn] at hb1;have HC23:=lh (show C[23]?=some (.slice a (countN N) cap) from by rw [<-hcn];exact hC.c23);have HSS:=lh (show ∀ n,stepsL N r.hs t (n+1)=stepsL N r.hs t n++stepL N r.hs t n from fun n=>by simp [stepsL,List.range_succ]);generalize countN N=c at *;clear T hC hv G hcn;go_enter func74,ntmps74;go_wp2_with (refine wpList_load_row rfl 31 (.tmp 3) rfl w.heap.size rfl 31 C (0,0) _ HB.out underlying31 rfl HCz.out ?_;go_frame);refine (HW _).out.mono ?_;rintro e w1 ⟨rfl,x1⟩;have HX1:=lh (HX.out.trans x1);have HB1:=lh ((x1.block (ltB HB.out)).trans HB.out);have k23:w1.cell? ⟨w.heap.size,23,none⟩=some (.slice a c cap):=(cellB (k:=23) HB1.out).trans HC23.out;clear x1 HW;go_wp2_with fail;go_loopw [6,18] (fun lv iv wr=>Hid (∃ k:Nat,k<=c/\iv=.int .i64 k/\PlAt w N r.hs t k lv wr/\wr.heap[w.heap.size]?=some (.cells C 31 (0,0)))) (fun _ iv _=>c - (intOf iv).toNat)
 case atStart=>exact ⟨0,Nat.zero_le _,rfl,⟨World.ownsRow_nil _ _ _ _,HX1.out⟩,HB1.out⟩
 case round =>
  obtain ⟨k,hk,rfl,⟨ho,hx⟩,hB⟩:=hrel.out;clear hrel k23 HX1 HB1;have HX:=lh hx;have HO:=lh ho;have HBr:=lh hB;obtain ⟨oa,ocap,rfl⟩:=rowk_shape ho;by_cases hlt:k<c
  ·have HS:=HSt wr hx k hlt;have HR:=lh (show stepsL N r.hs t (k+1)=stepsL N r.hs t k++[.int .i64 k,.int .i64 (stepP N r.hs t k).1,.string ⟨#[]⟩,.int .i64 0,.int .i64 (stepP N r.hs t k).2] from HSS.out k);rw [stepV_eq] at HS;generalize (stepP N r.hs t k).1=p1 at *;generalize (stepP N r.hs t k).2=p2 at *;clear ho hx hB HSt;go_wp2_with (refine wpList_load_row rfl 31 (.tmp 3) rfl w.heap.size rfl 31 C (0,0) _ HBr.out underlying31 rfl HCz.out ?_;go_frame);refine HS.out.mono ?_;rintro e w3 ⟨rfl,x3⟩;have HX3:=lh (HX.out.trans x3);have HO3:=lh (owns_ext HO.out x3);have HB3:=lh ((x3.block (ltB HBr.out)).trans HBr.out);have hsz:=HX3.out.size;have hlb:=ltB HB3.out;clear x3 HS HO HX;go_wp2_with (at_builtin;refine append_k elStep (w.heap.size+1) _ _ _ (HO3.out.alloc _) w3.heap.size [.int .i64 k,.int .i64 p1,.string ⟨#[]⟩,.int .i64 0,.int .i64 p2] rfl (.tmp 21) (.tmp 27) rfl rfl rfl rfl ?c1 ?c2 (by omega) (by simp;omega) ?_)
   case c1 =>
    intro j y hj;rw [cell_alloc_new rfl,<-hj];simp
   case c2 =>
    intro y hy;simp only [List.mem_cons,List.not_mem_nil,or_false] at hy;rcases hy with rfl | rfl | rfl | rfl | rfl <;> rfl
   intro v' w4 hown4 hg4 hrow4;have HF:=lh (show PlAt w N r.hs t (k+1) v' w4 from ⟨by rw [HR.out];exact hown4,grown_extB (HX3.out.alloc _) (Nat.le_succ _) (HO3.out.alloc _) hg4⟩);have HB4:=lh (show w4.heap[w.heap.size]?=some (.cells C 31 (0,0)) from (hg4.block w.heap.size (by simp;omega) (fun e=>by have:=(HO3.out.lt _ e.symm).1;omega)).trans ((block_alloc_old hlb).trans HB3.out));clear hown4 hg4 hrow4;go_wp2_with fail;go_roundw
   case rel=>exact ⟨k+1,by omega,by go_num,HF.out,HB4.out⟩
   case measure=>simp [intOf] <;> omega
  ·obtain rfl:k=c:=by omega
   have nlt:decide ((k:Int)<(k:Int))=false:=by simp
   clear ho hx hB HSt;go_wp2_with fail;go_ret2;exact ⟨_,rfl,owns_low HO.out (Nat.le_succ _),HX.out⟩
set_option maxRecDepth 100000 in
set_option maxHeartbeats 2000000 in
theorem cplan_err (r:RecS) (C:Array Value) (bl:Value) (f v:Value) (w:World) (hC:RecC C r bl) (hb:∃ a cap,bl=.slice a r.hs.length cap) (hlo:-9223372036854775808<=r.size) (hhi:r.size<=9223372036854775807) (h0:r.wanted≠0) :
  Calls prog 74 #[.agg C,f,v] w fun e w'=>e=.returned (.tuple #[.slice none 0 0,.int .i64 r.wanted])/\Ext w w':=by
 have HW:=fun w'=>lh (cwanted_any r C bl w' hC hb hlo hhi);have HB:=lh (block_alloc_new w (.cells C 31 (0,0)));have HX:=lh ((Ext.refl w).alloc (.cells C 31));have HCz:=lh (show (prog.info? 31).map (·.size)=some C.size from by rw [hC.n];kernel_rfl);have d0:(r.wanted != 0)=true:=by rw [bne_iff_ne];exact h0
 have d1:(r.wanted==0)=false:=by rw [beq_eq_false_iff_ne];exact h0
 generalize r.wanted=W at *;clear hb hC h0;go_enter func74,ntmps74;go_wp2_with (refine wpList_load_row rfl 31 (.tmp 3) rfl w.heap.size rfl 31 C (0,0) _ HB.out underlying31 rfl HCz.out ?_;go_frame);refine (HW _).out.mono ?_;rintro e w1 ⟨rfl,x1⟩;have HX1:=lh (HX.out.trans x1);clear x1 HW;go_wp2_with fail;go_ret2;exact ⟨rfl,HX1.out⟩
end
section
open Go.RowKit
theorem cloneBytes_any (l:List UInt8) (b:Nat) (v:Value) (w:World) (hv:BytesOff b w v l) (h0:0<l.length) (hl:l.length<=1073741824) :
  Calls prog 80 #[v] w fun e w'=>∃ u,e=.returned u/\Hid (w'.ownsRow w.heap.size 5 1 u l.length (l.map bv)/\Ext w w'):=by
 obtain ⟨a,cap,rfl,h1,h2,h3⟩:=hv;obtain ⟨g,o,rfl,_,_,hc⟩:=h3 h0;obtain ⟨i0,hi,hz0,hz1,hz2⟩:=info_parts elU8.info;refine (AnyE.slices_Clone Tryz.cloneBytes i0 (.int .u8 0) 1 1 hi hz0 hz1 hz2 rfl (by decide) (fun w=>by kernel_rfl) g o l.length cap (l.map bv) w (by simp) (by unfold maxLen;omega) (by omega) (fun j u hj=>?_) (fun u hu=>?_)).mono ?_
 ·rw [List.getElem?_map] at hj;obtain ⟨x,hx,rfl⟩:=Option.map_eq_some_iff.1 hj;exact hc j x hx
 ·obtain ⟨x,_,rfl⟩:=List.mem_map.1 hu;rfl
 ·rintro e w' ⟨v',he,ho,_,hx⟩;exact ⟨v',he,ho,hx⟩
theorem hrow_len {hs:List (List UInt8)} (hf:∀ h∈hs,h.length=32):(hrow hs).length=hs.length*32:=by
 unfold hrow
 induction hs with
 | nil=>rfl
 | cons h r ih =>
  rw [List.flatMap_cons,List.length_append,ih fun x hx=>hf x (List.mem_cons_of_mem _ hx),List.length_map,hf h List.mem_cons_self,List.length_cons,Nat.succ_mul];omega
theorem hrow_get:∀ (hs:List (List UInt8)),(∀ h∈hs,h.length=32)->∀ (k j:Nat) h,hs[k]?=some h->j<32->(hrow hs)[k*32+j]?=(h.map bv)[j]?
 | [],_,k,j,x,h,_=>by simp at h
 | y::r,hf,0,j,x,h,hj=>by
  have hy:=hf y List.mem_cons_self;simp at h;subst h;unfold hrow;rw [List.flatMap_cons,List.getElem?_append_left (by rw [List.length_map,hy];omega)]
  congr 1;omega
 | y::r,hf,k+1,j,x,h,hj=>by
  have hy:=hf y List.mem_cons_self;have ih:=hrow_get r (fun x hx=>hf x (List.mem_cons_of_mem _ hx)) k j x (by simpa using h) hj;unfold hrow at ih ⊢;rw [List.flatMap_cons,List.getElem?_append_right (by rw [List.length_map,hy,Nat.succ_mul];omega),List.length_map,hy,show (k+1)*32+j - 32=k*32+j from by rw [Nat.succ_mul];omega];exact ih
theorem hrow_inv {hs:List (List UInt8)} (hf:∀ h∈hs,h.length=32) {j:Nat} {u:Value} (hj:(hrow hs)[j]?=some u):∃ h,hs[j / 32]?=some h/\(h.map bv)[j % 32]?=some u:=by
 have hl:=(List.getElem?_eq_some_iff.1 hj).1;rw [hrow_len hf] at hl;obtain ⟨h,hh⟩:∃ h,hs[j / 32]?=some h:=⟨_,List.getElem?_eq_getElem (by omega)⟩;refine ⟨h,hh,?_⟩;rw [<-hrow_get hs hf (j / 32) (j % 32) h hh (Nat.mod_lt _ (by decide)),show j / 32*32+j % 32=j from by omega];exact hj
theorem hashes_of_own {w:World} {base:Nat} {u:Value} {hs:List (List UInt8)} (h:w.ownsRow base 45 32 u hs.length (hrow hs)) (hf:∀ h∈hs,h.length=32) :
  HashesAt w u hs/\(∀ b o n c,u=.slice (some ⟨b,o,none⟩) n c->base<=b/\b<w.heap.size)/\(u=.slice none 0 0\/∃ g c,u=.slice (some ⟨g,0,none⟩) hs.length c):=by
 rcases h.2 with ⟨rfl,h0⟩ | ⟨g,cap,cur,rfl,hg,hh,hc,hm,_⟩
 ·have:hs=[]:=List.length_eq_zero_iff.1 h0;subst this;exact ⟨⟨none,0,rfl,Nat.le_refl _,by omega,fun i h hi=>by simp at hi⟩,fun b o n c he=>(by cases he),.inl rfl⟩
 ·refine ⟨⟨_,cap,rfl,hc,by unfold maxLen at hm;omega,fun i y hy=>⟨hf y (List.mem_of_getElem? hy),g,0,rfl,ltB hh,fun j v hj=>?_⟩⟩,fun b o n c he=>?_,.inr ⟨g,cap,rfl⟩⟩
  ·have hj32:j<32:=by have:=(List.getElem?_eq_some_iff.1 hj).1;rw [List.length_map,hf y (List.mem_of_getElem? hy)] at this;exact this
   have:=h.cells (g:=g) rfl (i*32+j) v (by rw [hrow_get hs hf i j y hy hj32];exact hj);rw [append_kw.add_off] at this;rw [Nat.add_assoc];exact this
  ·cases he;exact ⟨hg,ltB hh⟩
theorem cloneHashes_any (hs:List (List UInt8)) (bl:Value) (w:World) (hb:HashesAt w bl hs) (hl:hs.length<=1048576) (hsh:∃ a n c,bl=.slice a n c/\(a=none\/∃ g o,a=some ⟨g,o,none⟩)) :
  Calls prog 75 #[bl] w fun e w'=>∃ u,e=.returned u/\Hid (Ext w w'/\HashesAt w' u hs/\(∀ b o n c,u=.slice (some ⟨b,o,none⟩) n c->w.heap.size<=b/\b<w'.heap.size)/\(u=.slice none 0 0\/∃ g c,u=.slice (some ⟨g,0,none⟩) hs.length c)):=by
 obtain ⟨a,cap,rfl,h1,h2,h3⟩:=hb;obtain ⟨a',n',c',he,hsh⟩:=hsh
 cases he
 have hf:∀ h∈hs,h.length=32:=fun h hm=>by
  obtain ⟨i,hi⟩:=List.getElem?_of_mem hm;exact (h3 i h hi).1
 rcases hsh with rfl | ⟨g,o,rfl⟩
 ·have h0:hs=[]:=by
   rcases hs with _ | ⟨y,r⟩
   ·rfl
   ·obtain ⟨_,g,o,he,_⟩:=h3 0 y rfl;cases he
  subst h0;refine (AnyE.slices_Clone_nil Tryz.cloneHashes _ _ w).mono ?_;rintro e w' ⟨rfl,hw⟩;obtain rfl:=hw.symm;exact ⟨_,rfl,Ext.refl _,⟨none,0,rfl,Nat.le_refl _,by omega,fun i h hi=>by simp at hi⟩,fun b o n c he=>(by cases he),.inl rfl⟩
 ·obtain ⟨i0,hi,hz0,hz1,hz2⟩:=info_parts elHash.info;refine (AnyE.slices_Clone Tryz.cloneHashes i0 _ 32 32 hi hz0 hz1 hz2 elHash.cells (by decide) (fun w=>by kernel_rfl) g o hs.length cap (hrow hs) w (hrow_len hf) (by unfold maxLen;omega) (by omega) (fun j u hj=>?_) (fun u hu=>?_)).mono ?_
  ·obtain ⟨h,hh,hu⟩:=hrow_inv hf hj;obtain ⟨_,g',o',he,_,hr⟩:=h3 _ h hh
   cases he
   have:=hr _ u hu
   rwa [show o+j / 32*32+j % 32=o+j from by omega] at this
  ·unfold hrow at hu;obtain ⟨h,_,hm⟩:=List.mem_flatMap.1 hu;obtain ⟨x,_,rfl⟩:=List.mem_map.1 hm;rfl
  ·rintro e w' ⟨v',he,ho,_,hx⟩;exact ⟨v',he,hx,hashes_of_own ho hf⟩
theorem ownB_off {w:World} {base b:Nat} {v:Value} {l:List UInt8} (h:w.ownsRow base 5 1 v l.length (l.map bv)) (hb:w.heap.size<=b):BytesOff b w v l:=by
 rcases h.2 with ⟨rfl,h0⟩ | ⟨g,cap,cur,rfl,hg,hh,hc,hm,_⟩
 ·have:l=[]:=List.length_eq_zero_iff.1 h0;subst this;exact ⟨none,0,rfl,Nat.le_refl _,by unfold maxLen;omega,fun h=>by simp at h⟩
 ·have hlt:=ltB hh;refine ⟨_,cap,rfl,hc,hm,fun _=>⟨g,0,rfl,by omega,hlt,fun j x hj=>?_⟩⟩;have:=h.cells (g:=g) rfl j (bv x) (by rw [List.getElem?_map,hj];rfl);rw [append_kw.add_off] at this;exact this
set_option maxRecDepth 100000 in
set_option maxHeartbeats 1000000 in
theorem bPart_any (b:Nat) (l:List UInt8) (v:Value) (i:Nat) (w:World) (hv:BytesOff b w v l) (hl:l.length<=4096) (hi:i<countN l.length) :
  Calls prog 17 #[v,.int .i64 i] w fun e w'=>∃ u,e=.returned u/\Hid (w'.ownsRow w.heap.size 5 1 u (partL l i).length ((partL l i).map bv)/\Ext w w'):=by
 have HC:=lh (bcount_any (l.length:Int) w (by omega) (by omega));rw [show countZ (l.length:Int)=(countN l.length:Nat) from by unfold countZ;rw [if_neg (by omega)];simp] at HC;have HP:=lh (bpart_any b l v i w hv hl hi);have hlt:=(count_spec l.length i).1 hi;have hsp:=sizeN_spec l.length;have hpl:=part_len l i;have HCl:=fun u (h:BytesOff b w u (partL l i))=>lh (cloneBytes_any (partL l i) b u w h (by omega) (by omega));obtain ⟨a,cap,rfl,h1,h2,_⟩:=hv;unfold maxLen at h2;generalize partL l i=p at *;generalize countN l.length=c at *;generalize l.length=n at *;have d1:decide ((i:Int)<0)=false:=decide_eq_false (by omega);have d2:decide ((c:Int)<=(i:Int))=false:=decide_eq_false (by omega);have d3:decide (c<=i)=false:=decide_eq_false (by omega);clear hlt hsp hpl hl;go_enter func17,ntmps17;go_wp2_with fail;refine HC.out.mono ?_;rintro e w1 ⟨rfl,hw⟩;obtain rfl:=hw.symm;clear hw;go_wp2_with fail;refine HP.out.mono ?_;rintro e w2 ⟨hw,u,rfl,hu⟩;obtain rfl:=hw.symm;have HC2:=HCl u hu.out;clear hw hu HCl;go_wp2_with fail;refine HC2.out.mono ?_;rintro e w3 ⟨u3,rfl,h3⟩;have H3:=h3;clear h3;go_wp2_with fail;go_ret;exact ⟨_,rfl,H3.out⟩
end
section
open Go.RowKit Go.Shelf
attribute [local go_sem] Oper.semAt_some
theorem row_cells {w:World} {base m n:Nat} {e:TypeId} {v:Value} {xs:List Value} (h:w.ownsRow base e m v n xs):∃ (a:Option Addr) (cap:Nat),v=.slice a n cap/\n<=cap/\cap<=9223372036854775807/\(a=none->n=0/\cap=0)/\∀ (k:Nat) x,xs[k]?=some x->∃ g,a=some ⟨g,0,none⟩/\base<=g/\g<w.heap.size/\w.cell? ⟨g,k,none⟩=some x:=by
 rcases h.2 with ⟨rfl,rfl⟩ | ⟨g,cap,cur,rfl,hb,hh,h1,h2,h3,h4⟩
 ·refine ⟨none,0,rfl,by omega,by omega,fun _=>⟨rfl,rfl⟩,fun k x hx=>?_⟩;have h1:=(List.getElem?_eq_some_iff.1 hx).1;rw [h.1,Nat.zero_mul] at h1;omega
 ·refine ⟨_,cap,rfl,h1,h2,fun e=>(by cases e),fun k x hx=>⟨g,rfl,hb,ltB hh,?_⟩⟩;refine (cellB hh).trans ?_;rw [<-h4] at hx;rw [List.getElem?_take] at hx;split at hx
  ·rw [<-Array.getElem?_toList];exact hx
  ·cases hx
theorem wpQuiet_load_ag {P:Program} {ops:Array Oper} {C:World->Prop} {Q:Act->Prop} {a:Act} {o:Oper} {rest:List Oper} (hw:Region.wanted o (yielded ops a.tmps)=true) (ty:TypeId) (x:Operand) (ho:o.op=.load ty x)
  (b off:Nat) (hx:a.eval x=.pointer (some ⟨b,off,none⟩)) (cs:Array Value) (d:TypeDesc) (hc:∀ w,C w->w.rangeAt b off cs.toList)
  (hu:P.underlying ty=some d) (hd:d.isRow=true) (hi:(P.info? ty).map (·.size)=some cs.size)
  (h:wpQuiet P ops C Q rest (a.put o.dst (.agg cs))):wpQuiet P ops C Q (o::rest) a :=
 wpQuiet_step fun K hK=>by
  rw [if_pos hw];refine ⟨.agg cs,fun w hw=>?_,hK _ h⟩;unfold Oper.quietAt execOp;simp only [ho,hx,Instr.loadAt,Instr.sureAddr,Sem.run_bind,Sem.run_pure,Result.andThen_ok,run_loadVar_mid w b off ty cs.toList d (hc w hw) hu hd (by rw [hi];simp)];exact ⟨rfl,by simp⟩
section
variable {P:Program} {ops:Array Oper} {Q:Exit->Act->World->Prop} {md:Region.Mode} {S:World->Prop} {a:Act}
theorem wpAnyH_skip {o:Oper} {i:Nat} {fuel:Nat} {listed:Array Bool} {w w':World} {rest:List Oper} (hr:Region.ready md ops listed=[i]) (hi:ops.toList.drop i=o::rest) (hgd:o.guard=none) (hrun:(execOp a.eval o).run P w=.ok .skip w') (hS:S w')
  (h:wpAnyH P md ops Q S fuel (listed.setIfInBounds i true) (a.put o.dst undef) w'):wpAnyH P md ops Q S (fuel+1) listed a w :=
 wpAnyH_all hr (by simp) fun j hj=>by
  obtain rfl:=List.mem_singleton.1 hj;unfold wpOp;simp only [ops_get hi];rw [if_pos (by simp only [Region.wanted,hgd])];left;unfold Oper.wp;rw [hrun];exact ⟨hS,h⟩
theorem wpAnyH_call_or {i j:Nat} {oi oj:Oper} {ri rj:List Oper} {F:FuncId} {args:Array Value} {v:Value} {fuel:Nat} {listed:Array Bool} {w w2:World} (hr:Region.ready md ops listed=[i,j]) (hi:ops.toList.drop i=oi::ri) (hj:ops.toList.drop j=oj::rj) (gi:oi.guard=none) (gj:oj.guard=none)
  (hci:(execOp a.eval oi).run P w=.ok (.enter F args) w) (hcj:(execOp a.eval oj).run P w=.ok (.value v) w2) (hS2:S w2)
  (h1:Calls P F args w fun e w'=>∃ u,e=.returned u/\S w'/\wpAnyH P md ops Q S fuel (listed.setIfInBounds i true) (a.put oi.dst u) w')
  (h2:wpAnyH P md ops Q S fuel (listed.setIfInBounds j true) (a.put oj.dst v) w2):wpAnyH P md ops Q S (fuel+1) listed a w :=
 wpAnyH_all hr (by simp) fun k hk=>by
  rcases List.mem_cons.1 hk with rfl | hk
  ·unfold wpOp;simp only [ops_get hi];rw [if_pos (by simp only [Region.wanted,gi])];left;unfold Oper.wp;rw [hci];refine h1.mono ?_;rintro e w' ⟨u,rfl,hS,hh⟩;exact ⟨hS,hh⟩
  ·obtain rfl:=List.mem_singleton.1 hk;unfold wpOp;simp only [ops_get hj];rw [if_pos (by simp only [Region.wanted,gj])];left;unfold Oper.wp;rw [hcj];exact ⟨hS2,h2⟩
theorem run_storeOpT {o:Oper} {w:World} (ty:TypeId) (x y:Operand) (ho:o.op=.store ty x y) (g:Nat) (cells:Array Value) (hx:a.eval x=.pointer (some ⟨g,0,none⟩)) (hy:a.eval y=.agg cells)
  (t:TypeId) (old:Array Value) (hg:w.heap[g]?=some (.cells old t (0,0))) (hi:(P.info? ty).map (·.size)=some cells.size) (hold:old.size=cells.size) (h1:cells.all (·.oneCell')=true) :
  ∃ w1,(execOp a.eval o).run P w=.ok .skip w1/\w1.heap[g]?=some (.cells cells t (0,0))/\Touch g w w1:=by
 refine ⟨_,?_,setRow_heap _ _ _ _ _ _ hg,⟨rfl,rfl,rfl,by rw [setRow_size];exact Nat.le_refl _,fun i _ hne=>setRow_other _ _ _ _ fun e=>hne (by rw [e])⟩⟩;unfold execOp;simp only [ho,hx,hy,Instr.storeAt,Instr.sureAddr,Sem.run_bind,Sem.run_pure,Result.andThen_ok,run_storeVar_row w g t ty old cells hg hi hold h1]
end
theorem wpList_buildOne {P:Program} {ops:Array Oper} {rest:List Oper} {a:Act} {Q:Exit->Act->World->Prop} {w:World} {t e:TypeId} {z:Value} {k bytes:Nat} (el:ElemK P t e z k bytes) (hk:k<=1000) {o:Oper} (hg:o.guard=none) (x:Operand)
  (ho:o.op=.buildSlice t 1 #[(0,x)]) (C:Array Value) (hx:a.eval x=.agg C) (hC:C.size=k) (h:wpList P ops Q rest (a.put o.dst (.slice (some ⟨w.heap.size,0,none⟩) 1 1)) (w.alloc (.cells C e))):wpList P ops Q (o::rest) a w:=by
 obtain ⟨i,hi,hz,hs,_⟩:=info_parts el.info;have hp:=el.pos;refine wpList_buildSlice hg t e 1 #[(0,x)] ho C i z el.ut hi hz (by rw [hs];omega) (by rw [hs];omega) ?_ h;have h1:=Go.Great.fill_whole (s:=i.size) (by rw [hs];exact hp) [.agg C] ((Array.range (1*i.size)).map (z.cells[· % z.cells.size]!)) (fun v hv=>by rw [List.mem_singleton.1 hv,hs];exact hC) (by simp);have h2:((#[(0,x)]:Array (Nat×Operand)).map fun (i,x)=>(i,a.eval x)).toList=(([.agg C]:List Value).zipIdx 0).map fun x=>(x.2,x.1):=by simp [hx]
 rw [h2,h1];simp [Value.cells]
theorem run_allocOp {P:Program} {o:Oper} {a:Act} (t:TypeId) (ho:o.op=.alloc t) (w:World) (cells:Array Value) (ie:TypeInfo) (hi:P.info? t=some ie) (hz:ie.zero=some (.agg cells)):(execOp a.eval o).run P w=.ok (.value (.pointer (some ⟨w.heap.size,0,none⟩))) (w.alloc (.cells cells t)):=by
 unfold execOp;simp [ho,Instr.alloc,zeroValue,typeInfo,hi,hz,newVar,newRow,Value.cells]
theorem wpAnyH_storeT {P:Program} {ops:Array Oper} {Q:Exit->Act->World->Prop} {md:Region.Mode} {S:World->Prop} {a:Act} {o:Oper} {i:Nat} {fuel:Nat} {listed:Array Bool} {w:World} {rest:List Oper} (hr:Region.ready md ops listed=[i]) (hi:ops.toList.drop i=o::rest) (hgd:o.guard=none)
  (ty:TypeId) (x y:Operand) (ho:o.op=.store ty x y) (g:Nat) (cells:Array Value) (hx:a.eval x=.pointer (some ⟨g,0,none⟩)) (hy:a.eval y=.agg cells)
  (t:TypeId) (old:Array Value) (hg:w.heap[g]?=some (.cells old t (0,0))) (hif:(P.info? ty).map (·.size)=some cells.size) (hold:old.size=cells.size) (h1:cells.all (·.oneCell')=true)
  (h:∀ w1,w1.heap[g]?=some (.cells cells t (0,0))->Touch g w w1->S w1/\wpAnyH P md ops Q S fuel (listed.setIfInBounds i true) (a.put o.dst undef) w1):wpAnyH P md ops Q S (fuel+1) listed a w:=by
 obtain ⟨w1,h2,h3,h4⟩:=run_storeOpT (P:=P) (a:=a) (o:=o) ty x y ho g cells hx hy t old hg hif hold h1;obtain ⟨h5,h6⟩:=h w1 h3 h4;exact wpAnyH_skip hr hi hgd h2 h5 h6
section
variable {P:Program} {ops:Array Oper} {Q:Exit->Act->World->Prop} {md:Region.Mode} {S:World->Prop} {a:Act}
theorem run_buildOneOp {w:World} {t e:TypeId} {z:Value} {k bytes:Nat} (el:ElemK P t e z k bytes) (hk:k<=1000) {o:Oper} (x:Operand)
  (ho:o.op=.buildSlice t 1 #[(0,x)]) (C:Array Value) (hx:a.eval x=.agg C) (hC:C.size=k):(execOp a.eval o).run P w=.ok (.value (.slice (some ⟨w.heap.size,0,none⟩) 1 1)) (w.alloc (.cells C e)):=by
 obtain ⟨i,hi,hz,hs,_⟩:=info_parts el.info;have hp:=el.pos;have h1:=Go.Great.fill_whole (s:=i.size) (by rw [hs];exact hp) [.agg C] ((Array.range (1*i.size)).map (z.cells[· % z.cells.size]!)) (fun v hv=>by rw [List.mem_singleton.1 hv,hs];exact hC) (by simp);have h2:((#[(0,x)]:Array (Nat×Operand)).map fun (i,x)=>(i,a.eval x)).toList=(([.agg C]:List Value).zipIdx 0).map fun x=>(x.2,x.1):=by simp [hx]
 have hr:=run_buildSlice (P:=P) w t e 1 ((#[(0,x)]:Array (Nat×Operand)).map fun (i,x)=>(i,a.eval x)) C i z el.ut hi hz (by rw [hs];omega) (by rw [hs];omega) (by rw [h2,h1];simp [Value.cells]);unfold execOp;simp only [ho,Sem.run_bind,hr,Result.andThen_ok];rfl
theorem run_append_kwOp {o:Oper} {w:World} {t e:TypeId} {z:Value} {k bytes:Nat} (el:ElemK P t e z k bytes)
  (base:Nat) (v:Value) (n:Nat) (xs:List Value) (hown:w.ownsRow base e k v n xs) (g:Nat) (us:List Value) (hus:us.length=k) (s x:Operand)
  (ho:o.op=.call { callee:=.builtin .append,args:=#[s,x],argTypes:=#[t,t] })
  (hs:a.eval s=v) (hx:a.eval x=.slice (some ⟨g,0,none⟩) 1 1) (hnew:∀ (j:Nat) u,us[j]?=some u->w.cell? ⟨g,j,none⟩=some u) (h1:∀ u∈us,u.oneCell'=true) (hn:n<=68719476736) (hbase:base<=w.heap.size) :
  ∃ v' w',(execOp a.eval o).run P w=.ok (.value v') w'/\w'.ownsRow base e k v' (n+1) (xs++us)/\w.grownBy w' v.ownBlock/\(v'.ownBlock=v.ownBlock\/v'.ownBlock=some w.heap.size):=by
 obtain ⟨i,hi,hz,hsz,hby⟩:=info_parts el.info;have hf:=el.few
 have hnews:∀ j u,us[j]?=some u->w.cell? ((⟨g,0,none⟩:Addr).add j)=some u:=fun j u hj=>by
  rw [append_kw.add_off,Nat.zero_add];exact hnew j u hj
 have hm:n+1<=maxLen:=by unfold maxLen;omega
 have hb:(n+1)*bytes<=140737488355328:=by
  have:(n+1)*bytes<=(n+1)*1024:=Nat.mul_le_mul_left _ hf;omega
 obtain ⟨v',w',hr,h2,h3,_⟩:=run_append_own w base t o.type e i z k bytes el.ut hi hz hsz hby el.cells el.pos v n xs hown ⟨g,0,none⟩ 1 1 us (by omega) hnews h1 hm hb hbase;have hw:=append_where el.ut hi hz hsz hown (by omega) hnews h1 (by omega) hm (by rw [hby];exact hb) hr;refine ⟨v',w',?_,h2,h3,hw⟩;unfold execOp;simp only [ho,resolve,invoke,builtin,Sem.run_bind,Sem.run_pure,Result.andThen_ok,List.map_toArray,List.map_cons,List.map_nil,hs,hx,hr]
theorem HeadAt.append {o:Oper} {n f i:Nat} {listed:Array Bool} {w:World} {rest:List Oper} (hin:decide (i<n)=true) (hr:Region.ready .any ops listed=[i]) (hi:ops.toList.drop i=o::rest) (hw:Region.wanted o (yielded ops a.tmps)=true)
  {t e:TypeId} {z:Value} {k bytes:Nat} (el:ElemK P t e z k bytes)
  (base:Nat) (v:Value) (m:Nat) (xs:List Value) (hown:w.ownsRow base e k v m xs) (g:Nat) (us:List Value) (hus:us.length=k) (s x:Operand)
  (ho:o.op=.call { callee:=.builtin .append,args:=#[s,x],argTypes:=#[t,t] })
  (hs:a.eval s=v) (hx:a.eval x=.slice (some ⟨g,0,none⟩) 1 1) (hnew:∀ (j:Nat) u,us[j]?=some u->w.cell? ⟨g,j,none⟩=some u) (h1:∀ u∈us,u.oneCell'=true) (hn:m<=68719476736) (hbase:base<=w.heap.size)
  (h:∀ v' w',w'.ownsRow base e k v' (m+1) (xs++us)->w.grownBy w' v.ownBlock->(v'.ownBlock=v.ownBlock\/v'.ownBlock=some w.heap.size)->S w'/\HeadAt P ops Q S n f (listed.setIfInBounds i true) (a.put o.dst v') w'):HeadAt P ops Q S n (f+1) listed a w:=by
 obtain ⟨v',w',hrun,h2,h3,h4⟩:=run_append_kwOp (a:=a) el base v m xs hown g us hus s x ho hs hx hnew h1 hn hbase;obtain ⟨h5,h6⟩:=h v' w' h2 h3 h4;exact HeadAt.one hin hr hi hw hrun h5 h6
theorem yieldsIf_lookup {o:Oper} (hgd:o.guard=none) (t:TypeId) (m k:Operand) (ho:o.op=.lookup t m k false) {vm vk v:Value} (h1:a.eval m=vm) (h2:a.eval k=vk)
  (hr:∀ w,S w->(Instr.lookup t vm vk false).run P w=.ok v w):YieldsIf P ops S o v a :=
 .inl ⟨by simp only [Region.wanted,hgd],fun w hw=>by
  subst h1;subst h2;unfold execOp
  simp only [ho,Sem.run_bind,Sem.run_pure,hr w hw,Result.andThen_ok]⟩
theorem yieldsIf_load1 {o:Oper} (hgd:o.guard=none) (ty:TypeId) (x:Operand) (ho:o.op=.load ty x) {v:Value} (hr:∀ w,S w->(Instr.loadAt ty (a.eval x)).run P w=.ok v w):YieldsIf P ops S o v a :=
 .inl ⟨by simp only [Region.wanted,hgd],fun w hw=>by
  unfold execOp
  simp only [ho,Sem.run_bind,Sem.run_pure,hr w hw,Result.andThen_ok]⟩
theorem yieldsIf_cell {o:Oper} (hgd:o.guard=none) (ty:TypeId) (x:Operand) (ho:o.op=.load ty x) (g i:Nat) (hx:a.eval x=.pointer (some ⟨g,i,none⟩)) {v:Value} (hag:∀ w,(isAgg ty).run P w=.ok false w) (hc:∀ w,S w->w.cell? ⟨g,i,none⟩=some v):YieldsIf P ops S o v a :=
 yieldsIf_load1 hgd ty x ho fun w hw=>by
  have hl:(load ⟨g,i,none⟩).run P w=.ok v w:=by simp [hc w hw]
  simp only [hx,Instr.loadAt,Instr.sureAddr,Sem.run_bind,Sem.run_pure,Result.andThen_ok,loadVar,hag,hl,Bool.false_eq_true,if_false]
end
section
variable {P:Program} {ops:Array Oper} {Q:Exit->Act->World->Prop} {md:Region.Mode} {S:World->Prop} {a:Act}
end
theorem owns_touch2 {w w':World} {base g k n:Nat} {e:TypeId} {v:Value} {xs:List Value} (h:w.ownsRow base e k v n xs) (x:Touch g w w') (hg:g<base):w'.ownsRow base e k v n xs:=by
 refine ⟨h.1,?_⟩;rcases h.2 with h1 | ⟨b,cap,cur,hv,hb,hh,hr⟩
 ·exact .inl h1
 ·exact .inr ⟨b,cap,cur,hv,hb,(x.block b (ltB hh) (fun e=>by have:=Option.some.inj e;omega)).trans hh,hr⟩
theorem owns_down {w:World} {base base' k n:Nat} {e:TypeId} {v:Value} {xs:List Value} (h:w.ownsRow base e k v n xs) (hb:base'<=base):w.ownsRow base' e k v n xs :=
 ⟨h.1,h.2.elim .inl fun ⟨g,cap,cur,hv,hg,hh,hr⟩=>.inr ⟨g,cap,cur,hv,Nat.le_trans hb hg,hh,hr⟩⟩
theorem run_addOp {o:Oper} {a:Act} {w w':World} {T:TypeId} {s x:Operand} {vs vx v':Value} (ho:o.op=.call { callee:=.builtin .append,args:=#[s,x],argTypes:=#[T,T] }) (hs:a.eval s=vs) (hx:a.eval x=vx)
  (hr:(Builtin.append_ #[T,T] o.type #[vs,vx]).run prog w=.ok v' w'):(execOp a.eval o).run prog w=.ok (.value v') w':=by
 unfold execOp;simp only [ho,resolve,invoke,builtin,Sem.run_bind,Sem.run_pure,Result.andThen_ok,List.map_toArray,List.map_cons,List.map_nil,hs,hx,hr]
theorem wpList_run {P:Program} {ops:Array Oper} {rest:List Oper} {o:Oper} {a:Act} {Q:Exit->Act->World->Prop} {w w':World} {v:Value} (hgd:o.guard=none) (hr:(execOp a.eval o).run P w=.ok (.value v) w') (h:wpList P ops Q rest (a.put o.dst v) w'):wpList P ops Q (o::rest) a w :=
 wpList_plain hgd fun K hK=>by
  have h2:=hK _ _ h;unfold Oper.wp;rw [hr];exact h2
end
section
open Go.RowKit Go.Shelf
attribute [local go_sem] Oper.semAt_some
theorem wpList_store1 {P:Program} {ops:Array Oper} {rest:List Oper} {o:Oper} {a:Act} {Q:Exit->Act->World->Prop} {w:World} (hgd:o.guard=none) (ty:TypeId) (x y:Operand) (ho:o.op=.store ty x y)
  (g k:Nat) (v:Value) (hx:a.eval x=.pointer (some ⟨g,k,none⟩)) (hy:a.eval y=v) (hi:(P.info? ty).map (·.size)=some 1) (h1:v.oneCell'=true)
  (cs:Array Value) (t:TypeId) (hg:w.heap[g]?=some (.cells cs t (0,0))) (hk:k<cs.size)
  (h:∀ w1,w1=w.setCell ⟨g,k,none⟩ v->wpList P ops Q rest (a.put o.dst undef) w1):wpList P ops Q (o::rest) a w:=by
 refine wpList_plain hgd fun K hK=>?_;have h2:=hK _ _ (h _ rfl)
 cases hq:P.info? ty with
 | none=>simp [hq] at hi
 | some i =>
  have hs:i.size=1:=by simpa [hq] using hi
  have hc:w.cell? ⟨g,k,none⟩=some cs[k]:=(cellB hg).trans (Array.getElem?_eq_getElem hk);unfold Oper.wp execOp;simp only [ho,hx,hy,Instr.storeAt,Instr.sureAddr,Sem.run_bind,Sem.run_pure,Result.andThen_ok,Lib.rl_storeVar_one ty i hq hs ⟨g,k,none⟩ v cs[k] h1 w hc (frozenB hg)];exact h2
theorem wpList_storeB {P:Program} {ops:Array Oper} {rest:List Oper} {o:Oper} {a:Act} {Q:Exit->Act->World->Prop} {w:World} (hgd:o.guard=none) (ty:TypeId) (x y:Operand) (ho:o.op=.store ty x y)
  (g:Nat) (v u:Value) (hx:a.eval x=.pointer (some ⟨g,0,none⟩)) (hy:a.eval y=v) (hi:(P.info? ty).map (·.size)=some 1) (h1:v.oneCell'=true)
  (t:TypeId) (hg:w.heap[g]?=some (.cells #[u] t (0,0)))
  (h:∀ w1,w1.heap[g]?=some (.cells #[v] t (0,0))->Touch g w w1->wpList P ops Q rest (a.put o.dst undef) w1):wpList P ops Q (o::rest) a w:=by
 refine wpList_store1 hgd ty x y ho g 0 v hx hy hi h1 #[u] t hg Nat.zero_lt_one fun w1 e=>h w1 ?_ ?_
 ·rw [e,setCellB hg];rfl
 ·rw [e];exact ⟨rfl,rfl,rfl,by unfold World.setCell;simp,fun i _ hne=>setCellO fun e=>hne (by rw [e])⟩
end
section
open Go.RowKit
set_option maxHeartbeats 1000000 in
theorem rlist05_long (l:List UInt8) (v:Value) (b:Nat) (w:World) (hv:BytesOff b w v l) (hl:4096<l.length) :
  Calls prog 172 #[v] w fun e w'=>e=.returned (.tuple #[.slice none 0 0,.int .i64 3])/\w'=w:=by
 obtain ⟨a,cap,rfl,h1,h2,h3⟩:=hv;unfold maxLen at h2;generalize l.length=n at *;clear h3;have d0:decide (4096<(n:Int))=true:=decide_eq_true (by omega);go_enter func172,ntmps172;go_wp2_with fail;go_ret2;exact ⟨rfl,rfl⟩
set_option maxHeartbeats 1000000 in
theorem blist_long (l:List UInt8) (v:Value) (b:Nat) (w:World) (hv:BytesOff b w v l) (hl:4096<l.length) :
  Calls prog 23 #[v] w fun e w'=>e=.returned (.tuple #[.slice none 0 0,.int .i64 3])/\w'=w:=by
 obtain ⟨a,cap,rfl,h1,h2,h3⟩:=hv;unfold maxLen at h2;generalize l.length=n at *;go_enter func23,ntmps23;go_wp2_with fail;go_ret2;exact ⟨rfl,rfl⟩
end
end Go.Proofs.YtldppmjjgljinaaGreatDoor
