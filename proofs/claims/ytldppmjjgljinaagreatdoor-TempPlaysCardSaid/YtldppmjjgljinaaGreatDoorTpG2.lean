import Derived.Test.YtldppmjjgljinaaGreatDoorTpG1
import Derived.Test.YtldppmjjgljinaaGreatDoorTpB1
open Go.Proofs.Tryz
namespace Go.Proofs.YtldppmjjgljinaaGreatDoor
open Go.RowKit
theorem rturned_ok (x:Wd) (n:Int) (w:World) (hn:rotOk n=true) :
  Calls prog 217 #[.int .u32 x.toNat,.int .i64 n] w fun e w'=>e=.returned (.int .u32 (rotr x n.toNat).toNat)/\w'=w:=by
 have h:1<=n/\n<=31:=by
  have:n=2\/n=6\/n=7\/n=11\/n=13\/n=17\/n=18\/n=19\/n=22\/n=25:=by simpa [rotOk] using hn
  omega
 have:=rturned_any x n.toNat (by omega) (by omega) w
 rwa [show ((n.toNat:Nat):Int)=n from by omega] at this
def kV (i:Nat):List Value:=(kTab.take i).map fun (x:Nat)=>Value.int .u32 x
def sV (i:Nat):List Value:=(first8.list.take i).map wv
theorem kTab_len:kTab.length=64:=by decide
theorem CellsAt.some {w:World} {v:Value} {xs:List Value} (h:CellsAt w v xs) (n:Nat) (hn:xs.length=n) (h0:0<n):∃ g cap,v=.slice (some ⟨g,0,none⟩) n cap/\n<=cap/\cap<=maxLen/\g<w.heap.size/\∀ (j:Nat) u,xs[j]?=some u->w.cell? ⟨g,j,none⟩=some u:=by
 subst hn;rcases h with ⟨_,h2⟩ | ⟨g,cap,h1,h2,h3,h4,h5⟩
 ·subst h2;simp at h0
 ·exact ⟨g,cap,h1,h3,h4,h2,h5⟩
theorem kV_step (i:Nat) (h:i<64):∃ p,primes64[i]?=some p/\p<=400/\kV (i+1)=kV i++[.int .u32 (cubeN p % 4294967296:Nat)]:=by
 have hl:primes64.length=64:=primes_all;obtain ⟨p,hp⟩:∃ p,primes64[i]?=some p:=⟨_,List.getElem?_eq_getElem (by omega)⟩;refine ⟨p,hp,primes_le p (List.mem_of_getElem? hp),?_⟩;have:kTab[i]?=some (cubeN p % 4294967296):=by rw [<-table_cube,List.getElem?_map,hp];rfl
 unfold kV;rw [List.take_add_one,this,List.map_append];rfl
theorem sV_step (i:Nat) (h:i<8):∃ p,primes64[i]?=some p/\p<=400/\sV (i+1)=sV i++[.int .u32 (squareN p % 4294967296:Nat)]:=by
 have hl:primes64.length=64:=primes_all;obtain ⟨p,hp⟩:∃ p,primes64[i]?=some p:=⟨_,List.getElem?_eq_getElem (by omega)⟩;refine ⟨p,hp,primes_le p (List.mem_of_getElem? hp),?_⟩;obtain ⟨x,hx⟩:∃ x,first8.list[i]?=some x:=⟨_,List.getElem?_eq_getElem (by exact h)⟩
 have h2:(first8.list.map BitVec.toNat)[i]?=some (squareN p % 4294967296):=by
  rw [<-table_square,List.getElem?_map,List.getElem?_take,if_pos h,hp];rfl
 rw [List.getElem?_map,hx] at h2;have h3:x.toNat=squareN p % 4294967296:=Option.some.inj h2;unfold sV;rw [List.take_add_one,hx,List.map_append];simp [wv,h3]
theorem xq_eq (e f g h kk ww:Wd):(((h.toNat:Int)+bits BinOp.xor IntKind.u32 (bits BinOp.xor IntKind.u32 ((rotr e 6).toNat:Int) (rotr e 11).toNat) (rotr e 25).toNat+bits BinOp.xor IntKind.u32 (bits BinOp.and IntKind.u32 (e.toNat:Int) f.toNat) (bits BinOp.and IntKind.u32 (bits BinOp.xor IntKind.u32 (e.toNat:Int) 4294967295) g.toNat)+kk.toNat) % 4294967296+ww.toNat) % 4294967296=((h+big1 e+chw e f g+kk+ww).toNat:Int):=by
 rw [show bits BinOp.xor IntKind.u32 (e.toNat:Int) 4294967295=((~~~e).toNat:Int) from by
  rw [show (4294967295:Int)=(((BitVec.allOnes 32:Wd).toNat:Nat):Int) from by decide,wd_xor,BitVec.xor_allOnes]]
 rw [wd_xor,wd_xor,wd_and,wd_and,wd_xor];unfold big1 chw;rw [BitVec.toNat_add,BitVec.toNat_add,BitVec.toNat_add,BitVec.toNat_add];omega
def stR (l:List Wd) (rest:List Value):Array Value:=(l.map wv++rest).toArray
theorem stR_word (l:List Wd) (rest:List Value) (k:Nat) (x:Wd) (h:l[k]?=some x):(stR l rest)[k]?=some (.int .u32 x.toNat):=by
 have hk:k<l.length:=(List.getElem?_eq_some_iff.1 h).1;unfold stR;rw [List.getElem?_toArray,List.getElem?_append_left (by simpa using hk),List.getElem?_map,h];rfl
theorem stR_set (l:List Wd) (rest:List Value) (k:Nat) (x:Wd) (h:k<l.length):(stR l rest).setIfInBounds k (wv x)=stR (l.set k x) rest:=by
 unfold stR;rw [List.setIfInBounds_toArray,List.set_append_left _ _ (by simpa using h),List.map_set]
theorem stR_obj (l:List Wd) (rest:List Value) (k:Nat) (x:Wd) (h:k<l.length):Obj.cells ((stR l rest).setIfInBounds k (wv x)) 26 (0,0)=Obj.cells (stR (l.set k x) rest) 26 (0,0):=by rw [stR_set _ _ _ _ h]
theorem stR_of {cur:Array Value} {l:List Wd} (h:cur.toList.take 8=l.map wv):cur=stR l (cur.toList.drop 8):=by
 unfold stR;rw [<-h,List.take_append_drop]
def vPart (s:V8) (i:Nat):Array Value:=((s.list.take i).map wv++List.replicate (8 - i) (Value.int .u32 0)).toArray
theorem vPart_set (s:V8) (i:Nat) (x:Wd) (h:s.list[i]?=some x):(vPart s i).setIfInBounds i (wv x)=vPart s (i+1):=by
 have hi:i<8:=(List.getElem?_eq_some_iff.1 h).1;have:i=0\/i=1\/i=2\/i=3\/i=4\/i=5\/i=6\/i=7:=by omega
 rcases this with rfl | rfl | rfl | rfl | rfl | rfl | rfl | rfl <;> (injection h with h;subst h;rfl)
theorem vPart_size (s:V8) (i:Nat) (h:i<=8):(vPart s i).size=8:=by
 simp [vPart,V8.list];omega
def vShift (V:V8) (k:Nat):Array Value:=((V.list.take (k+1)++(V.list.drop k).take (7 - k)).map wv).toArray
theorem vShift_set (V:V8) (k:Nat) (h:k<7):∃ x,V.list[k]?=some x/\(vShift V (k+1))[k]?=some (wv x)/\(vShift V (k+1)).setIfInBounds (k+1) (wv x)=vShift V k:=by
 have:k=0\/k=1\/k=2\/k=3\/k=4\/k=5\/k=6:=by omega
 rcases this with rfl | rfl | rfl | rfl | rfl | rfl | rfl <;> exact ⟨_,rfl,rfl,rfl⟩
theorem kV_at (t:Nat) (h:t<64):(kV 64)[t]?=some (.int .u32 (kAt t).toNat):=by
 have hl:∀ x∈kTab,x<4294967296:=by decide
 obtain ⟨x,hx⟩:∃ x,kTab[t]?=some x:=⟨_,List.getElem?_eq_getElem (by rw [kTab_len];exact h)⟩;unfold kV kAt;rw [List.take_of_length_le (by rw [kTab_len];exact Nat.le_refl _),List.getElem?_map,hx,List.getD_eq_getElem?_getD,hx];have:=hl x (List.mem_of_getElem? hx);simp only [Option.map_some,Option.getD_some,BitVec.toNat_ofNat];rw [Nat.mod_eq_of_lt this]
set_option maxHeartbeats 4000000 in
set_option maxRecDepth 100000 in
theorem rsum_any (b:List UInt8) (v:Value) (w:World) (hv:BytesOff w.heap.size w v b) (hz:∀ cap,v=.slice none 0 cap->cap=0) (hm:b.length<=1048576) :
  Calls prog 174 #[v] w fun e w'=>e=.returned (hashV (shaL b))/\Ext w w':=by
 have HV:=lh hv;have HPR:=fun w=>lh (rprimes_any w);have HCU:=fun p h w=>lh (rcube_any p h w);have HSQ:=fun p h w=>lh (rsquare_any p h w);have HKS:=fun i h=>lh (kV_step i h);have HSS:=fun i h=>lh (sV_step i h);have HPA:=fun w h=>lh (rpadded_any b v w h hz hm);clear hv;go_enter func174,ntmps174;go_wp2_with fail;refine (HPR _).out.mono ?_;rintro e w1 ⟨pv,rfl,hpc,hx1⟩;obtain ⟨gp,capp,rfl,_,_,hgp,hpcell⟩:=hpc.some 64 (by rw [List.length_map];exact primes_all) (by decide);have HPC:=lh hpcell;have HX1:=lh (((Ext.refl w).alloc _).trans hx1);have HB0:=lh (show w1.heap[w.heap.size]?=some (.cells (hArr [] 0) 45 (0,0)) from (hx1.block (by simp)).trans (heap_alloc_new w _));clear hpc hx1 hpcell;go_wp2_with fail;go_loopw [5,6] (fun kv iv wr=>Hid (∃ i:Nat,i<=64/\iv=.int .i64 i/\wr.ownsRow w1.heap.size 26 1 kv i (kV i)/\Ext w1 wr)) (fun _ iv _=>64 - (intOf iv).toNat)
 case atStart=>exact ⟨0,by omega,rfl,World.ownsRow_nil _ _ _ _,Ext.refl _⟩
 case round =>
  obtain ⟨i,hi,rfl,ho,hx⟩:=hrel.out;clear hrel;have HX:=lh hx;have HO:=lh ho;have hs:=hx.size;by_cases hlt:i<64
  ·obtain ⟨a0,cap0,rfl⟩:=owns_slice ho;clear ho hx;obtain ⟨p,hp,hp4,hst⟩:=(HKS i hlt).out;have HST:=lh hst
   have hc:wr.cell? ⟨gp,i,none⟩=some (.int .u64 p):=by
    have h9:w1.cell? ⟨gp,i,none⟩=some (.int .u64 p):=HPC.out i _ (by rw [List.getElem?_map,hp];rfl);exact (HX.out.cell (lt_of_cell h9)).trans h9
   obtain ⟨q,hq⟩:∃ q,q=cubeN p % 4294967296:=⟨_,rfl⟩;have HC:=lh (HCU p hp4 wr).out;rw [<-hq] at HST HC;clear hst hp hq;go_wp2_with fail;refine HC.out.mono ?_;rintro e w2 ⟨rfl,rfl⟩;go_wp2_with (at_builtin;refine append_one elU32 w1.heap.size _ _ _ (HO.out.alloc _) w2.heap.size (.int .u32 q) (.tmp 32) (.tmp 34) rfl rfl rfl rfl ?c1 rfl (by omega) ?c2 ?_)
   case c1=>rw [cell_alloc_new rfl];rfl
   case c2=>simp;omega
   intro v' w3 hown3 hg3 _;have HX3:=lh (ext_own (HX.out.alloc _) (Nat.le_refl _) (HO.out.alloc _) hg3);go_wp2_with fail;go_roundw
   case rel=>exact ⟨i+1,by omega,by go_num,by rw [HST.out];exact hown3,HX3.out⟩
   case measure=>simp [intOf];omega
  ·have e64:i=64:=by omega
   have ho64:wr.ownsRow w1.heap.size 26 1 u5 64 (kV 64):=e64▸ho;obtain ⟨gk,capk,rfl,_,_,hgk,_,hkcell⟩:=owns_cell ho64 (by decide);have HKC:=lh hkcell;have HI:=lh e64;obtain ⟨wa,rfl⟩:∃ x,x=wr:=⟨_,rfl⟩;have HXA:=lh (HX1.out.trans HX.out);have d64:decide ((i:Int)<64)=false:=by simp;omega
   clear ho hx ho64 hkcell e64 HO;go_wp2_with fail;go_loopw [4,8] (fun sv iv wr=>Hid (∃ i:Nat,i<=8/\iv=.int .i64 i/\wr.ownsRow wa.heap.size 26 1 sv i (sV i)/\Ext wa wr)) (fun _ iv _=>8 - (intOf iv).toNat)
   case atStart=>exact ⟨0,by omega,rfl,World.ownsRow_nil _ _ _ _,Ext.refl _⟩
   case round =>
    obtain ⟨i2,hi2,rfl,ho,hx⟩:=hrel.out;clear hrel;have HX2:=lh hx;have HO:=lh ho;have hs:=hx.size;by_cases hlt2:i2<8
    ·obtain ⟨a0,cap0,rfl⟩:=owns_slice ho;clear ho hx;obtain ⟨p,hp,hp4,hst⟩:=(HSS i2 hlt2).out;have HST:=lh hst
     have hc:wr.cell? ⟨gp,i2,none⟩=some (.int .u64 p):=by
      have h9:w1.cell? ⟨gp,i2,none⟩=some (.int .u64 p):=HPC.out i2 _ (by rw [List.getElem?_map,hp];rfl);exact ((HX.out.trans HX2.out).cell (lt_of_cell h9)).trans h9
     obtain ⟨q,hq⟩:∃ q,q=squareN p % 4294967296:=⟨_,rfl⟩;have HC:=lh (HSQ p hp4 wr).out;rw [<-hq] at HST HC;clear hst hp hq;go_wp2_with fail;refine HC.out.mono ?_;rintro e w2 ⟨rfl,rfl⟩;go_wp2_with (at_builtin;refine append_one elU32 wa.heap.size _ _ _ (HO.out.alloc _) w2.heap.size (.int .u32 q) (.tmp 45) (.tmp 47) rfl rfl rfl rfl ?c1 rfl (by omega) ?c2 ?_)
     case c1=>rw [cell_alloc_new rfl];rfl
     case c2=>simp;omega
     intro v' w3 hown3 hg3 _;have HX3:=lh (ext_own (HX2.out.alloc _) (Nat.le_refl _) (HO.out.alloc _) hg3);go_wp2_with fail;go_roundw
     case rel=>exact ⟨i2+1,by omega,by go_num,by rw [HST.out];exact hown3,HX3.out⟩
     case measure=>simp [intOf];omega
    ·have e8:i2=8:=by omega
     have ho8:wr.ownsRow wa.heap.size 26 1 u4 8 (sV 8):=e8▸ho
     obtain ⟨gs,caps,cur,rfl,hgs1,hgs2,hcap1,hcap2,hcs,htk⟩:∃ g cap cur,u4=.slice (some ⟨g,0,none⟩) 8 cap/\wa.heap.size<=g/\wr.heap[g]?=some (.cells cur 26 (0,0))/\8<=cap/\cap<=maxLen/\cur.size=cap*1/\cur.toList.take (8*1)=sV 8:=by
      rcases ho8.2 with ⟨_,h⟩ | h
      ·omega
      ·exact h
     obtain ⟨wb,rfl⟩:∃ x,x=wr:=⟨_,rfl⟩;have d8:decide ((i2:Int)<8)=false:=by simp;omega
     have HGS:=lh hgs2;have HTK:=lh (show cur.toList.take 8=(first8.list).map wv from htk);have HXB:=lh (HXA.out.trans HX2.out);have HKB:=lh (fun (j:Nat) u (h:(kV 64)[j]?=some u)=>show wb.cell? ⟨gk,j,none⟩=some u from (HX2.out.cell hgk).trans (HKC.out j u h));have HB1:=lh (((HX.out.trans HX2.out).block (ltB HB0.out)).trans HB0.out);have HE8:=lh e8;clear ho hx ho8 hgs2 htk e8 HO;go_wp2_with fail;refine (HPA wb (bytesOff_any HV.out HXB.out HXB.out.size)).out.mono ?_;rintro e wc ⟨qv,rfl,hqc,hxc⟩;obtain ⟨W,hW⟩:∃ W,W=padded b:=⟨_,rfl⟩;obtain ⟨hw1,hw2,hw3⟩:=padded_len b;have hsha:shaL b=((digN W (W.length / 64)).list.map outB).flatten:=by rw [hW];rfl
     rw [<-hW] at hqc hw1 hw2 hw3;obtain ⟨nb,hnb⟩:∃ nb,nb=W.length / 64:=⟨_,rfl⟩;have hWl:W.length=64*nb:=by omega
     obtain ⟨gq,capq,rfl,hq1,hq2,hgq,hqcell⟩:=hqc.some (64*nb) (by rw [List.length_map];exact hWl) (by omega);rw [<-hnb] at hsha;have HSHA:=lh hsha;have hnb2:nb<=16386:=by omega
     have hnb1:0<nb:=by omega
     have HWL:=lh hWl;have HWC:=lh hqcell;have HSC:=lh ((hxc.block (ltB HGS.out)).trans HGS.out);have HXC:=lh (HXB.out.trans hxc)
     have hgsq:gq≠gs:=by
      intro e;subst e;obtain ⟨x,hx⟩:∃ x,W[0]?=some x:=⟨_,List.getElem?_eq_getElem (by omega)⟩;have h1:=hqcell 0 (bv x) (by rw [List.getElem?_map,hx];rfl);have h2:=(cellB (k:=0) HSC.out).symm.trans h1;have h3:=congrArg (fun l=>l[0]?) HTK.out;rw [List.getElem?_take,if_pos (by decide),Array.getElem?_toList,h2] at h3
      cases h3
     have hgsk:gk≠gs:=by omega
     have HKC2:=lh (fun (j:Nat) u (h:(kV 64)[j]?=some u)=>show wc.cell? ⟨gk,j,none⟩=some u from (hxc.cell (lt_of_cell (HKB.out j u h))).trans (HKB.out j u h));have HB2:=lh ((hxc.block (ltB HB1.out)).trans HB1.out);obtain ⟨rest,hrest⟩:∃ r,r=cur.toList.drop 8:=⟨_,rfl⟩;have HS0:=lh (show wc.heap[gs]?=some (.cells (stR (digN W 0).list rest) 26 (0,0)) from by rw [HSC.out,hrest];exact congrArg (fun a=>some (Obj.cells a 26 (0,0))) (stR_of HTK.out))
     have hgs0:gs≠w.heap.size:=by
      have:=ltB HB0.out;have:=HX.out.size;omega
     clear hsha hW hnb hqc hqcell hxc hrest HSC HTK HGS HKB HB1 hw1 hw2 hw3 hWl;go_wp2_with fail;go_loopw [11] (fun iv wr=>Hid (∃ j:Nat,j<=nb/\iv=.int .i64 (64*j:Nat)/\Touch gs wc wr/\wr.heap[gs]?=some (.cells (stR (digN W j).list rest) 26 (0,0)))) (fun iv _=>64*nb - (intOf iv).toNat)
     case atStart=>exact ⟨0,by omega,rfl,Touch.of (Ext.refl _),HS0.out⟩
     case round =>
      obtain ⟨j,hj,rfl,ht,hst⟩:=hrel.out;clear hrel HS0;have HT:=lh ht;have HST:=lh hst;clear ht hst;by_cases hltj:j<nb
      ·have HWR:=fun r o cap h1 h2=>lh (rwords_any r gq o cap wr h1 h2);have hrl:((W.drop (64*j)).take 64).length=64:=by rw [List.length_take,List.length_drop,HWL.out];omega
       have HW1:=lh (HWR ((W.drop (64*j)).take 64) (64*j) (capq - 64*j) hrl (fun k x hk=>by
        have h64:k<64:=by have:=(List.getElem?_eq_some_iff.1 hk).1;omega
        rw [List.getElem?_take,if_pos h64,List.getElem?_drop] at hk;have h1:=HWC.out (64*j+k) (bv x) (by rw [List.getElem?_map,hk];rfl)
        exact (cellT HT.out hgsq (lt_of_cell h1)).trans h1)).out
       have hsl1:(0:Int)<=64*(j:Int):=by omega
       have hsl2:64*(j:Int)<=64*(j:Int)+64:=by omega
       have hsl3:64*(j:Int)+64<=capq:=by omega
       clear HWR;obtain ⟨r,hr⟩:∃ r,r=(W.drop (64*j)).take 64:=⟨_,rfl⟩;have HD:=lh (show comp (digN W j) r=digN W (j+1) from by rw [hr];rfl);rw [<-hr] at HW1;obtain ⟨s,hs⟩:∃ s,s=digN W j:=⟨_,rfl⟩;rw [<-hs] at HD HST;clear hr hrl hs;go_wp2_with fail;refine HW1.out.mono ?_;rintro e wd ⟨wvv,rfl,hwc,hxd⟩;obtain ⟨gw,capw,rfl,_,_,hgw,hwcell⟩:=hwc.some 64 (by rw [List.length_map,wordsL_len]) (by decide)
       have HWC2:=lh (fun (k:Nat) (h:k<64)=>show wd.cell? ⟨gw,k,none⟩=some (.int .u32 ((wordsL r 64).getD k 0).toNat) from hwcell k _ (by
        rw [List.getElem?_map,List.getD_eq_getElem?_getD,wordsL_at r 64 k h];rfl))
       have HKD:=lh (fun (k:Nat) (h:k<64)=>show wd.cell? ⟨gk,k,none⟩=some (.int .u32 (kAt k).toNat) from by
        have h1:=HKC2.out k _ (kV_at k h);have h2:=(cellT HT.out hgsk (lt_of_cell h1)).trans h1
        exact (hxd.cell (lt_of_cell h2)).trans h2)
       have HTD:=lh (HT.out.trans (Touch.of hxd));have HSD:=lh ((hxd.block (ltB HST.out)).trans HST.out);have hgsd:gs<wd.heap.size:=ltB HSD.out;clear hwc hxd hwcell HT HST HW1;go_wp2_with fail;go_loopw [14] (fun iv wr=>Hid (∃ i:Nat,i<=8/\iv=.int .i64 i/\Ext wd wr/\wr.heap[wd.heap.size]?=some (.cells (vPart s i) 246 (0,0)))) (fun iv _=>8 - (intOf iv).toNat)
       case atStart=>exact ⟨0,by omega,rfl,(Ext.refl wd).alloc _,heap_alloc_new _ _⟩
       case round =>
        obtain ⟨i4,hi4,rfl,hx4,hv4⟩:=hrel.out;clear hrel;have HX4:=lh hx4;have HV4:=lh hv4;have HS4:=lh ((hx4.block (ltB HSD.out)).trans HSD.out);by_cases hlt4:i4<8
        ·obtain ⟨x,hx⟩:∃ x,s.list[i4]?=some x:=⟨_,List.getElem?_eq_getElem (by show i4<8;exact hlt4)⟩;have cs4:wr.cell? ⟨gs,i4,none⟩=some (.int .u32 x.toNat):=(cellB HS4.out).trans (stR_word _ _ i4 x hx);have cv4:wr.cell? ⟨wd.heap.size,i4,none⟩=(vPart s i4)[i4]?:=cellB hv4;obtain ⟨old,hold⟩:∃ o,(vPart s i4)[i4]?=some o:=⟨_,Array.getElem?_eq_getElem (by rw [vPart_size _ _ hi4];exact hlt4)⟩;rw [hold] at cv4;have cf4:wr.frozen? ⟨wd.heap.size,i4,none⟩=false:=frozenB hv4;have HSET:=lh (vPart_set s i4 x hx);clear hx hold hx4 hv4;go_wp2_with fail;refine ⟨⟨i4+1,by omega,by go_num,HX4.out.setCell (Nat.le_refl _) _,?_⟩,by simp [intOf];omega⟩;rw [setCellB HV4.out];exact congrArg (fun a=>some (Obj.cells a 246 (0,0))) HSET.out
        ·have e8:i4=8:=by omega
         have HVE:=lh (show wr.heap[wd.heap.size]?=some (vObj s) from by rw [HV4.out,e8];rfl);have d8':decide ((i4:Int)<8)=false:=by simp;omega
         clear e8 hx4 hv4 HV4;obtain ⟨we,rfl⟩:∃ x,x=wr:=⟨_,rfl⟩;go_wp2_with fail;go_loopw [15] (fun iv wr=>Hid (∃ t:Nat,t<=64/\iv=.int .i64 t/\Ext wd wr/\wr.heap[wd.heap.size]?=some (vObj (rounds s (wordsL r 64) t)))) (fun iv _=>64 - (intOf iv).toNat)
         case atStart=>exact ⟨0,by omega,rfl,HX4.out,HVE.out⟩
         case round =>
          obtain ⟨t,ht5,rfl,hx5,hv5⟩:=hrel.out;clear hrel HX4 HVE;have HX5:=lh hx5;have HV5:=lh hv5;by_cases hlt5:t<64
          ·obtain ⟨V,gV⟩:∃ V,V=rounds s (wordsL r 64) t:=⟨_,rfl⟩;obtain ⟨kk,gk'⟩:∃ x,x=kAt t:=⟨_,rfl⟩;obtain ⟨ww,gw'⟩:∃ x,x=(wordsL r 64).getD t 0:=⟨_,rfl⟩;rw [<-gV] at hv5 HV5;have HR:=lh (show rnd V kk ww=rounds s (wordsL r 64) (t+1) from by rw [gV,gk',gw'];rfl)
           have ck:∀ v:After wr,v.v.cell? ⟨gk,t,none⟩=some (.int .u32 kk.toNat):=fun v=>by
            have h1:=HKD.out t hlt5;rw [<-gk'] at h1;exact After.cell ((hx5.cell (lt_of_cell h1)).trans h1) v
           have cw:∀ v:After wr,v.v.cell? ⟨gw,t,none⟩=some (.int .u32 ww.toNat):=fun v=>by
            have h1:=HWC2.out t hlt5;rw [<-gw'] at h1;exact After.cell ((hx5.cell (lt_of_cell h1)).trans h1) v
           clear gV gk' gw';have c0:∀ v:After wr,v.v.cell? ⟨wd.heap.size,0,none⟩=some (.int .u32 V.a.toNat):=After.at hv5;have c1:∀ v:After wr,v.v.cell? ⟨wd.heap.size,1,none⟩=some (.int .u32 V.b.toNat):=After.at hv5;have c2:∀ v:After wr,v.v.cell? ⟨wd.heap.size,2,none⟩=some (.int .u32 V.c.toNat):=After.at hv5;have c4:∀ v:After wr,v.v.cell? ⟨wd.heap.size,4,none⟩=some (.int .u32 V.e.toNat):=After.at hv5;have c5:∀ v:After wr,v.v.cell? ⟨wd.heap.size,5,none⟩=some (.int .u32 V.f.toNat):=After.at hv5;have c6:∀ v:After wr,v.v.cell? ⟨wd.heap.size,6,none⟩=some (.int .u32 V.g.toNat):=After.at hv5;have c7:∀ v:After wr,v.v.cell? ⟨wd.heap.size,7,none⟩=some (.int .u32 V.h.toNat):=After.at hv5;clear hv5 hx5;go_wp2_with fail;refine wp_region_after (by kernel_rfl) (by kernel_rfl) ?_
           repeat (go_big_quiet_step ((go_at_call 217;exact After.same (rturned_ok _ _ _ rfl))))
           refine wpQuiet_nil ?_;rintro _ ⟨y,rfl⟩;go_wp2_with fail;refine wp_region_after0 y (by kernel_rfl) (by kernel_rfl) ?_
           repeat (go_big_quiet_step ((go_at_call 217;exact After.same (rturned_ok _ _ _ rfl))))
           refine wpQuiet_nil ?_;rintro _ ⟨y2,rfl⟩;go_wp2_with fail;rw [xq_eq,yr_eq];obtain ⟨X,gX⟩:∃ X,X=V.h+big1 V.e+chw V.e V.f V.g+kk+ww:=⟨_,rfl⟩;obtain ⟨Y,gY⟩:∃ Y,Y=big0 V.a+mjw V.a V.b V.c:=⟨_,rfl⟩;rw [<-gX,<-gY];have HQ:=lh (show (⟨X+Y,V.a,V.b,V.c,V.d+X,V.e,V.f,V.g⟩:V8)=rounds s (wordsL r 64) (t+1) from by rw [<-HR.out,gX,gY];rfl);have HX6:=lh (HX5.out.trans y2.x);have HV6:=lh ((y2.x.block (ltB HV5.out)).trans HV5.out);have d64t:decide ((t:Int)<64)=true:=by simp;omega
           clear gX gY c0 c1 c2 c4 c5 c6 c7 ck cw;obtain ⟨y2v,y2x⟩:=y2;go_loopw [18] (fun iv wr=>Hid (∃ k:Nat,k<=7/\iv=.int .i64 k/\Ext wd wr/\wr.heap[wd.heap.size]?=some (.cells (vShift V k) 246 (0,0)))) (fun iv _=>(intOf iv).toNat)
           case atStart=>exact ⟨7,by omega,rfl,HX6.out,HV6.out⟩
           case round =>
            obtain ⟨k,hk,rfl,hx7,hv7⟩:=hrel.out;clear hrel HX6 HV6;have HX7:=lh hx7;have HV7:=lh hv7
            match k,hk,hv7,HV7 with
            | 0,_,hv7,HV7 =>
             have c4:wr.cell? ⟨wd.heap.size,4,none⟩=some (.int .u32 V.d.toNat):=cellB hv7;have c0:wr.cell? ⟨wd.heap.size,0,none⟩=some (.int .u32 V.a.toNat):=cellB hv7;have f4:wr.frozen? ⟨wd.heap.size,4,none⟩=false:=frozenB hv7;have f0:wr.frozen? ⟨wd.heap.size,0,none⟩=false:=frozenB hv7;clear hx7 hv7;obtain ⟨wf,rfl⟩:∃ x,x=wr:=⟨_,rfl⟩;go_wp2_with fail;refine ⟨⟨t+1,by omega,by go_num,(HX7.out.setCell (Nat.le_refl _) _).setCell (Nat.le_refl _) _,?_⟩,by simp [intOf];omega⟩;rw [setCellB (setCellB HV7.out),<-HQ.out,wd_add,wd_add];rfl
            | c+1,hk,hv7,HV7 =>
             obtain ⟨x,hxv,hxc,hset⟩:=vShift_set V c (by omega);have c1:wr.cell? ⟨wd.heap.size,c,none⟩=some (.int .u32 x.toNat):=(cellB hv7).trans hxc
             have hold:∃ o,(vShift V (c+1))[c+1]?=some o:=by
              have:c=0\/c=1\/c=2\/c=3\/c=4\/c=5\/c=6:=by omega
              rcases this with rfl | rfl | rfl | rfl | rfl | rfl | rfl <;> exact ⟨_,rfl⟩
             obtain ⟨old,hold⟩:=hold;have c2:wr.cell? ⟨wd.heap.size,c+1,none⟩=some old:=(cellB hv7).trans hold;have cf:wr.frozen? ⟨wd.heap.size,c+1,none⟩=false:=frozenB hv7;have HSET:=lh hset;clear hxv hxc hset hold hx7 hv7;go_wp2_with fail;refine ⟨⟨c,by omega,by go_num,HX7.out.setCell (Nat.le_refl _) _,?_⟩,by simp [intOf]⟩;rw [setCellB HV7.out];exact congrArg (fun a=>some (Obj.cells a 246 (0,0))) HSET.out
          ·have e64:t=64:=by omega
           have HV64:=lh (e64▸HV5.out);have d64t:decide ((t:Int)<64)=false:=by simp;omega
           obtain ⟨wg,rfl⟩:∃ x,x=wr:=⟨_,rfl⟩;obtain ⟨V,gV⟩:∃ V,V=rounds s (wordsL r 64) 64:=⟨_,rfl⟩;have HVG:=lh (show wg.heap[wd.heap.size]?=some (vObj V) from by rw [gV];exact HV64.out);have HFIN:=lh (show s.add V=digN W (j+1) from by rw [gV,<-HD.out];rfl);have HSG:=lh ((hx5.block (ltB HSD.out)).trans HSD.out);have HTG:=lh (HTD.out.trans (Touch.of hx5));have hne:wd.heap.size≠gs:=by omega
           clear gV HV64 HV5 hv5 hx5 e64 HX5 HD HKD HWC2;go_wp2_with fail;go_loopw [19] (fun iv wr=>Hid (∃ k:Nat,k<=8/\iv=.int .i64 k/\Touch gs wg wr/\wr.heap[gs]?=some (.cells (stR (mixL (s.add V).list s.list k) rest) 26 (0,0)))) (fun iv _=>8 - (intOf iv).toNat)
           case atStart=>exact ⟨0,by omega,rfl,Touch.of (Ext.refl wg),HSG.out⟩
           case round =>
            obtain ⟨k3,hk3,rfl,ht3,hs3⟩:=hrel.out;clear hrel;have HT3:=lh ht3;have HS3:=lh hs3;have hv3:wr.heap[wd.heap.size]?=some (vObj V):=(ht3.block _ (ltB HVG.out) (fun e=>hne (Option.some.inj e))).trans HVG.out;by_cases hlt3:k3<8
            ·obtain ⟨x,hx⟩:∃ x,s.list[k3]?=some x:=⟨_,List.getElem?_eq_getElem (by show k3<8;exact hlt3)⟩;obtain ⟨y,hy⟩:∃ x,V.list[k3]?=some x:=⟨_,List.getElem?_eq_getElem (by show k3<8;exact hlt3)⟩
             have hxy:(s.add V).list[k3]?=some (x+y):=by
              rw [show (s.add V).list=List.zipWith (·+·) s.list V.list from rfl,List.getElem?_zipWith,hx,hy]
             have c1:∀ v:After wr,v.v.cell? ⟨gs,k3,none⟩=some (.int .u32 x.toNat):=fun v=>(After.at hs3 v).trans (stR_word _ _ k3 x (by rw [mixL_at _ _ _ rfl hlt3];exact hx));have c2:∀ v:After wr,v.v.cell? ⟨wd.heap.size,k3,none⟩=some (.int .u32 y.toNat):=fun v=>(After.at hv3 v).trans (by rw [show V.get=(V.list.map wv).toArray from rfl,List.getElem?_toArray,List.getElem?_map,hy];rfl);have cf:∀ v:After wr,v.v.frozen? ⟨gs,k3,none⟩=false:=fun v=>After.free hs3 v;obtain ⟨z,gz⟩:∃ z,z=x+y:=⟨_,rfl⟩;have HA:=lh (wd_add x y);rw [<-gz] at HA hxy;have HM:=lh (mixL_set (s.add V).list s.list k3 z rfl rfl hlt3 hxy);have HL:=lh (mixL_len (s.add V).list s.list k3 rfl rfl hk3);clear gz hx hy hxy hs3 hv3 ht3;go_wp2_with fail;refine wp_region_after_tail 11 (by kernel_rfl) (by kernel_rfl) ?_;simp only [List.take_succ_cons,List.take_zero,List.drop_succ_cons,List.drop_zero]
             repeat (go_big_quiet_step (fail))
             refine wpQuiet_nil ?_;rintro _ ⟨y3,rfl⟩;rw [HA.out];have HY:=lh y3.x;go_wp2_with fail;go_roundw
             case rel=>exact ⟨k3+1,by omega,by go_num,(HT3.out.trans (Touch.of HY.out)).setCell _,by rw [setCellB ((HY.out.block (ltB HS3.out)).trans HS3.out),<-HM.out,<-stR_obj _ _ _ _ (by rw [HL.out];exact hlt3)];rfl⟩
             case measure=>simp [intOf];omega
            ·have e8:k3=8:=by omega
             have HS8:=lh (show wr.heap[gs]?=some (.cells (stR (digN W (j+1)).list rest) 26 (0,0)) from by rw [hs3,e8,<-HFIN.out];rfl);clear e8 hs3 ht3 hv3;go_wp2_with fail;refine ⟨⟨j+1,by omega,by go_num,HTG.out.trans HT3.out,HS8.out⟩,by simp [intOf];omega⟩
      ·have ej:j=nb:=by omega
       have HSZ:=lh (show wr.heap[gs]?=some (.cells (stR (digN W nb).list rest) 26 (0,0)) from by rw [HST.out,ej]);have HBZ:=lh ((HT.out.block _ (ltB HB2.out) (fun e=>hgs0 (Option.some.inj e).symm)).trans HB2.out);have HXZ:=lh (HT.out.fresh HXC.out (by have:=HXA.out.size;omega));have hout:=sha_word (digN W nb);have hol:((digN W nb).list.map outB).flatten.length=32:=by simp [V8.list,outB]
       obtain ⟨out,hO⟩:∃ o,o=((digN W nb).list.map outB).flatten:=⟨_,rfl⟩;rw [<-hO] at HSHA hout hol;obtain ⟨S,hS⟩:∃ S,S=digN W nb:=⟨_,rfl⟩;rw [<-hS] at HSZ hout;have HOUT:=lh hout;have HOL:=lh hol;have dlt:decide (64*(j:Int)<64*(nb:Int))=false:=by simp;omega
       clear hO hS hout hol ej HST;obtain ⟨wz,rfl⟩:∃ x,x=wr:=⟨_,rfl⟩;go_wp2_with fail;go_loopw [21] (fun iv wr=>Hid (∃ i:Nat,i<=32/\iv=.int .i64 i/\Ext wz wr/\wr.heap[wz.heap.size]?=some (hObj out i))) (fun iv _=>32 - (intOf iv).toNat)
       case atStart=>exact ⟨0,by omega,rfl,(Ext.refl wz).alloc _,heap_alloc_new _ _⟩
       case round =>
        obtain ⟨i8,hi8,rfl,hx8,hh8⟩:=hrel.out;clear hrel;have HX8:=lh hx8;have HH8:=lh hh8;by_cases hlt8:i8<32
        ·obtain ⟨q,hq⟩:∃ q,q=i8 / 4:=⟨_,rfl⟩;obtain ⟨k,hk⟩:∃ k,k=i8 % 4:=⟨_,rfl⟩;have hik:i8=4*q+k:=by omega
         have hk4:k<4:=by omega
         have hq8:q<8:=by omega
         obtain ⟨x,hx⟩:∃ x,S.list[q]?=some x:=⟨_,List.getElem?_eq_getElem (by show q<8;exact hq8)⟩;have hb:=HOUT.out q k x hx hk4;rw [<-hik] at hb;obtain ⟨b,hbb⟩:∃ b,b=byteOf (x.toNat / 2 ^ (24 - 8*k)):=⟨_,rfl⟩;rw [<-hbb] at hb
         have HBV:=lh (show (x.toNat:Int) / 2 ^ (24 - 8*k) % 256=(b.toNat:Int) from by
          rw [hbb];unfold byteOf;rw [UInt8.toNat_ofNat',show (2:Int) ^ (24 - 8*k)=((2 ^ (24 - 8*k):Nat):Int) from (Int.natCast_pow 2 _).symm];generalize 2 ^ (24 - 8*k)=d;rw [<-Int.natCast_ediv]
          omega)
         have cs8:wr.cell? ⟨gs,q,none⟩=some (.int .u32 x.toNat):=(cellB ((hx8.block (ltB HSZ.out)).trans HSZ.out)).trans (stR_word _ _ q x hx);obtain ⟨old,hold⟩:=hArr_at out i8 i8 HOL.out (by omega) hlt8;have ch8:wr.cell? ⟨wz.heap.size,i8,none⟩=some old:=(cellB hh8).trans hold;have cf8:wr.frozen? ⟨wz.heap.size,i8,none⟩=false:=frozenB hh8;have d1:(i8:Int) / 4=(q:Int):=by omega
         have d2:(i8:Int) % 4=(k:Int):=by omega
         have HSET:=lh (fun val hv=>hObj_set out i8 b val hb HOL.out hv);clear hq hk hik hx hb hbb hold hx8 hh8;go_wp2_with fail;refine ⟨⟨i8+1,by omega,by go_num,HX8.out.setCell (Nat.le_refl _) _,?_⟩,by simp [intOf];omega⟩;rw [setCellB HH8.out];exact congrArg some (HSET.out _ HBV.out)
        ·have e32:i8=32:=by omega
         have HHE:=lh (show wr.heap[wz.heap.size]?=some (.cells (hArr out 32) 45 (0,0)) from by rw [hh8,e32];rfl);have HBE:=lh ((hx8.block (ltB HBZ.out)).trans HBZ.out);have HXE:=lh (HXZ.out.trans hx8);have HSS:=lh (hArr_size out 32 HOL.out (by omega));have HONE:=lh (hArr_one out 32);obtain ⟨H,hH⟩:∃ H,H=hArr out 32:=⟨_,rfl⟩;have HFIN:=lh (show hashV (shaL b)=.agg H from by rw [HSHA.out,hH];rfl);rw [<-hH] at HHE HSS HONE;have d32:decide ((i8:Int)<32)=false:=by simp;omega
         clear hH e32 hx8 hh8;obtain ⟨wy,rfl⟩:∃ x,x=wr:=⟨_,rfl⟩
         go_wp2_with (first
          | (refine wpList_load_row rfl _ _ rfl wz.heap.size rfl 45 H (0,0) _ HHE.out underlying45 rfl (by rw [HSS.out];kernel_rfl) ?_;go_frame)
          | (refine wpList_storeT rfl _ _ _ rfl w.heap.size H rfl rfl 45 _ HBE.out (by rw [HSS.out];kernel_rfl) (by rw [HSS.out];rfl) HONE.out ?_;intro w6 hb6 ht6;have HB6:=lh hb6;have HT6:=lh ht6;clear hb6 ht6;go_frame))
         refine bodyPost_ret (results_cell_row rfl _ _ w.heap.size 45 _ (0,0) _ rfl HB6.out underlying45 rfl (by rw [HSS.out];kernel_rfl)) rfl ⟨by rw [HFIN.out],HT6.out.fresh HXE.out (Nat.le_refl _)⟩
end Go.Proofs.YtldppmjjgljinaaGreatDoor
