import Derived.Test.YtodickpibbbiiaaGreatDoorAtG1
import Derived.Test.YtodickpibbbiiaaGreatDoorAtD2
import Derived.Test.YtodickpibbbiiaaGreatDoorAtF2
import Derived.Test.YtodickpibbbiiaaGreatDoorAtF3
import Derived.Test.YtodickpibbbiiaaGreatDoorAtA1
import Derived.Deep.Slices
open Go.Proofs.Tryz
namespace Go.Proofs.YtodickpibbbiiaaGreatDoor
section
open Go.RowKit Go.Shelf
open Go.Sort (Holds)
open Go.Maps (has_true_of_atKey)
def goesL (p:Pol) (l:List Ent) (now:Int) (K:List (List UInt8)):List (List UInt8):=K.flatMap fun x=>(goP p (grp l (bsL x)) now).map fun s=>s.data.toList
theorem goP_len (p:Pol) (l:List Ent) (now:Int):(goP p l now).length<=l.length:=by
 have:=(goS_len p l now (l.length - 1)).1;unfold goP;omega
def sortS (A:List (List UInt8)):List ByteArray:=(A.mergeSort fun x y=>decide (x<=y)).map bsL
def goesS (p:Pol) (l:List Ent) (now:Int) (K:List (List UInt8)):List ByteArray:=sortS (goesL p l now K)
theorem goesL_snoc (p:Pol) (l:List Ent) (now:Int) (K:List (List UInt8)) (x:List UInt8):goesL p l now (K++[x])=goesL p l now K++(goP p (grp l (bsL x)) now).map fun s=>s.data.toList:=by
 unfold goesL;rw [List.flatMap_append];simp
theorem goesL_len (p:Pol) (l:List Ent) (now:Int):∀ K,(goesL p l now K).length<=K.length*l.length
 | []=>Nat.zero_le _
 | x::K=>by
  have ih:=goesL_len p l now K;have h1:=goP_len p (grp l (bsL x)) now;have h2:=grp_len l (bsL x);have e:goesL p l now (x::K)=(goP p (grp l (bsL x)) now).map (fun s=>s.data.toList)++goesL p l now K:=rfl;rw [e,List.length_append,List.length_map,List.length_cons,Nat.succ_mul];omega
theorem goes_end {w0 wr:World} {A B:List (List UInt8)} {g cap n:Nat} {cur:Array Value} {os:Array Obj} (hx:Ext w0 wr) (hp:A.Perm B) (hbase:w0.heap.size<=g) (hb:wr.heap[g]?=some (.cells cur 9 (0,0))) (h1:A.length<=cap) (h2:cap<=maxLen) (h3:cur.size=cap*1) :
  (Go.Sort.grow (Go.Sort.putRow encStr (Go.Sort.ahead wr n) g 0 (A.mergeSort fun x y=>decide (x<=y)).toArray) os).ownsRow w0.heap.size 9 1 (.slice (some ⟨g,0,none⟩) A.length cap) (sortS B).length ((sortS B).map Value.string) /\
  Ext w0 (Go.Sort.grow (Go.Sort.putRow encStr (Go.Sort.ahead wr n) g 0 (A.mergeSort fun x y=>decide (x<=y)).toArray) os):=by
 have hs:=ownsRow_sorted (ss:=A) (ts:=A.mergeSort fun x y=>decide (x<=y)) (os:=os) (n:=n) (by simp) hbase hb h1 h2 h3;refine ⟨?_,?_⟩
 ·unfold sortS;rw [<-mergeSort_of_perm hp,<-enc_map];simp only [List.length_map,List.length_mergeSort];exact hs
 ·exact Below.grown hx (grownBy_sorted _) hx.size (fun j hj=>by cases hj;exact hbase)
theorem keys_perm {w:World} {b n:Nat} {D:DataW Value} {K:List (List UInt8)} (h:w.ownsMap prog 9 RV b n D) (hn:K.Nodup) (hh:∀ x,x∈K↔Maps.has D (.string x)=true):K.Perm (strKeys D):=by
 obtain ⟨es,rfl,hp,_⟩:=h.entries keyed9;obtain ⟨es',he,hk⟩:=h.keysOf
 cases he
 exact perm_strKeys hp (fun p hp'=>by
  obtain ⟨key,hkey⟩:=hk p hp';obtain ⟨x,_,hx,_⟩:=Maps.keyOf_str underlying9 hkey
  exact ⟨x,hx⟩) hn hh
theorem RV_inv (v:Value) (y:DataW Value×List MemPlace) (_:RV v=some y):∃ c:Value,v=id c:=⟨v,rfl⟩
theorem row_nonil {w:World} {base k n:Nat} {e:TypeId} {v:Value} {xs:List Value} (h:w.ownsRow base e k v n xs) (hn:0<n):v≠.slice none 0 0:=by
 rintro rfl;rcases h.2 with ⟨_,h0⟩ | ⟨g,cap,cur,hv,_⟩
 ·omega
 ·cases hv
set_option maxRecDepth 100000 in
set_option maxHeartbeats 16000000 in
theorem agoes_any {w:World} {v:Value} {l:List Ent} (h:EntsSl w v l) (hr:Rise l) (hl:l.length<=1000) (h0:1<=l.length) (hpz:∀ x∈l,x.path.size<=100000) (hso:∀ w1 u,EntsSl w1 u l->SortsAt w1 u)
  (p:Pol) (hp:okP p=true) (now:Int) (K:List (List UInt8)) (hK:K.Nodup) (hm:∀ x,x∈K↔grp l (bsL x)≠[]) :
  Calls prog 41 #[polV p,v,.int .i64 now] w fun e w'=>∃ u,e=.returned u/\Hid (w'.ownsRow w.heap.size 9 1 u (goesS p l now K).length ((goesS p l now K).map Value.string)/\Ext w w'):=by
 have HK:=lh hK;have HM:=lh hm;have HZ:=lh hpz;have HSo:=lh hso;have HR:=lh hr;have HC:=lh (fun w1=>acheck_any p w1);rw [if_pos hp] at HC;have HCl:=lh (fun w1 (x:Ext w w1)=>aclone_any (h.ext x) (by omega));have HCo:=lh (fun w1 u (q:EntsSl w1 u l)=>acompact_any q hr (by omega));have HGo:=lh (fun w1 u s (q:EntsSl w1 u (grp l s)) (q1:1<=(grp l s).length)=>apgoes_any q (Nat.le_trans (grp_len l s) (by omega)) q1 p now);obtain ⟨g,o,cap,rfl,_⟩:=h;obtain ⟨n,hn⟩:∃ n,n=l.length:=⟨_,rfl⟩;have HN:=lh hn;clear hK hm hpz hso hr hp;rw [<-hn] at hl h0 HCl ⊢;have HP:=lh (show polV p=.agg #[.int .i64 p.kind,.int .i64 p.keep,.int .i64 p.age] from rfl);obtain ⟨pc,hpc⟩:∃ pc,pc=(#[.int .i64 p.kind,.int .i64 p.keep,.int .i64 p.age]:Array Value):=⟨_,rfl⟩;have HI:=lh (show (prog.info? 89).map (·.size)=some pc.size from by rw [hpc];kernel_rfl);rw [HP.out,<-hpc];rw [HP.out,<-hpc] at HC HGo;have HB:=lh (block_alloc_new w (.cells pc 89 (0,0)));have X0:=lh ((Ext.refl w).alloc (.cells pc 89 (0,0)));clear hn hpc;go_enter func41,ntmps41;go_wp2_with (refine wpList_load_row rfl 89 (.tmp 3) rfl w.heap.size rfl _ pc (0,0) _ HB.out underlying89 rfl HI.out ?_;go_frame);refine (HC.out _).mono ?_;rintro e w1 ⟨rfl,x1⟩;have X1:=lh (X0.out.trans x1);have HB1:=lh ((x1.block (ltB HB.out)).trans HB.out);clear x1 HC HB;go_wp2_with fail;refine (HCl.out _ X1.out).mono ?_;rintro e w2 ⟨u,rfl,hu⟩;obtain ⟨q2,x2⟩:=hu.out;have HS:=lh (HSo.out w2 u q2);have Q2:=lh q2;have X2:=lh (X1.out.trans x2);have HB2:=lh ((x2.block (ltB HB1.out)).trans HB1.out);clear hu q2 x2 HCl HB1 X1;go_wp2_with fail;refine (HS.out _ (Ext.refl _)).mono ?_;rintro e w3 ⟨rfl,x3⟩;have Q3:=lh (Q2.out.ext x3);have X3:=lh (X2.out.trans x3);have HB3:=lh ((x3.block (ltB HB2.out)).trans HB2.out);clear x3 HS Q2 X2 HB2 HSo;go_wp2_with fail;refine (HCo.out _ _ Q3.out).mono ?_;rintro e w4 ⟨rfl,x4⟩;have Q4:=lh (Q3.out.ext x4);have X4:=lh (X3.out.trans x4);have HB4:=lh ((x4.block (ltB HB3.out)).trans HB3.out);clear x4 Q3 X3 HB3 HCo;have HG4:=lh (GrpIn.start w4);have X5:=lh (X4.out.alloc (.map #[] 0));have Q5:=lh (Q4.out.ext ((Ext.refl w4).alloc (.map #[] 0)));have HB5:=lh ((((Ext.refl w4).alloc (.map #[] 0)).block (ltB HB4.out)).trans HB4.out);have hb4:w.heap.size<=w4.heap.size:=X4.out.size;obtain ⟨gu,ou,cu,rfl,_⟩:=Q4.out;rw [<-HN.out];have hmm:=@run_makeMap prog;clear X5 HB5 Q5 X0;go_wp2_with fail;go_loopw [24] (fun iv wr=>Hid (∃ (k:Nat) (V:ByteArray->Value),k<=n/\iv=.int .i64 k/\GrpIn (w4.heap.size+1) w4.heap.size wr (l.take k) V/\Ext w4 wr)) (fun iv _=>n - (intOf iv).toNat)
 case atStart=>exact ⟨0,_,Nat.zero_le _,rfl,HG4.out,(Ext.refl w4).alloc _⟩
 case round =>
  obtain ⟨k,V,hk,rfl,hg,hx⟩:=hrel.out;clear hrel HG4;have HX:=lh hx;have HG:=lh hg;by_cases hlt:k<n
  ·obtain ⟨x,hxk⟩:∃ x,l[k]?=some x:=⟨_,List.getElem?_eq_getElem (by have:=HN.out;omega)⟩;have HR1:=lh ((Q4.out.ext hx).at hxk);have hxz:=HZ.out x (List.mem_of_getElem? hxk);have HT:=lh (show l.take (k+1)=l.take k++[x] from by rw [List.take_add_one,hxk];rfl);have htl:(l.take k).length=k:=by rw [List.length_take];have:=HN.out;omega
   have hgl:=grp_len (l.take k) x.path;have hpg:=own_block_ge_k (hg.row x.path);clear hx hg hxk;obtain ⟨xn,xp,xt,xs⟩:=x;dsimp only at hxz hgl hpg;have HBE:=lh (block_alloc_new wr (.cells #[.string xn,.string xp,.int .i64 xt,.int .i64 xs] 93 (0,0)));have hbm:=HG.out.map.lt;have HGE:=lh (HG.out.ext ((Ext.refl wr).alloc (.cells #[.string xn,.string xp,.int .i64 xt,.int .i64 xs] 93 (0,0))));have XE:=lh (HX.out.alloc (.cells #[.string xn,.string xp,.int .i64 xt,.int .i64 xs] 93 (0,0)));go_upto_region 10 with (refine wpList_load_at rfl 93 (.tmp 26) rfl gu (ou+k*4) rfl #[.string xn,.string xp,.int .i64 xt,.int .i64 xs] _ HR1.out underlying93 rfl (by kernel_rfl) ?_;go_frame)
   have HM10:=lh HGE.out.map;refine wp_region_head (S:=fun w'=>w'.heap[wr.heap.size]?=some (.cells #[.string xn,.string xp,.int .i64 xt,.int .i64 xs] 93 (0,0))/\w'.heap[w4.heap.size]?=(wr.alloc (.cells #[.string xn,.string xp,.int .i64 xt,.int .i64 xs] 93 (0,0))).heap[w4.heap.size]?) (n:=10) (by kernel_rfl) (by kernel_rfl) ?_;generalize hwA:(wr.alloc (.cells #[.string xn,.string xp,.int .i64 xt,.int .i64 xs] 93 (0,0)))=wA at *;have sS:wA.drew.heap[wr.heap.size]?=some (.cells #[.string xn,.string xp,.int .i64 xt,.int .i64 xs] 93 (0,0))/\wA.drew.heap[w4.heap.size]?=wA.heap[w4.heap.size]?:=⟨HBE.out,rfl⟩;have HGD:=lh (HGE.out.ext (Ext.refl wA).drew);have XD:=lh (XE.out.trans (Ext.refl wA).drew);have hszA:wA.drew.heap.size=wr.heap.size+1:=by rw [<-hwA];simp [World.drew]
   refine HeadAt.take (i:=0) (v:=.map (some w4.heap.size)) rfl (by kernel_rfl) (by kernel_rfl) (by kernel_rfl) (by kernel_rfl) (by kernel_rfl) (by kernel_rfl) (by kernel_rfl) (fun _ _ _ h=>h) (yieldsIf_move rfl _ rfl rfl) sS ?_;go_frame;refine HeadAt.take (i:=1) (v:=.pointer (some ⟨wr.heap.size,1,none⟩)) rfl (by kernel_rfl) (by kernel_rfl) (by kernel_rfl) (by kernel_rfl) (by kernel_rfl) (by kernel_rfl) (by kernel_rfl) (fun _ _ _ h=>h) (Or.inl ⟨rfl,fun w' _=>by go_simp⟩) sS ?_;go_frame;refine HeadAt.take (i:=2) (v:=.string xp) rfl (by kernel_rfl) (by kernel_rfl) (by kernel_rfl) (by kernel_rfl) (by kernel_rfl) (by kernel_rfl) (by kernel_rfl) (fun _ _ _ h=>h) (yieldsIf_cell rfl 9 _ rfl _ _ rfl agg9 (fun _ h=>cellB h.1)) sS ?_;go_frame;refine HeadAt.take (i:=3) (v:=.map (some w4.heap.size)) rfl (by kernel_rfl) (by kernel_rfl) (by kernel_rfl) (by kernel_rfl) (by kernel_rfl) (by kernel_rfl) (by kernel_rfl) (fun _ _ _ h=>h) (yieldsIf_move rfl _ rfl rfl) sS ?_;go_frame;refine HeadAt.take (i:=4) (v:=.pointer (some ⟨wr.heap.size,1,none⟩)) rfl (by kernel_rfl) (by kernel_rfl) (by kernel_rfl) (by kernel_rfl) (by kernel_rfl) (by kernel_rfl) (by kernel_rfl) (fun _ _ _ h=>h) (Or.inl ⟨rfl,fun w' _=>by go_simp⟩) sS ?_;go_frame;refine HeadAt.take (i:=5) (v:=.string xp) rfl (by kernel_rfl) (by kernel_rfl) (by kernel_rfl) (by kernel_rfl) (by kernel_rfl) (by kernel_rfl) (by kernel_rfl) (fun _ _ _ h=>h) (yieldsIf_cell rfl 9 _ rfl _ _ rfl agg9 (fun _ h=>cellB h.1)) sS ?_;go_frame;refine HeadAt.take (i:=6) (v:=V xp) rfl (by kernel_rfl) (by kernel_rfl) (by kernel_rfl) (by kernel_rfl) (by kernel_rfl) (by kernel_rfl) (by kernel_rfl) (fun _ _ _ h=>h) (yieldsIf_lookup rfl _ _ _ rfl rfl rfl (fun w' h=>HGE.out.look' h.2 xp (by unfold maxLen;omega))) sS ?_;go_frame;refine HeadAt.take (i:=7) (v:=.agg #[.string xn,.string xp,.int .i64 xt,.int .i64 xs]) rfl (by kernel_rfl) (by kernel_rfl) (by kernel_rfl) (by kernel_rfl) (by kernel_rfl) (by kernel_rfl) (by kernel_rfl) (fun _ _ _ h=>h) (yieldsIf_load_row rfl 93 (.tmp 9) rfl wr.heap.size rfl 93 _ (0,0) _ (fun _ h=>h.1) underlying93 rfl (by kernel_rfl)) sS ?_;go_frame;have hb1:=block_alloc_new wA.drew (.cells #[.string xn,.string xp,.int .i64 xt,.int .i64 xs] 93 (0,0));have HGF:=lh (HGD.out.ext ((Ext.refl wA.drew).alloc (.cells #[.string xn,.string xp,.int .i64 xt,.int .i64 xs] 93 (0,0))));have XF:=lh (XD.out.alloc (.cells #[.string xn,.string xp,.int .i64 xt,.int .i64 xs] 93 (0,0)));have s1:=(((Ext.refl wA.drew).alloc (.cells #[.string xn,.string xp,.int .i64 xt,.int .i64 xs] 93 (0,0))).block (ltB sS.1)).trans sS.1;have s2:=(((Ext.refl wA.drew).alloc (.cells #[.string xn,.string xp,.int .i64 xt,.int .i64 xs] 93 (0,0))).block HGD.out.map.lt).trans sS.2;refine HeadAt.one (i:=8) (by kernel_rfl) (by kernel_rfl) rfl rfl (run_buildOneOp elEnt (by decide) (.tmp 35) rfl #[.string xn,.string xp,.int .i64 xt,.int .i64 xs] rfl rfl) ⟨s1,s2⟩ ?_;go_frame;generalize hwB:wA.drew.alloc (.cells #[.string xn,.string xp,.int .i64 xt,.int .i64 xs] 93 (0,0))=wB at *;have hszB:wB.heap.size=wr.heap.size+2:=by rw [<-hwB];simp [hszA]
   have hown:=own_lt (HG.out.row xp);have hx4:=HX.out.size;refine HeadAt.append (i:=9) (by kernel_rfl) (by kernel_rfl) rfl rfl elEnt (w4.heap.size+1) (V xp) (grp (l.take k) xp).length (entsV (grp (l.take k) xp)) (HGF.out.row xp) wA.drew.heap.size [.string xn,.string xp,.int .i64 xt,.int .i64 xs] rfl (.tmp 34) (.tmp 36) rfl rfl rfl (fun j u hj=>(cellB hb1).trans (by simpa using hj)) (by simp [Value.oneCell']) (by omega) (by omega) ?_;intro v7 w7 ho7 hg7 hv7;have t1:w7.heap[wr.heap.size]?=wB.heap[wr.heap.size]?:=hg7.block _ (by omega) fun e=>by have:=hown _ e.symm;omega
   have t2:w7.heap[w4.heap.size]?=wB.heap[w4.heap.size]?:=hg7.block _ (by omega) fun e=>by have:=hpg _ e.symm;omega
   refine ⟨⟨t1.trans s1,t2.trans s2⟩,?_⟩;go_frame;obtain ⟨w8,V',hr8,hG8,hg8,hs8⟩:=HGF.out.add (x:=⟨xn,xp,xt,xs⟩) (by rw [htl];unfold maxLen;omega) (by unfold maxLen;show xp.size<=_;omega) ho7 hg7 hv7;have HF:=lh (show GrpIn (w4.heap.size+1) w4.heap.size w8 (l.take (k+1)) V' from by rw [HT.out];exact hG8);have x7:Ext w4 w7:=grown_ext XF.out (Nat.le_succ _) (HGF.out.row xp) hg7;have X8:=lh (show Ext w4 w8 from Below.grown x7 hg8 x7.size (fun j hj=>by cases hj;exact Nat.le_refl _));have hr8':(Instr.mapUpdate 193 (.map (some w4.heap.size)) (.string xp) v7).run prog w7=.ok () w8:=hr8;clear hr8 hG8 hg8 hs8 x7 t1 t2 hv7 hg7 ho7 s1 s2 hb1 sS HG HGE HGD HGF XE XD XF HM10 HBE;refine HeadAt.done (by kernel_rfl) ?_;go_wp2_with fail;go_roundw
   case rel=>exact ⟨k+1,V',by omega,by go_num,HF.out,X8.out⟩
   case measure=>simp [intOf] <;> omega
  ·obtain rfl:k=n:=by omega
   obtain ⟨wm,rfl⟩:∃ x,x=wr:=⟨_,rfl⟩;have htk:l.take k=l:=by rw [HN.out];exact List.take_length
   rw [htk] at HG;clear hg hx;have hm:=HG.out.map;obtain ⟨D,hown,hread⟩:=hm;have HRd:=lh hread;have HOw:=lh hown;have hsz:=hown.size_le;rw [<-HN.out] at hsz
   have HKP:=lh (keys_perm (K:=K) hown HK.out (fun x=>by
    rw [HM.out x,show Maps.has D (.string x)=_ from (hread (bsL x)).1];dsimp only;by_cases q:grp l (bsL x)=[]
    ·rw [if_pos q];simp [q]
    ·rw [if_neg q];simp [q]))
   have HB6:=lh ((HX.out.block (ltB HB4.out)).trans HB4.out);have X6:=lh (X4.out.trans HX.out);have hbl:=HG.out.map.lt;clear hread htk;go_wp2_with (at_range;refine wpList_range_own _ rfl _ 193 rfl 9 90 keyed9 (by kernel_rfl) RV w4.heap.size l.length D rfl hown ?_;intro w0 hrg0 hg0 hs0)
   try go_frame
   have H0:=lh (show ∃ (left:Lit->Bool) (cnt:Nat) (ss:List (List UInt8)),w0.ranges prog 9 RV w4.heap.size wm.heap.size l.length D left cnt/\ss.length+cnt<=Maps.size D/\w0.ownsRow wm.heap.size 9 1 (.slice none 0 0) (goesL p l now ss).length ((goesL p l now ss).map encStr)/\Collected D left ss/\Ext wm w0 from ⟨_,_,[],hrg0,by simp,World.ownsRow_nil _ _ _ _,Collected.start D,Below.grown (Below.refl _ _) hg0 (Nat.le_refl _) (fun j hj=>by cases hj)⟩);clear hrg0 hg0 hs0 hown;go_loopw [6] (fun ov wr=>Hid (∃ (left:Lit->Bool) (cnt:Nat) (ss:List (List UInt8)),wr.ranges prog 9 RV w4.heap.size wm.heap.size l.length D left cnt/\ss.length+cnt<=Maps.size D/\wr.ownsRow wm.heap.size 9 1 ov (goesL p l now ss).length ((goesL p l now ss).map encStr)/\Collected D left ss/\Ext wm wr)) (fun _ wr=>wr.rangeLeft w4.heap.size wm.heap.size)
   case atStart=>exact H0
   case round =>
    obtain ⟨left,cnt,ss,hrg,hcs,hrow,hC,hx⟩:=hrel.out;clear hrel H0;go_wp2_with (at_next;refine wpList_next_ranges _ rfl _ rfl 9 keyed9 RV encStr id str_inv RV_inv w4.heap.size wm.heap.size l.length D left cnt rfl hrg ?_ ?_)
    ·intro hc0 hl0;have hKs:ss.Perm K:=(hC.perm hrg.owns keyed9 underlying9 hl0).trans HKP.out.symm;have hA:(goesL p l now ss).Perm (goesL p l now K):=hKs.flatMap_right _;have hln:=goesL_len p l now ss
     have hnb:(goesL p l now ss).length<=1000000:=by
      have h1:ss.length<=1000:=by omega
      have h2:l.length<=1000:=by have:=HN.out;omega
      exact Nat.le_trans hln (Nat.mul_le_mul h1 h2)
     have HX7:=lh (X6.out.trans hx);have hwz:=X6.out.size;rcases hrow.2 with ⟨rfl,hnil⟩ | ⟨g7,cap7,cur7,rfl,hbase,hb,h1,h2,h3,h4⟩
     ·have HNl:=lh (show goesS p l now K=[] from by
       have h0:goesL p l now ss=[]:=by simpa using hnil
       rw [h0] at hA;unfold goesS;rw [<-hA.nil_eq]
       simp [sortS])
      have SN:=lh (fun p cap w=>Tryz.slices_Sort_string_none p cap w);clear hC hrg hrow hnil hl0 hx hcs hc0 hA hKs;go_wp2_with fail;refine (SN.out _ _ _).mono ?_;rintro e w9 ⟨rfl,rfl⟩;go_wp2_with fail;go_ret;refine ⟨_,rfl,?_,HX7.out⟩;rw [HNl.out];exact World.ownsRow_nil _ _ _ _
     ·have hH:Holds encStr wr g7 0 (goesL p l now ss).toArray:=holds_of_block hb (by simpa using h4);have hgl:g7<wr.heap.size:=(Array.getElem?_eq_some_iff.1 hb).1;have HS:=lh (Tryz.slices_Sort_string g7 0 cap7 (goesL p l now ss) wr hH hgl (by omega));have HEnd:=lh (fun n os=>goes_end (n:=n) (os:=os) hx hA hbase hb h1 h2 h3);clear hC hrg hrow hl0 hx hcs hc0 h4 hH h3 hb hA hKs;go_wp2_with fail;refine HS.out.mono ?_;rintro e w9 ⟨rfl,n9,os9,rfl⟩;have HE9:=lh (HEnd.out n9 os9);clear HEnd HS;go_wp2_with fail;go_ret;exact ⟨_,rfl,owns_down HE9.out.1 hwz,X6.out.trans HE9.out.2⟩
    ·intro x c kl yd yp w2 cnt2 hkey hlk hv hat hrg2 hlt hg2 hs2 hen;obtain ⟨x',ex,rfl,_⟩:=Maps.keyOf_str underlying9 hkey;obtain rfl:x=x':=encStr_inj ex;have hen2:(Instr.entry (.pointer (some ⟨wm.heap.size,0,none⟩))).run prog w2=.ok (.tuple #[.string (bsL x),c]) w2:=hen;have hC2:=hC.step hlk hat;have hR:=HRd.out (bsL x)
     have hgn:grp l (bsL x)≠[]:=fun q=>by
      have h1:=hR.1;rw [if_pos q,show Maps.has D (.string (bsL x).data.toList)=true from has_true_of_atKey hat] at h1
      cases h1
     have hcv:c=V (bsL x):=by
      have h2:=hR.2 (.held c);rw [if_neg hgn,show D.atKey (.string (bsL x).data.toList) (.held c)=_ from hat _] at h2
      cases hv
      injection h2
     subst hcv;have hx2:Ext wm w2:=Below.grown hx hg2 hx.size (fun j hj=>by cases hj;exact Nat.le_refl _);have hrow2:=hrow.kept hg2 (.inr (fun e=>row_ne_iter hrow hrg e.symm))
     have hgp:1<=(grp l (bsL x)).length:=by
      rcases hq:grp l (bsL x) with _ | ⟨a,b⟩
      ·exact absurd hq hgn
      ·simp
     have hes:=(row_ents ((HG.out.ext hx2).row (bsL x)) rfl (row_nonil ((HG.out.ext hx2).row (bsL x)) hgp)).1;have HW:=lh (HGo.out w2 (V (bsL x)) (bsL x) hes hgp);have HX2:=lh hx2;have HR2:=lh hrow2;have HG2:=lh hrg2;have HC2:=lh hC2;have HSn:=lh (goesL_snoc p l now ss x);have hln:=goesL_len p l now ss
     have hnb:(goesL p l now ss).length<=1000000:=by
      have h1:ss.length<=1000:=by omega
      have h2:l.length<=1000:=by have:=HN.out;omega
      exact Nat.le_trans hln (Nat.mul_le_mul h1 h2)
     have hgb:(goP p (grp l (bsL x)) now).length<=1000:=by
      have h1:=goP_len p (grp l (bsL x)) now;have h2:=grp_len l (bsL x);have:=HN.out;omega
     have HLT:=lh (show cnt2<cnt from hlt);have HGR:=lh hrg;have hcnt:ss.length+cnt2+1<=Maps.size D:=by omega
     have hb2:w2.heap[w.heap.size]?=some (.cells pc 89 (0,0)):=(hx2.block (ltB HB6.out)).trans HB6.out;have HB7:=lh hb2;clear hen hs2 hg2 hrg2 hv hkey ex hC hC2 hx hx2 hrow hrow2 hrg hlk hat hcs hlt hR hes hgn hb2;generalize V (bsL x)=vx at *;generalize goP p (grp l (bsL x)) now=GP at *;go_wp2_with (refine wpList_load_row rfl 89 (.tmp 3) rfl w.heap.size rfl _ pc (0,0) _ HB7.out underlying89 rfl HI.out ?_;go_frame);refine HW.out.mono ?_;rintro e w5 ⟨u5,rfl,hu5⟩;obtain ⟨o5,x5⟩:=hu5.out;obtain ⟨ad5,cap5,rfl,hz5,_,_,hat5⟩:=row_slice o5;have HX5:=lh (HX2.out.trans x5);have HR5:=lh (owns_ext HR2.out x5);have HG5:=lh (HG2.out.kept x5.grownBy (by simp) (by simp))
     have hnew:0<GP.length->∃ g k,ad5=some ⟨g,k,none⟩/\∀ (j:Nat) u,(GP.map Value.string)[j]?=some u->w5.cell? ⟨g,k+j,none⟩=some u:=fun h0=>by
      obtain ⟨y,hy⟩:∃ y,(GP.map Value.string)[0]?=some y:=⟨_,List.getElem?_eq_getElem (by simpa using h0)⟩;obtain ⟨g5,e5,_⟩:=hat5 0 y hy;refine ⟨g5,0,e5,fun j u hj=>?_⟩;obtain ⟨g6,e6,_,_,c6⟩:=hat5 j u hj;rw [e5] at e6
      cases e6
      rw [Nat.zero_add];exact c6
     have h1:∀ u∈GP.map Value.string,u.oneCell'=true:=fun u hu=>by
      obtain ⟨q,_,rfl⟩:=List.mem_map.1 hu;rfl
     clear hu5 o5 hat5 HW HX2 HR2 HG2;go_wp2_with (at_builtin;refine append_lots el_string wm.heap.size _ _ _ HR5.out ad5 GP.length cap5 (GP.map Value.string) (.tmp 45) (.tmp 49) rfl rfl rfl rfl (by simp) hz5 hnew h1 (by omega) HX5.out.size ?_;intro v7 w7 ho7 hg7;have HO7:=lh ho7;have HG7:=lh hg7;clear ho7 hg7;go_frame);have hge:=own_block_ge HR5.out;have r7:=lh (HG5.out.kept HG7.out (fun e=>by have:=hge _ e.symm;omega) (row_ne_iter HR5.out HG5.out));have x7:=lh (show Ext wm w7 from grown_ext HX5.out (Nat.le_refl _) HR5.out HG7.out)
     have HO8:=lh (show w7.ownsRow wm.heap.size 9 1 v7 (goesL p l now (ss++[x])).length ((goesL p l now (ss++[x])).map encStr) from by
      rw [HSn.out,List.length_append,List.length_map,List.map_append,List.map_map]
      exact HO7.out)
     go_roundw
     case rel=>exact ⟨_,cnt2,ss++[x],r7.out,by simp;omega,HO8.out,HC2.out,x7.out⟩
     case measure =>
      rw [r7.out.left_eq,HGR.out.left_eq];exact HLT.out
end
section
open Go.RowKit Go.Shelf
def bV1:ByteArray:=⟨#[118,49]⟩
def bAB:ByteArray:=⟨#[97,47,98]⟩
def bXY:ByteArray:=⟨#[120,121]⟩
def a0:Dk:=Dk.made 16384
def a1:Dk:=(a0.act (.mkdir bV1)).2
def a2:Dk:=(a1.act (.write (arcP bV1 7 0) (prefB bAB++bXY) 3)).2
def a3:Dk:=(a2.act (.write (arcP bV1 7 1) (prefB bAB++bXY) 3)).2
theorem ax1:a0.act (.mkdir bV1)=(0,a1):=by kernel_rfl
theorem ax2:a1.act (.write (arcP bV1 7 0) (prefB bAB++bXY) 3)=(0,a2):=by kernel_rfl
theorem ax3:a2.act (.write (arcP bV1 7 1) (prefB bAB++bXY) 3)=(0,a3):=by kernel_rfl
theorem ay0:(readE a0.live bV1).2=5:=by kernel_rfl
theorem ay1:(readE a1.live (arcP bV1 7 0)).2=5:=by kernel_rfl
theorem ay2:decide ((readE a2.live bV1).2=5)=false:=by kernel_rfl
theorem ay3:(readE a2.live (arcP bV1 7 0)).2=0:=by kernel_rfl
theorem ay4:(readE a2.live (arcP bV1 7 1)).2=5:=by kernel_rfl
theorem ar0:DkRun 0 a0:=DkRun.made (by decide) (by decide)
theorem ar1:DkRun 1 a1:=ar0.did ax1
theorem ar2:DkRun 2 a2:=ar1.did ax2
theorem ar3:DkRun 3 a3:=ar2.did ax3
theorem an0:nameA 7 0=⟨#[48,48,48,48,48,48,48,48,48,55,45,48,48,48,48]⟩:=by kernel_rfl
theorem an1:nameA 7 1=⟨#[48,48,48,48,48,48,48,48,48,55,45,48,48,48,49]⟩:=by kernel_rfl
theorem mb1:mayB bV1=true:=by kernel_rfl
theorem mb2:mayB bAB=true:=by kernel_rfl
set_option maxRecDepth 100000 in
set_option maxHeartbeats 2000000 in
theorem file19 (s:ByteArray) (t:Int) (w:World):Calls prog 49 #[.string s,.int .i64 t] w fun e w'=>e=.returned (.agg #[.int .i64 1,.string s,.string ⟨#[]⟩,.int .i64 t])/\Ext w w':=by
 go_enter func49,ntmps49;go_wp2;refine bodyPost_ret (results_cell_row rfl _ _ w.heap.size 84 #[.int .i64 1,.string s,.string ⟨#[]⟩,.int .i64 t] (0,0) _ rfl (block_alloc_new _ _) underlying84 rfl (by kernel_rfl)) rfl ⟨rfl,(Ext.refl w).alloc _⟩
set_option maxRecDepth 100000 in
set_option maxHeartbeats 2000000 in
theorem at19 (t:Int) (s:ByteArray) (w:World):Calls prog 92 #[.int .i64 t,.string s] w fun e w'=>e=.returned (.agg #[.string s,.string ⟨#[97]⟩,.int .i64 t,.int .i64 0])/\Ext w w':=by
 go_enter func92,ntmps92;go_wp2;refine bodyPost_ret (results_cell_row rfl _ _ w.heap.size 93 #[.string s,.string ⟨#[97]⟩,.int .i64 t,.int .i64 0] (0,0) _ rfl (block_alloc_new _ _) underlying93 rfl (by kernel_rfl)) rfl ⟨rfl,(Ext.refl w).alloc _⟩
theorem join19 {w:World} {base:Nat} {v:Value} {l:List ByteArray} (h:w.ownsRow base 9 1 v l.length (l.map Value.string)) (hl:l.length<=1) (hz:∀ s∈l,s.size<=100000) (sep:ByteArray) :
  Calls prog 22 #[v,.string sep] w fun e w'=>e=.returned (.string (l.headD ⟨#[]⟩))/\Ext w w':=by
 match l,h,hl,hz with
 | [],h,_,_ =>
  obtain ⟨a,c,rfl⟩:=rowk_shape h;refine (Tryz.strings_Join_none a c sep w).mono ?_;rintro e w' ⟨rfl,rfl⟩;exact ⟨rfl,Ext.refl _⟩
 | [x],h,_,hz=>exact join_one (TextsOwn.of h rfl) sep (hz x (by simp))
set_option maxRecDepth 100000 in
set_option maxHeartbeats 2000000 in
theorem goes19 {w:World} {v:Value} {l:List Ent} (h:EntsSl w v l) (hr:Rise l) (hl:l.length<=1000) (h0:1<=l.length) (hpz:∀ x∈l,x.path.size<=100000) (hso:∀ w1 u,EntsSl w1 u l->SortsAt w1 u)
  (p:Pol) (hp:okP p=true) (now:Int) (K:List (List UInt8)) (hK:K.Nodup) (hm:∀ x,x∈K↔grp l (bsL x)≠[]) {out:List ByteArray} (ho:goesS p l now K=out) (ho1:out.length<=1) (ho2:∀ s∈out,s.size<=100000) :
  Calls prog 53 #[polV p,v,.int .i64 now] w fun e w'=>e=.returned (.string (out.headD ⟨#[]⟩))/\Ext w w':=by
 subst ho;have HG:=lh (fun w1 (x:Ext w w1)=>agoes_any (h.ext x) hr hl h0 hpz hso p hp now K hK hm);have HJ:=lh (fun (w1:World) base u (q:w1.ownsRow base 9 1 u (goesS p l now K).length ((goesS p l now K).map Value.string))=>join19 q ho1 ho2 ⟨#[32]⟩);have HP:=lh (show polV p=.agg #[.int .i64 p.kind,.int .i64 p.keep,.int .i64 p.age] from rfl);obtain ⟨g,o,cap,rfl,_⟩:=h;generalize goesS p l now K=out at *;generalize l.length=n at *;rw [HP.out];rw [HP.out] at HG;clear hpz hso hm;go_enter func53,ntmps53;go_wp2_with fail;refine (HG.out _ ((Ext.refl w).alloc _)).mono ?_;rintro e w1 ⟨u,rfl,h1⟩;have H1:=lh (HJ.out w1 _ u h1.out.1);have X1:=lh (((Ext.refl w).alloc (.cells #[.int .i64 p.kind,.int .i64 p.keep,.int .i64 p.age] 89 (0,0))).trans h1.out.2);clear h1 HG HJ;go_wp2_with fail;refine H1.out.mono ?_;rintro e w2 ⟨rfl,x2⟩;have X2:=lh (X1.out.trans x2);clear x2;go_wp2;go_ret;exact ⟨by rw [List.headD_eq_head?_getD];rfl,X2.out⟩
set_option maxRecDepth 100000 in
set_option maxHeartbeats 2000000 in
theorem two_many {w0 w:World} {A:List Thing} (h:Things w0 w A) (E:EnvA w0) :
  Calls prog 51 #[] w fun e w'=>∃ d,e=.returned (.pointer (some ⟨d,0,none⟩))/\Hid (Things w0 w' (A++[.disk d a3])):=by
 have H0:=lh (new_many h 16384 (by decide) (by decide));have HE:=lh E;have HF:=lh (fun w1=>file19 ⟨#[120,121]⟩ 3 w1);clear h E;go_enter func51,ntmps51;go_wp2_with fail;refine H0.out.mono ?_;rintro e w1 ⟨d,rfl,h1⟩;have T1:=lh h1;clear h1 H0;go_wp2_with fail;refine (HF.out _).mono ?_;rintro e w2 ⟨rfl,x2⟩;have T2:=lh (T1.out.ext x2);have H2:=lh (aadd_many (A:=A) (B:=[]) T2.out (ar0.mono (Nat.zero_le 5)) (ar1.mono (by decide)) (by decide) HE.out bV1 bAB bXY ⟨#[]⟩ 3 7 0 mb1 mb2 (by decide) (by decide) (.inr ⟨ay0,ax1⟩) (by decide) (fun j hj=>by omega) (by rw [ay1];decide) ax2);rw [if_pos rfl,an0] at H2;unfold bV1 bAB bXY at H2;clear x2 T1;go_wp2_with fail;refine H2.out.mono ?_;rintro e w3 ⟨rfl,h3⟩;have T3:=lh h3.out;clear h3 H2 T2;go_wp2_with fail;refine (HF.out _).mono ?_;rintro e w4 ⟨rfl,x4⟩;have T4:=lh (T3.out.ext x4);have H4:=lh (aadd_many (A:=A) (B:=[]) T4.out (ar2.mono (by decide)) (ar2.mono (by decide)) (by decide) HE.out bV1 bAB bXY ⟨#[]⟩ 3 7 1 mb1 mb2 (by decide) (by decide) (.inl ⟨of_decide_eq_false ay2,rfl⟩) (by decide) (fun j hj=>by obtain rfl:j=0:=(by omega);exact ay3) (by rw [ay4];decide) ax3 (m:=5));rw [if_pos rfl,an1] at H4;unfold bV1 bAB bXY at H4;clear x4 T3 HF;go_wp2_with fail;refine H4.out.mono ?_;rintro e w5 ⟨rfl,h5⟩;have T5:=lh h5.out;clear h5 H4 T4;go_wp2_with fail;go_ret;exact ⟨d,rfl,T5.out⟩
end
section
open Go.RowKit Go.Shelf
def cellsE (e:Ent):Array Value:=#[.string e.name,.string e.path,.int .i64 e.time,.int .i64 e.size]
theorem eq_ent (x y:Ent) (w:World):(Go.Op.equalIn 10000 93 (.agg (cellsE x)) (.agg (cellsE y))).run prog w=.ok (decide (x.name=y.name/\x.path=y.path/\x.time=y.time/\x.size=y.size)) w:=by
 have u3:=underlying3;have a3:=Tryz.isAgg3;have z3:=Tryz.sizeOf3;have u2:=underlying2;have a2:=Tryz.isAgg2;have z2:=Tryz.sizeOf2;have u9:=underlying9;have a9:=Tryz.isAgg9;have z9:=Tryz.sizeOf9;have hS:prog.underlying 93=some (.struct (prog.fieldsOf 93)):=by kernel_rfl
 have hp:prog.stoodInHeld 93=false:=by kernel_rfl
 simp only [cellsE];rw [show (10000:Nat)=9999+1 from rfl,run_equalIn_agg w 9999 93 _ _ hS hp];simp only [Program.fieldsOf,underlying93];go_simp;have te:∀ a b:ByteArray,(a.toList=b.toList)=(a=b):=fun a b=>propext ⟨ba_ext,fun h=>h▸rfl⟩;obtain ⟨k,d,t,m⟩:=x;obtain ⟨k',d',t',m'⟩:=y;by_cases h1:k=k' <;> by_cases h2:d=d' <;> by_cases h3:t=t' <;> by_cases h4:m=m' <;> simp [h1,h2,h3,h4,te]
theorem sortS_nil:sortS []=[]:=by simp [sortS]
theorem sortS_one (x:List UInt8):sortS [x]=[bsL x]:=by simp [sortS]
def riseB:List Ent->Bool
 | []=>true
 | x::l=>l.all (fun y=>!Go.Op.bytesLess y.name.toList x.name.toList&&!(x.name.toList==y.name.toList))&&riseB l
theorem rise_of:∀ (l:List Ent),riseB l=true->Rise l
 | [],_=>List.Pairwise.nil
 | x::l,h=>by
  unfold riseB at h;rw [Bool.and_eq_true] at h;refine List.Pairwise.cons (fun y hy=>?_) (rise_of l h.2);have:=List.all_eq_true.1 h.1 y hy
  simpa using this
theorem one_path {l:List Ent} {p:ByteArray} (hl:l≠[]) (h:∀ x∈l,x.path=p):(∀ x,x∈[p.data.toList]↔grp l (bsL x)≠[])/\grp l (bsL p.data.toList)=l:=by
 have hg:grp l p=l:=List.filter_eq_self.2 fun x hx=>by simpa using h x hx
 refine ⟨fun x=>?_,hg⟩;rw [List.mem_singleton];constructor
 ·rintro rfl;rw [show bsL p.data.toList=p from rfl,hg];exact hl
 ·intro hn;obtain ⟨y,hy⟩:=List.exists_mem_of_ne_nil _ hn;obtain ⟨h1,h2⟩:=List.mem_filter.1 hy;have e:p=bsL x:=(h y h1).symm.trans (of_decide_eq_true h2);rw [e];rfl
theorem goes_one {p:Pol} {l:List Ent} {now:Int} {q s:ByteArray} (hg:grp l (bsL q.data.toList)=l) (h:goP p l now=[s]):goesS p l now [q.data.toList]=[s]:=by
 unfold goesS goesL;simp only [List.flatMap_cons,List.flatMap_nil,List.append_nil,hg,h,List.map_cons,List.map_nil,sortS_one];rfl
theorem goes_none {p:Pol} {l:List Ent} {now:Int} {q:ByteArray} (hg:grp l (bsL q.data.toList)=l) (h:goP p l now=[]):goesS p l now [q.data.toList]=[]:=by
 unfold goesS goesL;simp only [List.flatMap_cons,List.flatMap_nil,List.append_nil,hg,h,List.map_nil,sortS_nil]
theorem goes1 {w:World} {v:Value} {l:List Ent} (h:EntsSl w v l) (hr:riseB l=true) (hl:decide (l.length<20)=true) (hne:l≠[]) {q:ByteArray} (hq:∀ x∈l,x.path=q) (hqz:q.size<=100000)
  (p:Pol) (hp:okP p=true) (now:Int) {out:List ByteArray} (ho:goP p l now=out) (ho1:out.length<=1) (ho2:∀ s∈out,s.size<=100000) :
  Calls prog 53 #[polV p,v,.int .i64 now] w fun e w'=>e=.returned (.string (out.headD ⟨#[]⟩))/\Ext w w':=by
 have hl':=of_decide_eq_true hl;obtain ⟨h1,h2⟩:=one_path hne hq;refine goes19 h (rise_of l hr) (by omega) (List.length_pos_iff.2 hne) (fun x hx=>by rw [hq x hx];exact hqz) (fun w1 u q1=>sorts_small q1 (rise_of l hr) hl') p hp now [q.data.toList] (by simp) h1 (out:=out) ?_ ho1 ho2
 match out,ho,ho1 with
 | [],ho,_=>exact goes_none h2 ho
 | [s],ho,_=>exact goes_one h2 ho
def lTwo:List Ent:=[⟨nameA 7 0,bAB,7,2⟩,⟨nameA 7 1,bAB,7,2⟩]
def bA:ByteArray:=⟨#[97]⟩
def lFive:List Ent:=[⟨⟨#[49]⟩,bA,0,0⟩,⟨⟨#[50]⟩,bA,5,0⟩,⟨⟨#[51]⟩,bA,95,0⟩,⟨⟨#[52]⟩,bA,150,0⟩,⟨⟨#[53]⟩,bA,199,0⟩]
theorem al3:entsL a3.live bV1=lTwo:=by kernel_rfl
theorem al4:dirE a3.live bV1=0:=by kernel_rfl
theorem al5:decide (a3.live.length<=20000)=true:=by kernel_rfl
theorem gt1:goP ⟨2,1,0⟩ lTwo 9=[nameA 7 0]:=by kernel_rfl
theorem gt2:goP ⟨3,0,0⟩ lFive 200=[⟨#[51]⟩]:=by kernel_rfl
theorem rt1:riseB lTwo=true:=by kernel_rfl
theorem rt2:riseB lFive=true:=by kernel_rfl
theorem pt1:∀ x∈lTwo,x.path=bAB:=by
 intro x hx;simp only [lTwo,List.mem_cons,List.not_mem_nil,or_false] at hx;rcases hx with rfl | rfl <;> rfl
theorem pt2:∀ x∈lFive,x.path=bA:=by
 intro x hx;simp only [lFive,List.mem_cons,List.not_mem_nil,or_false] at hx;rcases hx with rfl | rfl | rfl | rfl | rfl <;> rfl
theorem wpList_buildMany {P:Program} {ops:Array Oper} {rest:List Oper} {a:Act} {Q:Exit->Act->World->Prop} {w:World} {t e:TypeId} {z:Value} {k bytes:Nat} (el:ElemK P t e z k bytes) {o:Oper} (hg:o.guard=none) (n:Nat) (parts:Array (Nat×Operand))
  (ho:o.op=.buildSlice t n parts) (vs:List Value) (hn:vs.length=n) (hp:(parts.map fun (i,x)=>(i,a.eval x)).toList=(vs.zipIdx 0).map fun x=>(x.2,x.1)) (hv:∀ v∈vs,v.cells.size=k) (h0:0<n) (hk:n*k<=1000)
  (h:wpList P ops Q rest (a.put o.dst (.slice (some ⟨w.heap.size,0,none⟩) n n)) (w.alloc (.cells (vs.flatMap fun v=>v.cells.toList).toArray e))):wpList P ops Q (o::rest) a w:=by
 obtain ⟨i,hi,hz,hs,_⟩:=info_parts el.info;have hpos:=el.pos;have hpos2:=Nat.mul_pos h0 hpos;refine wpList_buildSlice hg t e n parts ho _ i z el.ut hi hz (by rw [hs];omega) (by rw [hs];omega) ?_ h;rw [hp];exact Go.Great.fill_whole (by rw [hs];exact hpos) vs _ (fun v hx=>by rw [hs];exact hv v hx) (by simp [hn])
set_option maxRecDepth 100000 in
set_option maxHeartbeats 8000000 in
theorem awake19 (w:World) (E:EnvA w):Calls prog 39 #[] w fun e w'=>e=.returned (.bool true)/\Ext w w':=by
 have H0:=lh (two_many (Things.start (Ext.refl w)) E);have HE:=lh E;have HA:=lh (fun t s w1=>at19 t s w1);clear E;go_enter func39,ntmps39;go_wp2_with fail;refine H0.out.mono ?_;rintro e w1 ⟨d,rfl,h1⟩;have H1:=lh (alist_many (A:=[]) (B:=[]) h1.out ar3.ok (HE.out.ext h1.out.is_ext) bV1 mb1 al4 (of_decide_eq_true al5));rw [al3] at H1;unfold bV1 at H1;have X1:=lh h1.out.is_ext;clear h1 H0;go_wp2_with fail;refine H1.out.mono ?_;rintro e w2 ⟨v,rfl,h2⟩;obtain ⟨ho2,hx2⟩:=h2.out;obtain ⟨hq,hv⟩:=row_ents (l:=lTwo) ho2 rfl (row_nonil ho2 (by decide));obtain ⟨g,o,cap,hv2,hc2,hc3,hc4⟩:=hq;have HQ:=lh (show EntsSl w2 (.slice (some ⟨g,o,none⟩) 2 cap) lTwo from ⟨g,o,cap,rfl,hc2,hc3,hc4⟩);have c0:=lh (hc4 0 (.string (nameA 7 0)) rfl);rw [an0] at c0;subst hv2;rw [show lTwo.length=2 from rfl] at hc2 ⊢;have X2:=lh (X1.out.trans hx2);clear h2 ho2 hx2 H1 hv hc4;go_wp2_with fail;refine (HA.out _ _ _).mono ?_;rintro e w3 ⟨rfl,x3⟩;have X3:=lh x3;clear x3;go_wp2_with fail;refine (HA.out _ _ _).mono ?_;rintro e w4 ⟨rfl,x4⟩;have X4:=lh (X3.out.trans x4);clear x4;go_wp2_with fail;refine (HA.out _ _ _).mono ?_;rintro e w5 ⟨rfl,x5⟩;have X5:=lh (X4.out.trans x5);clear x5;go_wp2_with fail;refine (HA.out _ _ _).mono ?_;rintro e w6 ⟨rfl,x6⟩;have X6:=lh (X5.out.trans x6);clear x6;go_wp2_with fail;refine (HA.out _ _ _).mono ?_;rintro e w7 ⟨rfl,x7⟩;have X7:=lh (X6.out.trans x7);clear x7 X3 X4 X5 X6;have HB:=lh (block_alloc_new w7 (.cells (entsV lFive).toArray 93 (0,0)));have X8:=lh (X7.out.alloc (.cells (entsV lFive).toArray 93 (0,0)));go_upto_region 6 with (refine wpList_buildMany elEnt rfl 5 _ rfl (lFive.map fun e=>.agg (cellsE e)) rfl rfl (fun v hv=>by obtain ⟨e,_,rfl⟩:=List.mem_map.1 hv;rfl) (by decide) (by decide) ?_;go_frame)
 have HQ8:=lh (HQ.out.ext X8.out)
 have HF8:=lh (show EntsSl (w7.alloc (.cells (entsV lFive).toArray 93 (0,0))) (.slice (some ⟨w7.heap.size,0,none⟩) 5 5) lFive from ⟨w7.heap.size,0,5,rfl,Nat.le_refl _,by decide,fun j u hj=>by
  rw [Nat.zero_add]
  exact (cellB HB.out).trans (by rw [<-Array.getElem?_toList];exact hj)⟩)
 have c8:=(X8.out.cell (lt_of_cell c0.out)).trans c0.out;rw [Nat.add_zero] at c8;have XF:=lh (X2.out.trans X8.out)
 show Code.wp _ _ _ _ (w7.alloc (.cells (entsV lFive).toArray 93 (0,0)))
 generalize w7.alloc (.cells (entsV lFive).toArray 93 (0,0))=w8 at *
 have r0:=lh (fun z:After w8=>(by
  have:=(show EntsSl z.v (.slice (some ⟨g,o,none⟩) lTwo.length cap) lTwo from HQ8.out.ext z.x).at (k:=0) (x:=⟨nameA 7 0,bAB,7,2⟩) rfl;rw [an0] at this
  exact this:z.v.rangeAt g (o+0*4) [.string ⟨#[48,48,48,48,48,48,48,48,48,55,45,48,48,48,48]⟩,.string ⟨#[97,47,98]⟩,.int .i64 7,.int .i64 2]))
 rw [Nat.zero_mul,Nat.add_zero] at r0;have G1:=lh (fun z:After w8=>goes1 (HQ8.out.ext z.x) rt1 rfl (by simp [lTwo]) pt1 (by decide) ⟨2,1,0⟩ rfl 9 gt1 (by decide) (fun s hs=>by rw [List.mem_singleton.1 hs,nameA_size];decide));have G2:=lh (fun z:After w8=>goes1 (HF8.out.ext z.x) rt2 rfl (by simp [lFive]) pt2 (by decide) ⟨3,0,0⟩ rfl 200 gt2 (by decide) (fun s hs=>by rw [List.mem_singleton.1 hs];decide));rw [an0] at G1;unfold polV at G1 G2;dsimp only [List.headD_cons] at G1 G2
 have he:∀ w',(Go.Op.equalIn 10000 93 (.agg #[.string ⟨#[48,48,48,48,48,48,48,48,48,55,45,48,48,48,48]⟩,.string ⟨#[97,47,98]⟩,.int .i64 7,.int .i64 2]) (.agg #[.string ⟨#[48,48,48,48,48,48,48,48,48,55,45,48,48,48,48]⟩,.string ⟨#[97,47,98]⟩,.int .i64 7,.int .i64 2])).run prog w'=.ok true w':=fun w'=>by
  have:=eq_ent ⟨⟨#[48,48,48,48,48,48,48,48,48,55,45,48,48,48,48]⟩,⟨#[97,47,98]⟩,7,2⟩ ⟨⟨#[48,48,48,48,48,48,48,48,48,55,45,48,48,48,48]⟩,⟨#[97,47,98]⟩,7,2⟩ w';rw [decide_eq_true ⟨rfl,rfl,rfl,rfl⟩] at this;exact this
 clear HQ HB X7 X1 HA c0 HE HF8 HQ8;have c9:=fun z:After w8=>(z.x.cell (lt_of_cell c8)).trans c8;clear c8;refine wp_region_after (by kernel_rfl) (by kernel_rfl) ?_
 iterate 10 go_big_quiet_step (fail)
 refine wpQuiet_load_ag rfl _ _ rfl g o rfl #[.string ⟨#[48,48,48,48,48,48,48,48,48,55,45,48,48,48,48]⟩,.string ⟨#[97,47,98]⟩,.int .i64 7,.int .i64 2] _ (by rintro _ ⟨z,rfl⟩;exact r0.out z) underlying93 rfl (by kernel_rfl) ?_;go_frame
 iterate 6 go_big_quiet_step (fail)
 go_big_quiet_step (exact After.of (G1.out _))
 iterate 9 go_big_quiet_step (fail)
 go_big_quiet_step (exact After.of (G2.out _))
 iterate 3 go_big_quiet_step (fail)
 refine wpQuiet_nil ?_;rintro _ ⟨z,rfl⟩;have XZ:=lh (XF.out.trans z.x);go_wp2;go_ret;exact ⟨rfl,XZ.out⟩
end
section
open Go.RowKit Go.Shelf
end
section
open Go.RowKit
theorem cut_slash {a b c d:List UInt8} (h:a++47::b=c++47::d) (hb:47∉b) (hd:47∉d):a=c/\b=d:=by
 rcases List.append_eq_append_iff.1 h with ⟨e,h1,h2⟩ | ⟨e,h1,h2⟩
 ·cases e with
  | nil =>
   simp only [List.nil_append,List.cons.injEq,true_and] at h2;exact ⟨by rw [h1,List.append_nil],h2⟩
  | cons x e =>
   rw [List.cons_append,List.cons.injEq] at h2;exact absurd (by rw [h2.2];simp) hb
 ·cases e with
  | nil =>
   simp only [List.nil_append,List.cons.injEq,true_and] at h2;exact ⟨by rw [h1,List.append_nil],h2.symm⟩
  | cons x e =>
   rw [List.cons_append,List.cons.injEq] at h2;exact absurd (by rw [h2.2];simp) hd
theorem name_noslash (t k:Nat):47∉(nameA t k).toList:=by
 rw [nameA_list];intro h
 have hno:∀ (d n:Nat),(47:UInt8)∉fixed n d:=fun d n hm=>by
  have:=List.all_eq_true.1 (fixed_dg d n) 47 hm;revert this
  decide
 rcases List.mem_append.1 h with h | h
 ·exact hno _ _ h
 ·rcases List.mem_cons.1 h with h | h
  ·revert h;decide
  ·exact hno _ _ h
theorem arcP_list (root:ByteArray) (t k:Nat):(arcP root t k).toList=root.toList++47::(nameA t k).toList:=by
 unfold arcP;rw [toList_append,toList_append,show (⟨#[47]⟩:ByteArray).toList=[47] from toList_mk _,List.append_assoc];rfl
theorem arc_path {root:ByteArray} {t k:Nat} (hr:mayB root=true) (h:mayB (arcP root t k)=true):parentR (arcP root t k)=root/\baseR (arcP root t k)=nameA t k:=by
 have hne:root.toList≠[]:=fun e=>by
  have:root=⟨#[]⟩:=ba_ext (by simpa using e);rw [this,show mayB ⟨#[]⟩=false from by kernel_rfl] at hr
  cases hr
 have hp:=part_parent h
 have h0:(parentS (arcP root t k)).toList.isEmpty=false:=by
  rcases parent_split (arcP_list root t k) with e | ⟨r,e,_⟩
  ·rw [e]
   cases hq:root.toList with
   | nil=>exact absurd hq hne
   | cons _ _=>rfl
  ·rw [e]
   cases root.toList <;> rfl
 have h1:=hp.2 h0;rw [arcP_list] at h1;obtain ⟨e1,e2⟩:=cut_slash h1 (name_noslash t k) (base_no _);unfold parentR baseR;rw [if_pos h,if_pos h];exact ⟨(ba_ext e1).symm,(ba_ext e2).symm⟩
theorem arc_ent {root p s g:ByteArray} {t k:Nat} {tm:Int} (ht:t<=4294967295) (hr:mayB root=true) (h:mayB (arcP root t k)=true) (hp:mayB p=true):entX (arcP root t k,⟨1,prefB p++s,g,tm⟩)=some ⟨nameA t k,p,(t:Nat),(s.size:Nat)⟩:=by
 obtain ⟨h1,h2⟩:=arc_path hr h;obtain ⟨o1,o2,o3⟩:=open_pref p s g tm hp;unfold entX;dsimp only;rw [h2,name_named t k ht,o1,o2,o3,(name_form t k (by omega)).2];rfl
end
section
open Go.RowKit
theorem cmp_fixed:∀ (d a b:Nat),a<b->b<10 ^ d->∀ u v,cmpL (fixed a d++u) (fixed b d++v)=-1
 | 0,a,b,h,hb,_,_=>by simp at hb;omega
 | d+1,a,b,h,hb,u,v=>by
  have hb':b / 10<10 ^ d:=by rw [Nat.pow_succ] at hb;omega
  rw [fixed,fixed,List.append_assoc,List.append_assoc];by_cases h1:a / 10<b / 10
  ·exact cmp_fixed d _ _ h1 hb' _ _
  ·have e:a / 10=b / 10:=by omega
   rw [e,cmpL_ahead];have hlt:a % 10<b % 10:=by omega
   have n1:=dg_toNat a;have n2:=dg_toNat b;generalize UInt8.ofNat (48+a % 10)=x at *;generalize UInt8.ofNat (48+b % 10)=y at *
   show cmpL (x::u) (y::v)=-1
   unfold cmpL;rw [if_neg (fun q=>by rw [q] at n1;omega),if_neg (fun q=>by rw [q] at n1;simp at n1;omega),if_neg (fun q=>by rw [q] at n2;simp at n2;omega),if_pos (by omega)]
def lexLt (x y:Nat×Nat):Prop:=x.1<y.1\/(x.1=y.1/\x.2<y.2)
theorem cmp_name {t k t' k':Nat} (h:lexLt (t,k) (t',k')) (ht:t'<10000000000) (hk:k'<10000):cmpL (nameA t k).toList (nameA t' k').toList=-1:=by
 rw [nameA_list,nameA_list];rcases h with h | ⟨h1,h2⟩
 ·exact cmp_fixed 10 _ _ h ht _ _
 ·have h1:t=t':=h1;subst h1;rw [cmpL_ahead]
  show cmpL (45::fixed k 4) (45::fixed k' 4)=-1
  have:=cmp_fixed 4 k k' h2 hk [] [];rw [List.append_nil,List.append_nil] at this;unfold cmpL;rw [if_pos rfl];exact this
theorem less_anti:∀ (b c:List UInt8),Go.Op.bytesLess b c=true->Go.Op.bytesLess c b=false
 | _,[],h=>by simp [Go.Op.bytesLess] at h
 | [],_::_,_=>rfl
 | x::b,y::c,h=>by
  simp only [Go.Op.bytesLess,Bool.or_eq_true,decide_eq_true_eq,Bool.and_eq_true,beq_iff_eq] at h;simp only [Go.Op.bytesLess,Bool.or_eq_false_iff,decide_eq_false_iff_not,Bool.and_eq_false_iff,beq_eq_false_iff_ne];rcases h with h | ⟨rfl,h⟩
  ·exact ⟨by rw [UInt8.not_lt];exact UInt8.le_of_lt h,.inl (fun q=>by rw [q] at h;exact absurd h (UInt8.lt_irrefl _))⟩
  ·exact ⟨UInt8.lt_irrefl _,.inr (less_anti b c h)⟩
theorem name_less19 {t k t' k':Nat} (h:lexLt (t,k) (t',k')) (ht:t'<10000000000) (hk:k'<10000):Go.Op.bytesLess (nameA t k).toList (nameA t' k').toList=true/\Go.Op.bytesLess (nameA t' k').toList (nameA t k).toList=false/\((nameA t' k').toList==(nameA t k).toList)=false:=by
 have h1:=cmp_less _ _ (name_noslash t k) (name_noslash t' k') (cmp_name h ht hk);refine ⟨h1,less_anti _ _ h1,?_⟩;rw [beq_eq_false_iff_ne];intro e;have h2:=cmp_name h ht hk;rw [<-e,cmpL_self] at h2
 cases h2
theorem nameV:nameB [118,49]=true:=by kernel_rfl
theorem pm0:mayB ⟨#[UInt8.ofNat (97+0)]⟩=true:=by kernel_rfl
theorem pm1:mayB ⟨#[UInt8.ofNat (97+1)]⟩=true:=by kernel_rfl
theorem pm2:mayB ⟨#[UInt8.ofNat (97+2)]⟩=true:=by kernel_rfl
theorem arc_may (t k:Nat):mayB (arcP bV1 t k)=true:=by
 have hn:=name_noslash t k;have hl:(nameA t k).toList.length=15:=by rw [len_toList,nameA_size]
 have hok:(nameA t k).toList.all okByte=true:=by
  rw [nameA_list]
  have hf:∀ n d,(fixed n d).all okByte=true:=fun n d=>List.all_eq_true.2 fun c hc=>by
   have:=List.all_eq_true.1 (fixed_dg d n) c hc;unfold isDg at this;rw [Bool.and_eq_true,decide_eq_true_eq,decide_eq_true_eq] at this;unfold okByte;rw [decide_eq_false (by omega),show ((c.toNat:Int)==127)=false from by rw [beq_eq_false_iff_ne];omega,show ((c.toNat:Int)==47)=false from by rw [beq_eq_false_iff_ne];omega];rfl
  rw [List.all_append,List.all_cons,hf,hf];rfl
 have hp:piecesL (arcP bV1 t k).toList=[[118,49],(nameA t k).toList]:=by
  rw [arcP_list];unfold piecesL;rw [splitAux_at,splitAux_no _ _ hn,show bV1.toList=[118,49] from toList_mk _];rfl
 have hlen:(arcP bV1 t k).toList.length=18:=by rw [len_toList,arcP_size']
 rw [mayB_list];unfold mayL;rw [hp,hlen]
 have ha:(aheadL (arcP bV1 t k).toList).length<=18:=by
  unfold aheadL;rw [List.length_take,hlen];omega
 rw [decide_eq_true (by omega),decide_eq_true (by omega)]
 have hb:nameB (nameA t k).toList=true:=by
  unfold nameB;rw [hl,hok];have e1:((nameA t k).toList==[46])=false:=by rw [beq_eq_false_iff_ne];intro e;rw [e] at hl;simp at hl
  have e2:((nameA t k).toList==[46,46])=false:=by rw [beq_eq_false_iff_ne];intro e;rw [e] at hl;simp at hl
  rw [e1,e2];rfl
 simp [hb,nameV]
where
 arcP_size':(arcP bV1 t k).size=18:=by
  unfold arcP;rw [ByteArray.size_append,ByteArray.size_append,nameA_size];rfl
theorem ins_last {l:Nodes} {P:ByteArray} {n:Nd} (h:∀ x∈l,cmpL x.1.toList P.toList=-1):insS l P n=l++[(P,n)]:=by
 induction l with
 | nil=>rfl
 | cons y r ih =>
  obtain ⟨q,m⟩:=y;have h1:cmpL q.toList P.toList=-1:=h (q,m) List.mem_cons_self;have h2:cmpL P.toList q.toList=1:=by rw [cmpL_anti q.toList,h1];rfl
  unfold insS;rw [if_neg (fun e=>by rw [e,cmpL_self] at h1;cases h1),if_neg (by rw [h2];decide),ih fun x hx=>h x (List.mem_cons_of_mem _ hx)];rfl
def pthN (i:Nat):ByteArray:=⟨#[UInt8.ofNat (97+i % 3)]⟩
theorem pth_may (i:Nat):mayB (pthN i)=true:=by
 unfold pthN;have h:i % 3=0\/i % 3=1\/i % 3=2:=by omega
 rcases h with h | h | h <;> rw [h]
 ·exact pm0
 ·exact pm1
 ·exact pm2
def ndN (i:Nat):Nd:=⟨1,prefB (pthN i)++⟨#[120]⟩,emp,1⟩
def ndsN (ns:List (Nat×Nat)):Nodes:=ns.mapIdx fun j x=>(arcP bV1 x.1 x.2,ndN j)
theorem ndsN_snoc (ns:List (Nat×Nat)) (x:Nat×Nat):ndsN (ns++[x])=ndsN ns++[(arcP bV1 x.1 x.2,ndN ns.length)]:=by
 unfold ndsN;rw [List.mapIdx_concat]
theorem ndsN_mem {ns:List (Nat×Nat)} {y:ByteArray×Nd} (h:y∈ndsN ns):∃ x∈ns,∃ j,y=(arcP bV1 x.1 x.2,ndN j):=by
 unfold ndsN at h;rw [List.mem_mapIdx] at h;obtain ⟨j,hj,rfl⟩:=h;exact ⟨_,List.getElem_mem hj,j,rfl⟩
theorem used_nds (ns:List (Nat×Nat)):usedL (ndsN ns)<=68*ns.length:=by
 have:∀ l:Nodes,(∀ x∈l,x.2.data.size=4)->usedL l=68*l.length:=fun l=>by
  induction l with
  | nil=>intro _;rfl
  | cons x r ih =>
   intro h;rw [usedL,ih fun y hy=>h y (List.mem_cons_of_mem _ hy),h x List.mem_cons_self,List.length_cons];omega
 have hlen:(ndsN ns).length=ns.length:=by unfold ndsN;rw [List.length_mapIdx]
 rw [this _ fun x hx=>by
  obtain ⟨y,_,j,rfl⟩:=ndsN_mem hx
  show (prefB (pthN j)++⟨#[120]⟩).size=4
  rw [ByteArray.size_append,prefB_size]
  rfl,hlen]
 exact Nat.le_refl _
def dirV:ByteArray×Nd:=(bV1,⟨2,emp,emp,0⟩)
theorem cmp_dir (t k:Nat):cmpL bV1.toList (arcP bV1 t k).toList=-1:=by
 rw [arcP_list];exact cmpL_prefix _ _ _
structure TurnB (ns:List (Nat×Nat)) (D:Dk):Prop where
 live:D.live=dirV::ndsN ns
 room:D.room=16384
 fused:D.fused=false
theorem TurnB.put {ns:List (Nat×Nat)} {D:Dk} (h:TurnB ns D) (hn:ns.length<=40) {t k:Nat} (ht:t<10000000000) (hk:k<10000) (hup:∀ x∈ns,lexLt x (t,k)) :
  ∃ D',D.act (.write (arcP bV1 t k) (prefB (pthN ns.length)++⟨#[120]⟩) 1)=(0,D')/\TurnB (ns++[(t,k)]) D':=by
 have hins:insS D.live (arcP bV1 t k) (ndN ns.length)=dirV::ndsN (ns++[(t,k)]):=by
  rw [h.live,ndsN_snoc,ins_last]
  ·rfl
  ·intro x hx;rcases List.mem_cons.1 hx with rfl | hx
   ·exact cmp_dir t k
   ·obtain ⟨y,hy,j,rfl⟩:=ndsN_mem hx
    show cmpL (arcP bV1 y.1 y.2).toList _=-1
    rw [arcP_list,arcP_list,cmpL_ahead]
    show cmpL (47::_) (47::_)=-1
    unfold cmpL;rw [if_pos rfl];exact cmp_name (hup y hy) ht hk
 have hm:=arc_may t k
 have hf:findA D.live (arcP bV1 t k)=none:=findA_none fun x hx e=>by
  rw [h.live] at hx
  have hc:cmpL x.1.toList (arcP bV1 t k).toList=-1:=by
   rcases List.mem_cons.1 hx with rfl | hx
   ·exact cmp_dir t k
   ·obtain ⟨y,hy,j,rfl⟩:=ndsN_mem hx
    show cmpL (arcP bV1 y.1 y.2).toList _=-1
    rw [arcP_list,arcP_list,cmpL_ahead]
    show cmpL (47::_) (47::_)=-1
    unfold cmpL;rw [if_pos rfl];exact cmp_name (hup y hy) ht hk
  rw [e,cmpL_self] at hc
  cases hc
 have hh:homeE D.live (arcP bV1 t k)=0:=by
  unfold homeE;rw [(arc_path mb1 hm).1,h.live]
  kernel_rfl
 have hfi:fileE D.live (arcP bV1 t k)=0:=by unfold fileE;rw [hf]
 have hu:usedL (insS D.live (arcP bV1 t k) (ndN ns.length))<=D.room:=by
  rw [hins,h.room];have:=used_nds (ns++[(t,k)]);rw [List.length_append] at this
  show 64+0+usedL (ndsN (ns++[(t,k)]))<=16384
  simp only [List.length_singleton] at this;omega
 have hc:cutTo full (prefB (pthN ns.length)++⟨#[120]⟩)=prefB (pthN ns.length)++⟨#[120]⟩:=cutTo_ge (by
  rw [ByteArray.size_append,prefB_size]
  show 2+1+1<=full
  unfold full
  omega)
 have he:effE D.live D.room full (.write (arcP bV1 t k) (prefB (pthN ns.length)++⟨#[120]⟩) 1)=(0,dirV::ndsN (ns++[(t,k)])):=by
  show writeE D.live D.room (arcP bV1 t k) (cutTo full _) 1=_
  unfold writeE putE;rw [hc,if_pos hh,if_pos hfi];change (if usedL (insS D.live (arcP bV1 t k) (ndN ns.length))<=D.room then ((0:Int),insS D.live (arcP bV1 t k) (ndN ns.length)) else _)=_;rw [if_pos hu,hins]
 refine ⟨{ D with live:=dirV::ndsN (ns++[(t,k)]),log:=D.log++[.write (arcP bV1 t k) (prefB (pthN ns.length)++⟨#[120]⟩) 1],left:=D.left - 1 },?_,⟨rfl,h.room,h.fused⟩⟩;unfold Dk.act;rw [show D.off=false from by unfold Dk.off;rw [h.fused];rfl,if_neg (by decide),if_pos (by simp [Eff.paths,hm]),if_pos (by rfl),he,if_pos rfl]
theorem TurnB.ents {ns:List (Nat×Nat)} {D:Dk} (h:TurnB ns D) (ht:∀ x∈ns,x.1<=4294967295):entsL D.live bV1=ns.mapIdx fun j x=>⟨nameA x.1 x.2,pthN j,(x.1:Nat),1⟩:=by
 rw [h.live]
 have h0:∀ (m:Nat) (ns:List (Nat×Nat)),ns.length=m->(∀ x∈ns,x.1<=4294967295)->entsL (ndsN ns) bV1=ns.mapIdx fun j x=>⟨nameA x.1 x.2,pthN j,(x.1:Nat),1⟩:=fun m=>by
  induction m with
  | zero =>
   intro ns hl _;rw [List.length_eq_zero_iff.1 hl];rfl
  | succ m ih =>
   intro ns0 hl ht;rcases List.eq_nil_or_concat ns0 with e | ⟨ns,x,e⟩
   ·rw [e] at hl
    cases hl
   rw [List.concat_eq_append] at e;subst e;have hm:=arc_may x.1 x.2;rw [ndsN_snoc,List.mapIdx_concat,<-ih ns (by simpa using hl) fun y hy=>ht y (List.mem_append_left _ hy)];unfold entsL kidsN;rw [List.filter_append,List.filterMap_append,List.filter_cons_of_pos (by simpa using (arc_path mb1 hm).1),List.filter_nil,List.filterMap_cons,show entX (arcP bV1 x.1 x.2,ndN ns.length)=some ⟨nameA x.1 x.2,pthN ns.length,(x.1:Nat),1⟩ from arc_ent (s:=⟨#[120]⟩) (ht x (by simp)) mb1 hm (pth_may _)];rfl
 rw [<-h0 _ ns rfl ht];have hd:decide (parentR bV1=bV1)=false:=by kernel_rfl
 unfold entsL kidsN dirV;rw [List.filter_cons_of_neg (by simpa using hd)]
theorem lexLt.trans {x y z:Nat×Nat} (h1:lexLt x y) (h2:lexLt y z):lexLt x z:=by
 unfold lexLt at *;omega
structure TurnS (i now:Nat) (D:Dk) (ns:List (Nat×Nat)):Prop where
 len:ns.length=i
 base:(i=0/\D=a0)\/(0<i/\TurnB ns D)
 run:DkRun (i+1) D
 up:ns.Pairwise lexLt
 le:∀ x∈ns,x.1<=now/\x.2<i
 dense:∀ x∈ns,∀ j,j<x.2->(x.1,j)∈ns
theorem TurnS.start:TurnS 0 0 a0 []:=⟨rfl,.inl ⟨rfl,rfl⟩,ar0.mono (by decide),List.Pairwise.nil,fun _ h=>(by cases h),fun _ h=>(by cases h)⟩
theorem turn1:TurnB [] a1:=⟨by kernel_rfl,by kernel_rfl,by kernel_rfl⟩
theorem TurnS.pick {i now t:Nat} {D:Dk} {ns:List (Nat×Nat)} (h:TurnS i now D ns) (ht:now<=t):∃ k,k<i+1/\(∀ j,j<k->(t,j)∈ns)/\∀ x∈ns,lexLt x (t,k):=by
 rcases List.eq_nil_or_concat ns with e | ⟨l,y,e⟩
 ·exact ⟨0,by omega,fun j hj=>by omega,fun x hx=>by rw [e] at hx;cases hx⟩
 ·rw [List.concat_eq_append] at e;have hy:y∈ns:=by rw [e];simp
  have hle:=h.le y hy
  have hlast:∀ x∈ns,x=y\/lexLt x y:=fun x hx=>by
   rw [e] at hx;rcases List.mem_append.1 hx with hx | hx
   ·have hu:=h.up;rw [e,List.pairwise_append] at hu;exact .inr (hu.2.2 x hx y (by simp))
   ·exact .inl (List.mem_singleton.1 hx)
  by_cases ey:y.1=t
  ·refine ⟨y.2+1,by omega,fun j hj=>?_,fun x hx=>?_⟩
   ·by_cases ej:j=y.2
    ·rw [ej,<-ey];exact hy
    ·rw [<-ey];exact h.dense y hy j (by omega)
   ·have hl:lexLt y (t,y.2+1):=.inr ⟨ey,Nat.lt_succ_self _⟩;rcases hlast x hx with rfl | hx
    ·exact hl
    ·exact hx.trans hl
  ·refine ⟨0,by omega,fun j hj=>by omega,fun x hx=>?_⟩;have hl:lexLt y (t,0):=.inl (by show y.1<t;omega);rcases hlast x hx with rfl | hx
   ·exact hl
   ·exact hx.trans hl
theorem TurnB.has {ns:List (Nat×Nat)} {D:Dk} (h:TurnB ns D) {t j:Nat} (hm:(t,j)∈ns):(readE D.live (arcP bV1 t j)).2=0:=by
 have h1:(findA D.live (arcP bV1 t j)).isSome=true:=findA_isSome.2 (by
  rw [h.live];obtain ⟨i,hi,e⟩:=List.mem_iff_getElem.1 hm;refine List.mem_map.2 ⟨(arcP bV1 t j,ndN i),List.mem_cons_of_mem _ ?_,rfl⟩;unfold ndsN;rw [List.mem_mapIdx]
  exact ⟨i,hi,by rw [e]⟩)
 unfold readE;rw [if_pos (arc_may t j)]
 cases hf:findA D.live (arcP bV1 t j) with
 | none=>rw [hf] at h1;cases h1
 | some n=>rfl
theorem TurnB.hasnot {ns:List (Nat×Nat)} {D:Dk} (h:TurnB ns D) {t k:Nat} (ht:t<10000000000) (hk:k<10000) (hup:∀ x∈ns,lexLt x (t,k)):(readE D.live (arcP bV1 t k)).2≠0:=by
 have hf:findA D.live (arcP bV1 t k)=none:=findA_none fun x hx e=>by
  rw [h.live] at hx
  have hc:cmpL x.1.toList (arcP bV1 t k).toList=-1:=by
   rcases List.mem_cons.1 hx with rfl | hx
   ·exact cmp_dir t k
   ·obtain ⟨y,hy,j,rfl⟩:=ndsN_mem hx
    show cmpL (arcP bV1 y.1 y.2).toList _=-1
    rw [arcP_list,arcP_list,cmpL_ahead]
    show cmpL (47::_) (47::_)=-1
    unfold cmpL;rw [if_pos rfl];exact cmp_name (hup y hy) ht hk
  rw [e,cmpL_self] at hc
  cases hc
 unfold readE;rw [if_pos (arc_may t k),hf]
 decide
theorem TurnB.dir {ns:List (Nat×Nat)} {D:Dk} (h:TurnB ns D):(readE D.live bV1).2≠5/\dirE D.live bV1=0:=by
 rw [h.live];refine ⟨?_,by kernel_rfl⟩;have h1:(readE (dirV::ndsN ns) bV1).2=0:=by kernel_rfl
 rw [h1]
 decide
theorem turn_add {w0 w:World} {B:List Thing} {d i now t:Nat} {D:Dk} {ns:List (Nat×Nat)} (h:Things w0 w (.disk d D::B)) (E:EnvA w0) (S:TurnS i now D ns) (hi:i<31) (hnt:now<=t) (ht:t<=4294967295) :
  Calls prog 48 #[.pointer (some ⟨d,0,none⟩),.string ⟨#[118,49]⟩,.string (pthN i),.agg #[.int .i64 1,.string ⟨#[120]⟩,.string ⟨#[]⟩,.int .i64 1],.int .i64 t] w fun e w' =>
   ∃ k D',e=.returned (.tuple #[.string (nameA t k),.int .i64 0])/\Hid (Things w0 w' (.disk d D'::B)/\TurnS (i+1) t D' (ns++[(t,k)])/\k<10000/\∀ x∈ns,lexLt x (t,k)):=by
 obtain ⟨k,hk,hd,hup⟩:=S.pick hnt
 obtain ⟨D1,h1,h2,h3⟩:∃ D1,TurnB ns D1/\(((readE D.live bV1).2≠5/\D1=D)\/((readE D.live bV1).2=5/\D.act (.mkdir bV1)=(0,D1)))/\DkRun (i+1) D1:=by
  rcases S.base with ⟨rfl,rfl⟩ | ⟨h0,hb⟩
  ·have hn:=List.length_eq_zero_iff.1 S.len;subst hn;exact ⟨a1,turn1,.inr ⟨ay0,ax1⟩,ar1⟩
  ·exact ⟨D,hb,.inl ⟨hb.dir.1,rfl⟩,S.run⟩
 obtain ⟨D',hR,hb'⟩:=h1.put (by rw [S.len];omega) (t:=t) (k:=k) (by omega) (by omega) hup;rw [S.len] at hR;refine (aadd_many (A:=[]) (B:=B) h (S.run.mono (by omega:i+1<=40)) (h3.mono (by omega)) (by decide) E bV1 (pthN i) ⟨#[120]⟩ ⟨#[]⟩ 1 t k mb1 (pth_may i) (by omega) (by decide) h2 (by omega) (fun j hj=>h1.has (hd j hj)) (h1.hasnot (by omega) (by omega) hup) hR).mono ?_;rintro e w' ⟨rfl,hT⟩;refine ⟨k,D',by rw [if_pos rfl],hT.out,⟨by rw [List.length_append,S.len];rfl,.inr ⟨by omega,hb'⟩,h3.did hR,?_,?_,?_⟩,by omega,hup⟩
 ·exact List.pairwise_append.2 ⟨S.up,List.pairwise_singleton _ _,fun x hx y hy=>by rw [List.mem_singleton.1 hy];exact hup x hx⟩
 ·intro x hx;rcases List.mem_append.1 hx with hx | hx
  ·have:=S.le x hx;omega
  ·rw [List.mem_singleton.1 hx];exact ⟨Nat.le_refl _,hk⟩
 ·intro x hx j hj;rcases List.mem_append.1 hx with hx | hx
  ·exact List.mem_append_left _ (S.dense x hx j hj)
  ·rw [List.mem_singleton.1 hx] at hj ⊢;exact List.mem_append_left _ (hd j hj)
end
section
open Go.RowKit
def ownG (v:Value) (n:Nat) (xs:List Value):Gen where
 At:=fun w M I=>M=rowB v/\I=[]/\w.ownsRow 0 9 1 v n xs
 lt:=fun ⟨h1,h2,h3⟩=>⟨fun b hb=>own_lt h3 b (mem_rowB.1 (h1▸hb)),fun b hb=>by rw [h2] at hb;cases hb⟩
 kept:=fun ⟨h1,h2,h3⟩ _ hk=>⟨h1,h2,owns_blocks h3 fun b hb=>hk b (own_lt h3 b hb) (.inl (by rw [h1];exact mem_rowB.2 hb))⟩
theorem own_many {w0 w:World} {A B:List Thing} {v:Value} {n:Nat} {xs:List Value} (h:Things w0 w (A++.gen (ownG v n xs)::B)):w.ownsRow 0 9 1 v n xs:=by
 obtain ⟨M,I,⟨_,_,h1⟩,_⟩:=h.opened;exact h1
theorem Things.empty {w0 w:World} {A:List Thing} (h:Things w0 w A):Things w0 w (A++[.gen (ownG (.slice none 0 0) 0 [])]) :=
 h.add (M:=[]) (I:=[]) (Ext.refl w) ⟨rfl,rfl,World.ownsRow_nil _ _ _ _⟩ (fun _ hb=>by cases hb) fun _ hb=>by cases hb
theorem Things.grow {w0 w w':World} {A B:List Thing} {v v':Value} {n n':Nat} {xs xs':List Value} (h:Things w0 w (A++.gen (ownG v n xs)::B)) (ho:w'.ownsRow 0 9 1 v' n' xs') (hg:w.grownBy w' v.ownBlock) (hv:v'.ownBlock=v.ownBlock\/v'.ownBlock=some w.heap.size) :
  Things w0 w' (A++.gen (ownG v' n' xs')::B):=by
 obtain ⟨M,I,⟨rfl,rfl,h1⟩,h2,h3⟩:=h.opened;refine h3 w' (rowB v') [] (.gen (ownG v' n' xs')) ⟨rfl,rfl,ho⟩ ⟨⟨hg.os,hg.tape,hg.output,hg.size,fun b hb hn=>hg.block b hb fun e=>hn (mem_rowB.2 e.symm)⟩,fun b hb=>?_,Sub.refl _ _⟩;have:=mem_rowB.1 hb;rcases hv with e | e
 ·rw [e] at this;exact .inl (mem_rowB.2 this)
 ·rw [e] at this
  cases this
  exact .inr (Nat.le_refl _)
section
variable {P:Program} {ops:Array Oper} {Q:Exit->Act->World->Prop} {md:Region.Mode} {S:World->Prop} {a:Act}
theorem wpAnyH_op_call {i j:Nat} {oi oj:Oper} {ri rj:List Oper} {F:FuncId} {args:Array Value} {v:Value} {fuel:Nat} {listed:Array Bool} {w w2:World} (hr:Region.ready md ops listed=[i,j]) (hi:ops.toList.drop i=oi::ri) (hj:ops.toList.drop j=oj::rj) (gi:oi.guard=none) (gj:oj.guard=none)
  (hci:(execOp a.eval oi).run P w=.ok (.value v) w2) (hS2:S w2) (hcj:(execOp a.eval oj).run P w=.ok (.enter F args) w)
  (h1:wpAnyH P md ops Q S fuel (listed.setIfInBounds i true) (a.put oi.dst v) w2)
  (h2:Calls P F args w fun e w'=>∃ u,e=.returned u/\S w'/\wpAnyH P md ops Q S fuel (listed.setIfInBounds j true) (a.put oj.dst u) w'):wpAnyH P md ops Q S (fuel+1) listed a w :=
 wpAnyH_all hr (by simp) fun k hk=>by
  rcases List.mem_cons.1 hk with rfl | hk
  ·unfold wpOp;simp only [ops_get hi];rw [if_pos (by simp only [Region.wanted,gi])];left;unfold Oper.wp;rw [hci];exact ⟨hS2,h1⟩
  ·obtain rfl:=List.mem_singleton.1 hk;unfold wpOp;simp only [ops_get hj];rw [if_pos (by simp only [Region.wanted,gj])];left;unfold Oper.wp;rw [hcj];refine h2.mono ?_;rintro e w' ⟨u,rfl,hS,hh⟩;exact ⟨hS,hh⟩
theorem run_convOp {o:Oper} {w:World} (t u:TypeId) (x:Operand) (ho:o.op=.convert t u x) {v r:Value} (hx:a.eval x=v) (hr:(convert t u v).run P w=.ok r w):(execOp a.eval o).run P w=.ok (.value r) w:=by
 subst hx;unfold execOp;simp only [ho,Sem.run_bind,Sem.run_pure,hr,Result.andThen_ok]
end
def StepsIn (w:World) (v:Value) (zs:List Nat):Prop:=∃ (a:Option Addr) (cap:Nat),v=.slice a zs.length cap/\zs.length<=cap/\cap<=9223372036854775807 /\
 ∀ (k x:Nat),zs[k]?=some x->x<65536/\∃ b o,a=some ⟨b,o,none⟩/\w.cell? ⟨b,o+k,none⟩=some (.int .u16 x)
theorem conv_byte1 {w:World} {g:Nat} {x:UInt8} (h:w.heap[g]?=some (.cells #[.int .u8 x.toNat] 5 (0,0))):(convert 52 9 (.slice (some ⟨g,0,none⟩) 1 1)).run prog w=.ok (.string ⟨#[x]⟩) w :=
 conv_sl (l:=[x]) ⟨g,0,1,rfl,Nat.le_refl _,by decide,fun j y hj=>by
  rw [Nat.zero_add];refine (cellB h).trans ?_
  cases j with
  | zero=>cases hj;rfl
  | succ j=>simp at hj⟩
set_option maxRecDepth 100000 in
set_option maxHeartbeats 4000000 in
theorem alist_no {w:World} {d:Nat} {M I:List Nat} {D:Dk} (h:DkAt w d M I D) (O:DkOk D) (E:EnvA w) (root:ByteArray) (hroot:mayB root=true) (hdir:dirE D.live root≠0) :
  Calls prog 50 #[.pointer (some ⟨d,0,none⟩),.string root] w fun e w'=>e=.returned (.tuple #[.slice none 0 0,.int .i64 (dirE D.live root)])/\Ext w w':=by
 have hr160:=mayB_size hroot;have HM:=lh (may_any root w (by omega) E.env);rw [hroot] at HM;have HLs:=lh (fun w1 (x:Ext w w1)=>List_any (h.ext x) O (E.ext x).env root (by omega))
 have hle:listE D.live root=([],dirE D.live root):=by
  unfold listE;rw [if_pos (by rw [hroot];simp),if_neg hdir]
 rw [hle] at HLs;generalize dirE D.live root=r at *;have g1:(r != 0)=true:=by simpa using hdir
 clear h O E hle hroot;go_enter func50,ntmps50;go_wp2_with fail;refine HM.out.mono ?_;rintro e w1 ⟨rfl,x1⟩;have X1:=lh x1;clear x1;go_wp2_with fail;refine (HLs.out _ X1.out).mono ?_;rintro e w2 ⟨v,rfl,_,x2⟩;have X2:=lh (X1.out.trans x2);clear x2;go_wp2;go_ret2;exact ⟨rfl,X2.out⟩
theorem alist_no_many {w0 w:World} {A B:List Thing} {d:Nat} {D:Dk} (h:Things w0 w (A++.disk d D::B)) (O:DkOk D) (E:EnvA w) (root:ByteArray) (hroot:mayB root=true) (hdir:dirE D.live root≠0) :
  Calls prog 50 #[.pointer (some ⟨d,0,none⟩),.string root] w fun e w'=>e=.returned (.tuple #[.slice none 0 0,.int .i64 (dirE D.live root)])/\Ext w w' :=
 disk_ext h fun _ _ hd=>alist_no hd O E root hroot hdir
theorem dir0:dirE a0.live bV1=5:=by kernel_rfl
end
section
open Go.ChangeShapes Go.WideShapes Go.ChangeAt Go.RowKit
section
variable {H:Type} {enc:TypeId×Value->H} {W:World} {base':Nat} {sp:Nat->Bool} {held:Bool}
set_option maxRecDepth 100000 in
theorem open_steps {fuel:Nat} {v:Value} {d:DataW H} {p:List MemPlace} (h:DataW.trod enc prog W base' sp held fuel 100 [v]=some (d,p)):∃ zs,StepsIn W v zs:=by
 rcases Go.Deep.open_slice1 (show prog.underlying 100=some (.slice 101) by kernel_rfl) (by kernel_rfl) h with ⟨hcs,_⟩ | ⟨a,len,cap,m,n,V,D,Pl,hcs,_,hl,hm,hmm,hx,hc⟩
 ·obtain rfl:v=.slice none 0 0:=by simpa using hcs
  exact ⟨[],none,0,rfl,Nat.le_refl _,by decide,fun k u hk=>by simp at hk⟩
 ·obtain rfl:v=.slice (some a) len cap:=by simpa using hcs
  have hlm:len<=m:=by rw [hmm];split <;> omega
  have each:∀ i,i<m->∃ u:Nat,u<65536/\W.cell? (a.add i)=some (.int .u16 u):=by
   intro i hi;obtain ⟨h0,h1⟩:=hc i hi;obtain ⟨z,e0,z0,z1⟩:=trod_rng (show prog.underlying 101=some (.int .u16) by kernel_rfl) h1;have e0:V i=.int .u16 z:=by simpa using e0
   have hz0:(0:Int)<=z:=z0;have hz1:z<=65535:=z1;refine ⟨z.toNat,by omega,?_⟩;rw [h0,e0]
   congr 2
   omega
  obtain ⟨q,hq⟩:=Go.Deep.choose_lt each;refine ⟨(List.range len).map q,some a,cap,by simp,by simpa using hl,by unfold maxLen at hm;omega,fun k u hk=>?_⟩;have hk':k<len:=by simpa using (List.getElem?_eq_some_iff.1 hk).1
  have hu:u=q k:=by
   rw [List.getElem?_map,List.getElem?_range hk'] at hk
   simpa using hk.symm
  subst hu;obtain ⟨h1,h0⟩:=hq k (by omega);obtain ⟨g,o,rfl⟩:=addr_of_cell (by have:=(hq 0 (by omega)).2;rw [add_zero'] at this;exact this);rw [add_off] at h0;exact ⟨h1,g,o,rfl,h0⟩
end
end
end Go.Proofs.YtodickpibbbiiaaGreatDoor
