import Derived.Test.YtodickpibbbiiaaGreatDoorAgG1
import Derived.Test.YtodickpibbbiiaaGreatDoorAgD2
import Derived.Test.YtodickpibbbiiaaGreatDoorAgF2
import Derived.Test.YtodickpibbbiiaaGreatDoorAgF3
import Derived.Test.YtodickpibbbiiaaGreatDoorAgA1
import Derived.Deep.Slices
import Derived.Sort.Walk0
open Go.Proofs.Tryz
namespace Go.Proofs.YtodickpibbbiiaaGreatDoor
section
open Go.RowKit Go.Shelf
open Go.Sort (Holds)
open Go.Maps (has_true_of_atKey)
def goesL (p:Pol) (l:List Ent) (now:Int) (K:List (List UInt8)):List (List UInt8):=K.flatMap fun x=>(goP p (grp l (bsL x)) now).map fun s=>s.data.toList
theorem goP_len (p:Pol) (l:List Ent) (now:Int):(goP p l now).length<=l.length:=by
 have:=(goS_len p l now (l.length - 1)).1;unfold goP;omega
def sortS (A:List (List UInt8)):List ByteArray:=(A.mergeSort fun x y=>decide (x<=y)).map bsL
def goesS (p:Pol) (l:List Ent) (now:Int) (K:List (List UInt8)):List ByteArray:=sortS (goesL p l now K)
theorem goesL_snoc (p:Pol) (l:List Ent) (now:Int) (K:List (List UInt8)) (x:List UInt8):goesL p l now (K++[x])=goesL p l now K++(goP p (grp l (bsL x)) now).map fun s=>s.data.toList:=by
 unfold goesL;rw [List.flatMap_append];simp
theorem goesL_len (p:Pol) (l:List Ent) (now:Int):∀ K,(goesL p l now K).length<=K.length*l.length
 | []=>Nat.zero_le _
 | x::K=>by
  have ih:=goesL_len p l now K;have h1:=goP_len p (grp l (bsL x)) now;have h2:=grp_len l (bsL x);have e:goesL p l now (x::K)=(goP p (grp l (bsL x)) now).map (fun s=>s.data.toList)++goesL p l now K:=rfl;rw [e,List.length_append,List.length_map,List.length_cons,Nat.succ_mul];omega
theorem goes_end {w0 wr:World} {A B:List (List UInt8)} {g cap n:Nat} {cur:Array Value} {os:Array Obj} (hx:Ext w0 wr) (hp:A.Perm B) (hbase:w0.heap.size<=g) (hb:wr.heap[g]?=some (.cells cur 9 (0,0))) (h1:A.length<=cap) (h2:cap<=maxLen) (h3:cur.size=cap*1) :
  (Go.Sort.grow (Go.Sort.putRow encStr (Go.Sort.ahead wr n) g 0 (A.mergeSort fun x y=>decide (x<=y)).toArray) os).ownsRow w0.heap.size 9 1 (.slice (some ⟨g,0,none⟩) A.length cap) (sortS B).length ((sortS B).map Value.string) /\
  Ext w0 (Go.Sort.grow (Go.Sort.putRow encStr (Go.Sort.ahead wr n) g 0 (A.mergeSort fun x y=>decide (x<=y)).toArray) os):=by
 have hs:=ownsRow_sorted (ss:=A) (ts:=A.mergeSort fun x y=>decide (x<=y)) (os:=os) (n:=n) (by simp) hbase hb h1 h2 h3;refine ⟨?_,?_⟩
 ·unfold sortS;rw [<-mergeSort_of_perm hp,<-enc_map];simp only [List.length_map,List.length_mergeSort];exact hs
 ·exact Below.grown hx (grownBy_sorted _) hx.size (fun j hj=>by cases hj;exact hbase)
theorem keys_perm {w:World} {b n:Nat} {D:DataW Value} {K:List (List UInt8)} (h:w.ownsMap prog 9 RV b n D) (hn:K.Nodup) (hh:∀ x,x∈K↔Maps.has D (.string x)=true):K.Perm (strKeys D):=by
 obtain ⟨es,rfl,hp,_⟩:=h.entries keyed9;obtain ⟨es',he,hk⟩:=h.keysOf
 cases he
 exact perm_strKeys hp (fun p hp'=>by
  obtain ⟨key,hkey⟩:=hk p hp';obtain ⟨x,_,hx,_⟩:=Maps.keyOf_str underlying9 hkey
  exact ⟨x,hx⟩) hn hh
theorem RV_inv (v:Value) (y:DataW Value×List MemPlace) (_:RV v=some y):∃ c:Value,v=id c:=⟨v,rfl⟩
theorem row_nonil {w:World} {base k n:Nat} {e:TypeId} {v:Value} {xs:List Value} (h:w.ownsRow base e k v n xs) (hn:0<n):v≠.slice none 0 0:=by
 rintro rfl;rcases h.2 with ⟨_,h0⟩ | ⟨g,cap,cur,hv,_⟩
 ·omega
 ·cases hv
def EntsG (w:World) (v:Value) (l:List Ent):Prop:=∃ (ad:Option Addr) (cap:Nat),v=.slice ad l.length cap/\l.length<=cap/\cap<=9223372036854775807/\∀ k x,l[k]?=some x->∃ g o,ad=some ⟨g,o,none⟩/\w.rangeAt g (o+k*4) (entV x)
theorem EntsSl.gen {w:World} {v:Value} {l:List Ent} (h:EntsSl w v l):EntsG w v l:=by
 have h':=h;obtain ⟨g,o,cap,rfl,h1,h2,_⟩:=h;exact ⟨_,cap,rfl,h1,h2,fun k x hx=>⟨g,o,rfl,h'.at hx⟩⟩
def OrdAt (w:World) (v:Value) (l:List Ent):Prop:=∀ w1,Ext w w1->Calls prog 94 #[v] w1 fun e w2=>∃ u,e=.returned u/\Hid (Ext w1 w2 /\
 Calls prog 95 #[u,.func (.func 96) #[] #[]] w2 fun e w3=>e=.returned (.tuple #[])/\Hid (Ext w1 w3 /\
 Calls prog 98 #[u,.func (.func 99) #[] #[]] w3 fun e w4=>∃ u2,e=.returned u2/\Hid (EntsG w4 u2 l/\Ext w1 w4)))
set_option maxRecDepth 100000 in
set_option maxHeartbeats 16000000 in
theorem agoes_core {w:World} {v:Value} {l:List Ent} (h:OrdAt w v l) (hl:l.length<=1000) (hpz:∀ x∈l,x.path.size<=100000)
  (p:Pol) (hp:okP p=true) (now:Int) (K:List (List UInt8)) (hK:K.Nodup) (hm:∀ x,x∈K↔grp l (bsL x)≠[]) :
  Calls prog 41 #[polV p,v,.int .i64 now] w fun e w'=>∃ u,e=.returned u/\Hid (w'.ownsRow w.heap.size 9 1 u (goesS p l now K).length ((goesS p l now K).map Value.string)/\Ext w w'):=by
 have HK:=lh hK;have HM:=lh hm;have HZ:=lh hpz;have HO:=lh h;have HC:=lh (fun w1=>acheck_any p w1);rw [if_pos hp] at HC;have HGo:=lh (fun w1 u s (q:EntsSl w1 u (grp l s)) (q1:1<=(grp l s).length)=>apgoes_any q (Nat.le_trans (grp_len l s) (by omega)) q1 p now);obtain ⟨n,hn⟩:∃ n,n=l.length:=⟨_,rfl⟩;have HN:=lh hn;clear hK hm hpz h hp;rw [<-hn] at hl;have HP:=lh (show polV p=.agg #[.int .i64 p.kind,.int .i64 p.keep,.int .i64 p.age] from rfl);obtain ⟨pc,hpc⟩:∃ pc,pc=(#[.int .i64 p.kind,.int .i64 p.keep,.int .i64 p.age]:Array Value):=⟨_,rfl⟩;have HI:=lh (show (prog.info? 89).map (·.size)=some pc.size from by rw [hpc];kernel_rfl);rw [HP.out,<-hpc];rw [HP.out,<-hpc] at HC HGo;have HB:=lh (block_alloc_new w (.cells pc 89 (0,0)));have X0:=lh ((Ext.refl w).alloc (.cells pc 89 (0,0)));clear hn hpc;go_enter func41,ntmps41;go_wp2_with (refine wpList_load_row rfl 89 (.tmp 3) rfl w.heap.size rfl _ pc (0,0) _ HB.out underlying89 rfl HI.out ?_;go_frame);refine (HC.out _).mono ?_;rintro e w1 ⟨rfl,x1⟩;have X1:=lh (X0.out.trans x1);have HB1:=lh ((x1.block (ltB HB.out)).trans HB.out);clear x1 HC HB;go_wp2_with fail;refine (HO.out _ X1.out).mono ?_;rintro e w2 ⟨u,rfl,hu⟩;have HU:=lh hu.out.2;clear hu HO;go_wp2_with fail;refine HU.out.mono ?_;rintro e w3 ⟨rfl,hu⟩;have HU3:=lh hu.out.2;clear hu HU;go_wp2_with fail;refine HU3.out.mono ?_;rintro e w4 ⟨u4,rfl,hu⟩;obtain ⟨q4,x4⟩:=hu.out;have Q4:=lh q4;have X4:=lh (X1.out.trans x4);have HB4:=lh ((x4.block (ltB HB1.out)).trans HB1.out);clear x4 q4 hu HU3 HB1 X1;have HG4:=lh (GrpIn.start w4);have X5:=lh (X4.out.alloc (.map #[] 0));have HB5:=lh ((((Ext.refl w4).alloc (.map #[] 0)).block (ltB HB4.out)).trans HB4.out);have hb4:w.heap.size<=w4.heap.size:=X4.out.size;obtain ⟨ad,cu,rfl,_,_,hat⟩:=Q4.out;have HAT:=lh hat;clear hat Q4;rw [<-HN.out];have hmm:=@run_makeMap prog;clear X5 HB5 X0;go_wp2_with fail;go_loopw [24] (fun iv wr=>Hid (∃ (k:Nat) (V:ByteArray->Value),k<=n/\iv=.int .i64 k/\GrpIn (w4.heap.size+1) w4.heap.size wr (l.take k) V/\Ext w4 wr)) (fun iv _=>n - (intOf iv).toNat)
 case atStart=>exact ⟨0,_,Nat.zero_le _,rfl,HG4.out,(Ext.refl w4).alloc _⟩
 case round =>
  obtain ⟨k,V,hk,rfl,hg,hx⟩:=hrel.out;clear hrel HG4;have HX:=lh hx;have HG:=lh hg;by_cases hlt:k<n
  ·obtain ⟨x,hxk⟩:∃ x,l[k]?=some x:=⟨_,List.getElem?_eq_getElem (by have:=HN.out;omega)⟩;obtain ⟨gu,ou,rfl,hra⟩:=HAT.out k x hxk;have HR1:=lh (show wr.rangeAt gu (ou+k*4) (entV x) from fun j u hj=>(hx.cell (lt_of_cell (hra j u hj))).trans (hra j u hj));have hxz:=HZ.out x (List.mem_of_getElem? hxk);have HT:=lh (show l.take (k+1)=l.take k++[x] from by rw [List.take_add_one,hxk];rfl);have htl:(l.take k).length=k:=by rw [List.length_take];have:=HN.out;omega
   have hgl:=grp_len (l.take k) x.path;have hpg:=own_block_ge_k (hg.row x.path);clear hx hg hxk hra;obtain ⟨xn,xp,xt,xs⟩:=x;dsimp only at hxz hgl hpg;have HBE:=lh (block_alloc_new wr (.cells #[.string xn,.string xp,.int .i64 xt,.int .i64 xs] 93 (0,0)));have hbm:=HG.out.map.lt;have HGE:=lh (HG.out.ext ((Ext.refl wr).alloc (.cells #[.string xn,.string xp,.int .i64 xt,.int .i64 xs] 93 (0,0))));have XE:=lh (HX.out.alloc (.cells #[.string xn,.string xp,.int .i64 xt,.int .i64 xs] 93 (0,0)));go_upto_region 10 with (refine wpList_load_at rfl 93 (.tmp 26) rfl gu (ou+k*4) rfl #[.string xn,.string xp,.int .i64 xt,.int .i64 xs] _ HR1.out underlying93 rfl (by kernel_rfl) ?_;go_frame)
   have HM10:=lh HGE.out.map;refine wp_region_head (S:=fun w'=>w'.heap[wr.heap.size]?=some (.cells #[.string xn,.string xp,.int .i64 xt,.int .i64 xs] 93 (0,0))/\w'.heap[w4.heap.size]?=(wr.alloc (.cells #[.string xn,.string xp,.int .i64 xt,.int .i64 xs] 93 (0,0))).heap[w4.heap.size]?) (n:=10) (by kernel_rfl) (by kernel_rfl) ?_;generalize hwA:(wr.alloc (.cells #[.string xn,.string xp,.int .i64 xt,.int .i64 xs] 93 (0,0)))=wA at *;have sS:wA.drew.heap[wr.heap.size]?=some (.cells #[.string xn,.string xp,.int .i64 xt,.int .i64 xs] 93 (0,0))/\wA.drew.heap[w4.heap.size]?=wA.heap[w4.heap.size]?:=⟨HBE.out,rfl⟩;have HGD:=lh (HGE.out.ext (Ext.refl wA).drew);have XD:=lh (XE.out.trans (Ext.refl wA).drew);have hszA:wA.drew.heap.size=wr.heap.size+1:=by rw [<-hwA];simp [World.drew]
   refine HeadAt.take (i:=0) (v:=.map (some w4.heap.size)) rfl (by kernel_rfl) (by kernel_rfl) (by kernel_rfl) (by kernel_rfl) (by kernel_rfl) (by kernel_rfl) (by kernel_rfl) (fun _ _ _ h=>h) (yieldsIf_move rfl _ rfl rfl) sS ?_;go_frame;refine HeadAt.take (i:=1) (v:=.pointer (some ⟨wr.heap.size,1,none⟩)) rfl (by kernel_rfl) (by kernel_rfl) (by kernel_rfl) (by kernel_rfl) (by kernel_rfl) (by kernel_rfl) (by kernel_rfl) (fun _ _ _ h=>h) (Or.inl ⟨rfl,fun w' _=>by go_simp⟩) sS ?_;go_frame;refine HeadAt.take (i:=2) (v:=.string xp) rfl (by kernel_rfl) (by kernel_rfl) (by kernel_rfl) (by kernel_rfl) (by kernel_rfl) (by kernel_rfl) (by kernel_rfl) (fun _ _ _ h=>h) (yieldsIf_cell rfl 9 _ rfl _ _ rfl agg9 (fun _ h=>cellB h.1)) sS ?_;go_frame;refine HeadAt.take (i:=3) (v:=.map (some w4.heap.size)) rfl (by kernel_rfl) (by kernel_rfl) (by kernel_rfl) (by kernel_rfl) (by kernel_rfl) (by kernel_rfl) (by kernel_rfl) (fun _ _ _ h=>h) (yieldsIf_move rfl _ rfl rfl) sS ?_;go_frame;refine HeadAt.take (i:=4) (v:=.pointer (some ⟨wr.heap.size,1,none⟩)) rfl (by kernel_rfl) (by kernel_rfl) (by kernel_rfl) (by kernel_rfl) (by kernel_rfl) (by kernel_rfl) (by kernel_rfl) (fun _ _ _ h=>h) (Or.inl ⟨rfl,fun w' _=>by go_simp⟩) sS ?_;go_frame;refine HeadAt.take (i:=5) (v:=.string xp) rfl (by kernel_rfl) (by kernel_rfl) (by kernel_rfl) (by kernel_rfl) (by kernel_rfl) (by kernel_rfl) (by kernel_rfl) (fun _ _ _ h=>h) (yieldsIf_cell rfl 9 _ rfl _ _ rfl agg9 (fun _ h=>cellB h.1)) sS ?_;go_frame;refine HeadAt.take (i:=6) (v:=V xp) rfl (by kernel_rfl) (by kernel_rfl) (by kernel_rfl) (by kernel_rfl) (by kernel_rfl) (by kernel_rfl) (by kernel_rfl) (fun _ _ _ h=>h) (yieldsIf_lookup rfl _ _ _ rfl rfl rfl (fun w' h=>HGE.out.look' h.2 xp (by unfold maxLen;omega))) sS ?_;go_frame;refine HeadAt.take (i:=7) (v:=.agg #[.string xn,.string xp,.int .i64 xt,.int .i64 xs]) rfl (by kernel_rfl) (by kernel_rfl) (by kernel_rfl) (by kernel_rfl) (by kernel_rfl) (by kernel_rfl) (by kernel_rfl) (fun _ _ _ h=>h) (yieldsIf_load_row rfl 93 (.tmp 9) rfl wr.heap.size rfl 93 _ (0,0) _ (fun _ h=>h.1) underlying93 rfl (by kernel_rfl)) sS ?_;go_frame;have hb1:=block_alloc_new wA.drew (.cells #[.string xn,.string xp,.int .i64 xt,.int .i64 xs] 93 (0,0));have HGF:=lh (HGD.out.ext ((Ext.refl wA.drew).alloc (.cells #[.string xn,.string xp,.int .i64 xt,.int .i64 xs] 93 (0,0))));have XF:=lh (XD.out.alloc (.cells #[.string xn,.string xp,.int .i64 xt,.int .i64 xs] 93 (0,0)));have s1:=(((Ext.refl wA.drew).alloc (.cells #[.string xn,.string xp,.int .i64 xt,.int .i64 xs] 93 (0,0))).block (ltB sS.1)).trans sS.1;have s2:=(((Ext.refl wA.drew).alloc (.cells #[.string xn,.string xp,.int .i64 xt,.int .i64 xs] 93 (0,0))).block HGD.out.map.lt).trans sS.2;refine HeadAt.one (i:=8) (by kernel_rfl) (by kernel_rfl) rfl rfl (run_buildOneOp elEnt (by decide) (.tmp 35) rfl #[.string xn,.string xp,.int .i64 xt,.int .i64 xs] rfl rfl) ⟨s1,s2⟩ ?_;go_frame;generalize hwB:wA.drew.alloc (.cells #[.string xn,.string xp,.int .i64 xt,.int .i64 xs] 93 (0,0))=wB at *;have hszB:wB.heap.size=wr.heap.size+2:=by rw [<-hwB];simp [hszA]
   have hown:=own_lt (HG.out.row xp);have hx4:=HX.out.size;refine HeadAt.append (i:=9) (by kernel_rfl) (by kernel_rfl) rfl rfl elEnt (w4.heap.size+1) (V xp) (grp (l.take k) xp).length (entsV (grp (l.take k) xp)) (HGF.out.row xp) wA.drew.heap.size [.string xn,.string xp,.int .i64 xt,.int .i64 xs] rfl (.tmp 34) (.tmp 36) rfl rfl rfl (fun j u hj=>(cellB hb1).trans (by simpa using hj)) (by simp [Value.oneCell']) (by omega) (by omega) ?_;intro v7 w7 ho7 hg7 hv7;have t1:w7.heap[wr.heap.size]?=wB.heap[wr.heap.size]?:=hg7.block _ (by omega) fun e=>by have:=hown _ e.symm;omega
   have t2:w7.heap[w4.heap.size]?=wB.heap[w4.heap.size]?:=hg7.block _ (by omega) fun e=>by have:=hpg _ e.symm;omega
   refine ⟨⟨t1.trans s1,t2.trans s2⟩,?_⟩;go_frame;obtain ⟨w8,V',hr8,hG8,hg8,hs8⟩:=HGF.out.add (x:=⟨xn,xp,xt,xs⟩) (by rw [htl];unfold maxLen;omega) (by unfold maxLen;show xp.size<=_;omega) ho7 hg7 hv7;have HF:=lh (show GrpIn (w4.heap.size+1) w4.heap.size w8 (l.take (k+1)) V' from by rw [HT.out];exact hG8);have x7:Ext w4 w7:=grown_ext XF.out (Nat.le_succ _) (HGF.out.row xp) hg7;have X8:=lh (show Ext w4 w8 from Below.grown x7 hg8 x7.size (fun j hj=>by cases hj;exact Nat.le_refl _));have hr8':(Instr.mapUpdate 193 (.map (some w4.heap.size)) (.string xp) v7).run prog w7=.ok () w8:=hr8;clear hr8 hG8 hg8 hs8 x7 t1 t2 hv7 hg7 ho7 s1 s2 hb1 sS HG HGE HGD HGF XE XD XF HM10 HBE;refine HeadAt.done (by kernel_rfl) ?_;go_wp2_with fail;go_roundw
   case rel=>exact ⟨k+1,V',by omega,by go_num,HF.out,X8.out⟩
   case measure=>simp [intOf] <;> omega
  ·obtain rfl:k=n:=by omega
   obtain ⟨wm,rfl⟩:∃ x,x=wr:=⟨_,rfl⟩;have htk:l.take k=l:=by rw [HN.out];exact List.take_length
   rw [htk] at HG;clear hg hx;have hm:=HG.out.map;obtain ⟨D,hown,hread⟩:=hm;have HRd:=lh hread;have HOw:=lh hown;have hsz:=hown.size_le;rw [<-HN.out] at hsz
   have HKP:=lh (keys_perm (K:=K) hown HK.out (fun x=>by
    rw [HM.out x,show Maps.has D (.string x)=_ from (hread (bsL x)).1];dsimp only;by_cases q:grp l (bsL x)=[]
    ·rw [if_pos q];simp [q]
    ·rw [if_neg q];simp [q]))
   have HB6:=lh ((HX.out.block (ltB HB4.out)).trans HB4.out);have X6:=lh (X4.out.trans HX.out);have hbl:=HG.out.map.lt;clear hread htk;go_wp2_with (at_range;refine wpList_range_own _ rfl _ 193 rfl 9 90 keyed9 (by kernel_rfl) RV w4.heap.size l.length D rfl hown ?_;intro w0 hrg0 hg0 hs0)
   try go_frame
   have H0:=lh (show ∃ (left:Lit->Bool) (cnt:Nat) (ss:List (List UInt8)),w0.ranges prog 9 RV w4.heap.size wm.heap.size l.length D left cnt/\ss.length+cnt<=Maps.size D/\w0.ownsRow wm.heap.size 9 1 (.slice none 0 0) (goesL p l now ss).length ((goesL p l now ss).map encStr)/\Collected D left ss/\Ext wm w0 from ⟨_,_,[],hrg0,by simp,World.ownsRow_nil _ _ _ _,Collected.start D,Below.grown (Below.refl _ _) hg0 (Nat.le_refl _) (fun j hj=>by cases hj)⟩);clear hrg0 hg0 hs0 hown;go_loopw [6] (fun ov wr=>Hid (∃ (left:Lit->Bool) (cnt:Nat) (ss:List (List UInt8)),wr.ranges prog 9 RV w4.heap.size wm.heap.size l.length D left cnt/\ss.length+cnt<=Maps.size D/\wr.ownsRow wm.heap.size 9 1 ov (goesL p l now ss).length ((goesL p l now ss).map encStr)/\Collected D left ss/\Ext wm wr)) (fun _ wr=>wr.rangeLeft w4.heap.size wm.heap.size)
   case atStart=>exact H0
   case round =>
    obtain ⟨left,cnt,ss,hrg,hcs,hrow,hC,hx⟩:=hrel.out;clear hrel H0;go_wp2_with (at_next;refine wpList_next_ranges _ rfl _ rfl 9 keyed9 RV encStr id str_inv RV_inv w4.heap.size wm.heap.size l.length D left cnt rfl hrg ?_ ?_)
    ·intro hc0 hl0;have hKs:ss.Perm K:=(hC.perm hrg.owns keyed9 underlying9 hl0).trans HKP.out.symm;have hA:(goesL p l now ss).Perm (goesL p l now K):=hKs.flatMap_right _;have hln:=goesL_len p l now ss
     have hnb:(goesL p l now ss).length<=1000000:=by
      have h1:ss.length<=1000:=by omega
      have h2:l.length<=1000:=by have:=HN.out;omega
      exact Nat.le_trans hln (Nat.mul_le_mul h1 h2)
     have HX7:=lh (X6.out.trans hx);have hwz:=X6.out.size;rcases hrow.2 with ⟨rfl,hnil⟩ | ⟨g7,cap7,cur7,rfl,hbase,hb,h1,h2,h3,h4⟩
     ·have HNl:=lh (show goesS p l now K=[] from by
       have h0:goesL p l now ss=[]:=by simpa using hnil
       rw [h0] at hA;unfold goesS;rw [<-hA.nil_eq]
       simp [sortS])
      have SN:=lh (fun p cap w=>Tryz.slices_Sort_string_none p cap w);clear hC hrg hrow hnil hl0 hx hcs hc0 hA hKs;go_wp2_with fail;refine (SN.out _ _ _).mono ?_;rintro e w9 ⟨rfl,rfl⟩;go_wp2_with fail;go_ret;refine ⟨_,rfl,?_,HX7.out⟩;rw [HNl.out];exact World.ownsRow_nil _ _ _ _
     ·have hH:Holds encStr wr g7 0 (goesL p l now ss).toArray:=holds_of_block hb (by simpa using h4);have hgl:g7<wr.heap.size:=(Array.getElem?_eq_some_iff.1 hb).1;have HS:=lh (Tryz.slices_Sort_string g7 0 cap7 (goesL p l now ss) wr hH hgl (by omega));have HEnd:=lh (fun n os=>goes_end (n:=n) (os:=os) hx hA hbase hb h1 h2 h3);clear hC hrg hrow hl0 hx hcs hc0 h4 hH h3 hb hA hKs;go_wp2_with fail;refine HS.out.mono ?_;rintro e w9 ⟨rfl,n9,os9,rfl⟩;have HE9:=lh (HEnd.out n9 os9);clear HEnd HS;go_wp2_with fail;go_ret;exact ⟨_,rfl,owns_down HE9.out.1 hwz,X6.out.trans HE9.out.2⟩
    ·intro x c kl yd yp w2 cnt2 hkey hlk hv hat hrg2 hlt hg2 hs2 hen;obtain ⟨x',ex,rfl,_⟩:=Maps.keyOf_str underlying9 hkey;obtain rfl:x=x':=encStr_inj ex;have hen2:(Instr.entry (.pointer (some ⟨wm.heap.size,0,none⟩))).run prog w2=.ok (.tuple #[.string (bsL x),c]) w2:=hen;have hC2:=hC.step hlk hat;have hR:=HRd.out (bsL x)
     have hgn:grp l (bsL x)≠[]:=fun q=>by
      have h1:=hR.1;rw [if_pos q,show Maps.has D (.string (bsL x).data.toList)=true from has_true_of_atKey hat] at h1
      cases h1
     have hcv:c=V (bsL x):=by
      have h2:=hR.2 (.held c);rw [if_neg hgn,show D.atKey (.string (bsL x).data.toList) (.held c)=_ from hat _] at h2
      cases hv
      injection h2
     subst hcv;have hx2:Ext wm w2:=Below.grown hx hg2 hx.size (fun j hj=>by cases hj;exact Nat.le_refl _);have hrow2:=hrow.kept hg2 (.inr (fun e=>row_ne_iter hrow hrg e.symm))
     have hgp:1<=(grp l (bsL x)).length:=by
      rcases hq:grp l (bsL x) with _ | ⟨a,b⟩
      ·exact absurd hq hgn
      ·simp
     have hes:=(row_ents ((HG.out.ext hx2).row (bsL x)) rfl (row_nonil ((HG.out.ext hx2).row (bsL x)) hgp)).1;have HW:=lh (HGo.out w2 (V (bsL x)) (bsL x) hes hgp);have HX2:=lh hx2;have HR2:=lh hrow2;have HG2:=lh hrg2;have HC2:=lh hC2;have HSn:=lh (goesL_snoc p l now ss x);have hln:=goesL_len p l now ss
     have hnb:(goesL p l now ss).length<=1000000:=by
      have h1:ss.length<=1000:=by omega
      have h2:l.length<=1000:=by have:=HN.out;omega
      exact Nat.le_trans hln (Nat.mul_le_mul h1 h2)
     have hgb:(goP p (grp l (bsL x)) now).length<=1000:=by
      have h1:=goP_len p (grp l (bsL x)) now;have h2:=grp_len l (bsL x);have:=HN.out;omega
     have HLT:=lh (show cnt2<cnt from hlt);have HGR:=lh hrg;have hcnt:ss.length+cnt2+1<=Maps.size D:=by omega
     have hb2:w2.heap[w.heap.size]?=some (.cells pc 89 (0,0)):=(hx2.block (ltB HB6.out)).trans HB6.out;have HB7:=lh hb2;clear hen hs2 hg2 hrg2 hv hkey ex hC hC2 hx hx2 hrow hrow2 hrg hlk hat hcs hlt hR hes hgn hb2;generalize V (bsL x)=vx at *;generalize goP p (grp l (bsL x)) now=GP at *;go_wp2_with (refine wpList_load_row rfl 89 (.tmp 3) rfl w.heap.size rfl _ pc (0,0) _ HB7.out underlying89 rfl HI.out ?_;go_frame);refine HW.out.mono ?_;rintro e w5 ⟨u5,rfl,hu5⟩;obtain ⟨o5,x5⟩:=hu5.out;obtain ⟨ad5,cap5,rfl,hz5,_,_,hat5⟩:=row_slice o5;have HX5:=lh (HX2.out.trans x5);have HR5:=lh (owns_ext HR2.out x5);have HG5:=lh (HG2.out.kept x5.grownBy (by simp) (by simp))
     have hnew:0<GP.length->∃ g k,ad5=some ⟨g,k,none⟩/\∀ (j:Nat) u,(GP.map Value.string)[j]?=some u->w5.cell? ⟨g,k+j,none⟩=some u:=fun h0=>by
      obtain ⟨y,hy⟩:∃ y,(GP.map Value.string)[0]?=some y:=⟨_,List.getElem?_eq_getElem (by simpa using h0)⟩;obtain ⟨g5,e5,_⟩:=hat5 0 y hy;refine ⟨g5,0,e5,fun j u hj=>?_⟩;obtain ⟨g6,e6,_,_,c6⟩:=hat5 j u hj;rw [e5] at e6
      cases e6
      rw [Nat.zero_add];exact c6
     have h1:∀ u∈GP.map Value.string,u.oneCell'=true:=fun u hu=>by
      obtain ⟨q,_,rfl⟩:=List.mem_map.1 hu;rfl
     clear hu5 o5 hat5 HW HX2 HR2 HG2;go_wp2_with (at_builtin;refine append_lots el_string wm.heap.size _ _ _ HR5.out ad5 GP.length cap5 (GP.map Value.string) (.tmp 45) (.tmp 49) rfl rfl rfl rfl (by simp) hz5 hnew h1 (by omega) HX5.out.size ?_;intro v7 w7 ho7 hg7;have HO7:=lh ho7;have HG7:=lh hg7;clear ho7 hg7;go_frame);have hge:=own_block_ge HR5.out;have r7:=lh (HG5.out.kept HG7.out (fun e=>by have:=hge _ e.symm;omega) (row_ne_iter HR5.out HG5.out));have x7:=lh (show Ext wm w7 from grown_ext HX5.out (Nat.le_refl _) HR5.out HG7.out)
     have HO8:=lh (show w7.ownsRow wm.heap.size 9 1 v7 (goesL p l now (ss++[x])).length ((goesL p l now (ss++[x])).map encStr) from by
      rw [HSn.out,List.length_append,List.length_map,List.map_append,List.map_map]
      exact HO7.out)
     go_roundw
     case rel=>exact ⟨_,cnt2,ss++[x],r7.out,by simp;omega,HO8.out,HC2.out,x7.out⟩
     case measure =>
      rw [r7.out.left_eq,HGR.out.left_eq];exact HLT.out
theorem agoes_any {w:World} {v:Value} {l:List Ent} (h:EntsSl w v l) (hr:Rise l) (hl:l.length<=1000) (_h0:1<=l.length) (hpz:∀ x∈l,x.path.size<=100000) (hso:∀ w1 u,EntsSl w1 u l->SortsAt w1 u)
  (p:Pol) (hp:okP p=true) (now:Int) (K:List (List UInt8)) (hK:K.Nodup) (hm:∀ x,x∈K↔grp l (bsL x)≠[]) :
  Calls prog 41 #[polV p,v,.int .i64 now] w fun e w'=>∃ u,e=.returned u/\Hid (w'.ownsRow w.heap.size 9 1 u (goesS p l now K).length ((goesS p l now K).map Value.string)/\Ext w w'):=by
 refine agoes_core (fun w1 x1=>(aclone_any (h.ext x1) (by omega)).mono ?_) hl hpz p hp now K hK hm;rintro e w2 ⟨u,rfl,hu⟩;obtain ⟨q2,x2⟩:=hu.out;refine ⟨u,rfl,x2,(hso w2 u q2 w2 (Ext.refl _)).mono ?_⟩;rintro e w3 ⟨rfl,x3⟩;refine ⟨rfl,x2.trans x3,(acompact_any (q2.ext x3) hr (by omega)).mono ?_⟩;rintro e w4 ⟨rfl,x4⟩;exact ⟨u,rfl,((q2.ext x3).ext x4).gen,(x2.trans x3).trans x4⟩
end
section
open Go.RowKit Go.Shelf
def bV1:ByteArray:=⟨#[118,49]⟩
def bAB:ByteArray:=⟨#[97,47,98]⟩
def bXY:ByteArray:=⟨#[120,121]⟩
def a0:Dk:=Dk.made 16384
def a1:Dk:=(a0.act (.mkdir bV1)).2
def a2:Dk:=(a1.act (.write (arcP bV1 7 0) (prefB bAB++bXY) 3)).2
def a3:Dk:=(a2.act (.write (arcP bV1 7 1) (prefB bAB++bXY) 3)).2
theorem ax1:a0.act (.mkdir bV1)=(0,a1):=by kernel_rfl
theorem ax2:a1.act (.write (arcP bV1 7 0) (prefB bAB++bXY) 3)=(0,a2):=by kernel_rfl
theorem ax3:a2.act (.write (arcP bV1 7 1) (prefB bAB++bXY) 3)=(0,a3):=by kernel_rfl
theorem ay0:(readE a0.live bV1).2=5:=by kernel_rfl
theorem ay1:(readE a1.live (arcP bV1 7 0)).2=5:=by kernel_rfl
theorem ay2:decide ((readE a2.live bV1).2=5)=false:=by kernel_rfl
theorem ay3:(readE a2.live (arcP bV1 7 0)).2=0:=by kernel_rfl
theorem ay4:(readE a2.live (arcP bV1 7 1)).2=5:=by kernel_rfl
theorem ar0:DkRun 0 a0:=DkRun.made (by decide) (by decide)
theorem ar1:DkRun 1 a1:=ar0.did ax1
theorem ar2:DkRun 2 a2:=ar1.did ax2
theorem ar3:DkRun 3 a3:=ar2.did ax3
theorem an0:nameA 7 0=⟨#[48,48,48,48,48,48,48,48,48,55,45,48,48,48,48]⟩:=by kernel_rfl
theorem an1:nameA 7 1=⟨#[48,48,48,48,48,48,48,48,48,55,45,48,48,48,49]⟩:=by kernel_rfl
theorem mb1:mayB bV1=true:=by kernel_rfl
theorem mb2:mayB bAB=true:=by kernel_rfl
set_option maxRecDepth 100000 in
set_option maxHeartbeats 2000000 in
theorem file19 (s:ByteArray) (t:Int) (w:World):Calls prog 49 #[.string s,.int .i64 t] w fun e w'=>e=.returned (.agg #[.int .i64 1,.string s,.string ⟨#[]⟩,.int .i64 t])/\Ext w w':=by
 go_enter func49,ntmps49;go_wp2;refine bodyPost_ret (results_cell_row rfl _ _ w.heap.size 84 #[.int .i64 1,.string s,.string ⟨#[]⟩,.int .i64 t] (0,0) _ rfl (block_alloc_new _ _) underlying84 rfl (by kernel_rfl)) rfl ⟨rfl,(Ext.refl w).alloc _⟩
set_option maxRecDepth 100000 in
set_option maxHeartbeats 2000000 in
theorem at19 (t:Int) (s:ByteArray) (w:World):Calls prog 92 #[.int .i64 t,.string s] w fun e w'=>e=.returned (.agg #[.string s,.string ⟨#[97]⟩,.int .i64 t,.int .i64 0])/\Ext w w':=by
 go_enter func92,ntmps92;go_wp2;refine bodyPost_ret (results_cell_row rfl _ _ w.heap.size 93 #[.string s,.string ⟨#[97]⟩,.int .i64 t,.int .i64 0] (0,0) _ rfl (block_alloc_new _ _) underlying93 rfl (by kernel_rfl)) rfl ⟨rfl,(Ext.refl w).alloc _⟩
theorem join19 {w:World} {base:Nat} {v:Value} {l:List ByteArray} (h:w.ownsRow base 9 1 v l.length (l.map Value.string)) (hl:l.length<=1) (hz:∀ s∈l,s.size<=100000) (sep:ByteArray) :
  Calls prog 22 #[v,.string sep] w fun e w'=>e=.returned (.string (l.headD ⟨#[]⟩))/\Ext w w':=by
 match l,h,hl,hz with
 | [],h,_,_ =>
  obtain ⟨a,c,rfl⟩:=rowk_shape h;refine (Tryz.strings_Join_none a c sep w).mono ?_;rintro e w' ⟨rfl,rfl⟩;exact ⟨rfl,Ext.refl _⟩
 | [x],h,_,hz=>exact join_one (TextsOwn.of h rfl) sep (hz x (by simp))
set_option maxRecDepth 100000 in
set_option maxHeartbeats 2000000 in
theorem goes19 {w:World} {v:Value} {l:List Ent} (h:EntsSl w v l) (hr:Rise l) (hl:l.length<=1000) (h0:1<=l.length) (hpz:∀ x∈l,x.path.size<=100000) (hso:∀ w1 u,EntsSl w1 u l->SortsAt w1 u)
  (p:Pol) (hp:okP p=true) (now:Int) (K:List (List UInt8)) (hK:K.Nodup) (hm:∀ x,x∈K↔grp l (bsL x)≠[]) {out:List ByteArray} (ho:goesS p l now K=out) (ho1:out.length<=1) (ho2:∀ s∈out,s.size<=100000) :
  Calls prog 53 #[polV p,v,.int .i64 now] w fun e w'=>e=.returned (.string (out.headD ⟨#[]⟩))/\Ext w w':=by
 subst ho;have HG:=lh (fun w1 (x:Ext w w1)=>agoes_any (h.ext x) hr hl h0 hpz hso p hp now K hK hm);have HJ:=lh (fun (w1:World) base u (q:w1.ownsRow base 9 1 u (goesS p l now K).length ((goesS p l now K).map Value.string))=>join19 q ho1 ho2 ⟨#[32]⟩);have HP:=lh (show polV p=.agg #[.int .i64 p.kind,.int .i64 p.keep,.int .i64 p.age] from rfl);obtain ⟨g,o,cap,rfl,_⟩:=h;generalize goesS p l now K=out at *;generalize l.length=n at *;rw [HP.out];rw [HP.out] at HG;clear hpz hso hm;go_enter func53,ntmps53;go_wp2_with fail;refine (HG.out _ ((Ext.refl w).alloc _)).mono ?_;rintro e w1 ⟨u,rfl,h1⟩;have H1:=lh (HJ.out w1 _ u h1.out.1);have X1:=lh (((Ext.refl w).alloc (.cells #[.int .i64 p.kind,.int .i64 p.keep,.int .i64 p.age] 89 (0,0))).trans h1.out.2);clear h1 HG HJ;go_wp2_with fail;refine H1.out.mono ?_;rintro e w2 ⟨rfl,x2⟩;have X2:=lh (X1.out.trans x2);clear x2;go_wp2;go_ret;exact ⟨by rw [List.headD_eq_head?_getD];rfl,X2.out⟩
set_option maxRecDepth 100000 in
set_option maxHeartbeats 2000000 in
theorem two_many {w0 w:World} {A:List Thing} (h:Things w0 w A) (E:EnvA w0) :
  Calls prog 51 #[] w fun e w'=>∃ d,e=.returned (.pointer (some ⟨d,0,none⟩))/\Hid (Things w0 w' (A++[.disk d a3])):=by
 have H0:=lh (new_many h 16384 (by decide) (by decide));have HE:=lh E;have HF:=lh (fun w1=>file19 ⟨#[120,121]⟩ 3 w1);clear h E;go_enter func51,ntmps51;go_wp2_with fail;refine H0.out.mono ?_;rintro e w1 ⟨d,rfl,h1⟩;have T1:=lh h1;clear h1 H0;go_wp2_with fail;refine (HF.out _).mono ?_;rintro e w2 ⟨rfl,x2⟩;have T2:=lh (T1.out.ext x2);have H2:=lh (aadd_many (A:=A) (B:=[]) T2.out (ar0.mono (Nat.zero_le 5)) (ar1.mono (by decide)) (by decide) HE.out bV1 bAB bXY ⟨#[]⟩ 3 7 0 mb1 mb2 (by decide) (by decide) (.inr ⟨ay0,ax1⟩) (by decide) (fun j hj=>by omega) (by rw [ay1];decide) ax2);rw [if_pos rfl,an0] at H2;unfold bV1 bAB bXY at H2;clear x2 T1;go_wp2_with fail;refine H2.out.mono ?_;rintro e w3 ⟨rfl,h3⟩;have T3:=lh h3.out;clear h3 H2 T2;go_wp2_with fail;refine (HF.out _).mono ?_;rintro e w4 ⟨rfl,x4⟩;have T4:=lh (T3.out.ext x4);have H4:=lh (aadd_many (A:=A) (B:=[]) T4.out (ar2.mono (by decide)) (ar2.mono (by decide)) (by decide) HE.out bV1 bAB bXY ⟨#[]⟩ 3 7 1 mb1 mb2 (by decide) (by decide) (.inl ⟨of_decide_eq_false ay2,rfl⟩) (by decide) (fun j hj=>by obtain rfl:j=0:=(by omega);exact ay3) (by rw [ay4];decide) ax3 (m:=5));rw [if_pos rfl,an1] at H4;unfold bV1 bAB bXY at H4;clear x4 T3 HF;go_wp2_with fail;refine H4.out.mono ?_;rintro e w5 ⟨rfl,h5⟩;have T5:=lh h5.out;clear h5 H4 T4;go_wp2_with fail;go_ret;exact ⟨d,rfl,T5.out⟩
end
section
open Go.RowKit Go.Shelf
def cellsE (e:Ent):Array Value:=#[.string e.name,.string e.path,.int .i64 e.time,.int .i64 e.size]
theorem eq_ent (x y:Ent) (w:World):(Go.Op.equalIn 10000 93 (.agg (cellsE x)) (.agg (cellsE y))).run prog w=.ok (decide (x.name=y.name/\x.path=y.path/\x.time=y.time/\x.size=y.size)) w:=by
 have u3:=underlying3;have a3:=Tryz.isAgg3;have z3:=Tryz.sizeOf3;have u2:=underlying2;have a2:=Tryz.isAgg2;have z2:=Tryz.sizeOf2;have u9:=underlying9;have a9:=Tryz.isAgg9;have z9:=Tryz.sizeOf9;have hS:prog.underlying 93=some (.struct (prog.fieldsOf 93)):=by kernel_rfl
 have hp:prog.stoodInHeld 93=false:=by kernel_rfl
 simp only [cellsE];rw [show (10000:Nat)=9999+1 from rfl,run_equalIn_agg w 9999 93 _ _ hS hp];simp only [Program.fieldsOf,underlying93];go_simp;have te:∀ a b:ByteArray,(a.toList=b.toList)=(a=b):=fun a b=>propext ⟨ba_ext,fun h=>h▸rfl⟩;obtain ⟨k,d,t,m⟩:=x;obtain ⟨k',d',t',m'⟩:=y;by_cases h1:k=k' <;> by_cases h2:d=d' <;> by_cases h3:t=t' <;> by_cases h4:m=m' <;> simp [h1,h2,h3,h4,te]
theorem sortS_nil:sortS []=[]:=by simp [sortS]
theorem sortS_one (x:List UInt8):sortS [x]=[bsL x]:=by simp [sortS]
def riseB:List Ent->Bool
 | []=>true
 | x::l=>l.all (fun y=>!Go.Op.bytesLess y.name.toList x.name.toList&&!(x.name.toList==y.name.toList))&&riseB l
theorem rise_of:∀ (l:List Ent),riseB l=true->Rise l
 | [],_=>List.Pairwise.nil
 | x::l,h=>by
  unfold riseB at h;rw [Bool.and_eq_true] at h;refine List.Pairwise.cons (fun y hy=>?_) (rise_of l h.2);have:=List.all_eq_true.1 h.1 y hy
  simpa using this
theorem one_path {l:List Ent} {p:ByteArray} (hl:l≠[]) (h:∀ x∈l,x.path=p):(∀ x,x∈[p.data.toList]↔grp l (bsL x)≠[])/\grp l (bsL p.data.toList)=l:=by
 have hg:grp l p=l:=List.filter_eq_self.2 fun x hx=>by simpa using h x hx
 refine ⟨fun x=>?_,hg⟩;rw [List.mem_singleton];constructor
 ·rintro rfl;rw [show bsL p.data.toList=p from rfl,hg];exact hl
 ·intro hn;obtain ⟨y,hy⟩:=List.exists_mem_of_ne_nil _ hn;obtain ⟨h1,h2⟩:=List.mem_filter.1 hy;have e:p=bsL x:=(h y h1).symm.trans (of_decide_eq_true h2);rw [e];rfl
theorem goes_one {p:Pol} {l:List Ent} {now:Int} {q s:ByteArray} (hg:grp l (bsL q.data.toList)=l) (h:goP p l now=[s]):goesS p l now [q.data.toList]=[s]:=by
 unfold goesS goesL;simp only [List.flatMap_cons,List.flatMap_nil,List.append_nil,hg,h,List.map_cons,List.map_nil,sortS_one];rfl
theorem goes_none {p:Pol} {l:List Ent} {now:Int} {q:ByteArray} (hg:grp l (bsL q.data.toList)=l) (h:goP p l now=[]):goesS p l now [q.data.toList]=[]:=by
 unfold goesS goesL;simp only [List.flatMap_cons,List.flatMap_nil,List.append_nil,hg,h,List.map_nil,sortS_nil]
theorem goes1 {w:World} {v:Value} {l:List Ent} (h:EntsSl w v l) (hr:riseB l=true) (hl:decide (l.length<20)=true) (hne:l≠[]) {q:ByteArray} (hq:∀ x∈l,x.path=q) (hqz:q.size<=100000)
  (p:Pol) (hp:okP p=true) (now:Int) {out:List ByteArray} (ho:goP p l now=out) (ho1:out.length<=1) (ho2:∀ s∈out,s.size<=100000) :
  Calls prog 53 #[polV p,v,.int .i64 now] w fun e w'=>e=.returned (.string (out.headD ⟨#[]⟩))/\Ext w w':=by
 have hl':=of_decide_eq_true hl;obtain ⟨h1,h2⟩:=one_path hne hq;refine goes19 h (rise_of l hr) (by omega) (List.length_pos_iff.2 hne) (fun x hx=>by rw [hq x hx];exact hqz) (fun w1 u q1=>sorts_small q1 (rise_of l hr) hl') p hp now [q.data.toList] (by simp) h1 (out:=out) ?_ ho1 ho2
 match out,ho,ho1 with
 | [],ho,_=>exact goes_none h2 ho
 | [s],ho,_=>exact goes_one h2 ho
def lTwo:List Ent:=[⟨nameA 7 0,bAB,7,2⟩,⟨nameA 7 1,bAB,7,2⟩]
def bA:ByteArray:=⟨#[97]⟩
def lFive:List Ent:=[⟨⟨#[49]⟩,bA,0,0⟩,⟨⟨#[50]⟩,bA,5,0⟩,⟨⟨#[51]⟩,bA,95,0⟩,⟨⟨#[52]⟩,bA,150,0⟩,⟨⟨#[53]⟩,bA,199,0⟩]
theorem al3:entsL a3.live bV1=lTwo:=by kernel_rfl
theorem al4:dirE a3.live bV1=0:=by kernel_rfl
theorem al5:decide (a3.live.length<=20000)=true:=by kernel_rfl
theorem gt1:goP ⟨2,1,0⟩ lTwo 9=[nameA 7 0]:=by kernel_rfl
theorem gt2:goP ⟨3,0,0⟩ lFive 200=[⟨#[51]⟩]:=by kernel_rfl
theorem rt1:riseB lTwo=true:=by kernel_rfl
theorem rt2:riseB lFive=true:=by kernel_rfl
theorem pt1:∀ x∈lTwo,x.path=bAB:=by
 intro x hx;simp only [lTwo,List.mem_cons,List.not_mem_nil,or_false] at hx;rcases hx with rfl | rfl <;> rfl
theorem pt2:∀ x∈lFive,x.path=bA:=by
 intro x hx;simp only [lFive,List.mem_cons,List.not_mem_nil,or_false] at hx;rcases hx with rfl | rfl | rfl | rfl | rfl <;> rfl
theorem wpList_buildMany {P:Program} {ops:Array Oper} {rest:List Oper} {a:Act} {Q:Exit->Act->World->Prop} {w:World} {t e:TypeId} {z:Value} {k bytes:Nat} (el:ElemK P t e z k bytes) {o:Oper} (hg:o.guard=none) (n:Nat) (parts:Array (Nat×Operand))
  (ho:o.op=.buildSlice t n parts) (vs:List Value) (hn:vs.length=n) (hp:(parts.map fun (i,x)=>(i,a.eval x)).toList=(vs.zipIdx 0).map fun x=>(x.2,x.1)) (hv:∀ v∈vs,v.cells.size=k) (h0:0<n) (hk:n*k<=1000)
  (h:wpList P ops Q rest (a.put o.dst (.slice (some ⟨w.heap.size,0,none⟩) n n)) (w.alloc (.cells (vs.flatMap fun v=>v.cells.toList).toArray e))):wpList P ops Q (o::rest) a w:=by
 obtain ⟨i,hi,hz,hs,_⟩:=info_parts el.info;have hpos:=el.pos;have hpos2:=Nat.mul_pos h0 hpos;refine wpList_buildSlice hg t e n parts ho _ i z el.ut hi hz (by rw [hs];omega) (by rw [hs];omega) ?_ h;rw [hp];exact Go.Great.fill_whole (by rw [hs];exact hpos) vs _ (fun v hx=>by rw [hs];exact hv v hx) (by simp [hn])
set_option maxRecDepth 100000 in
set_option maxHeartbeats 8000000 in
theorem awake19 (w:World) (E:EnvA w):Calls prog 39 #[] w fun e w'=>e=.returned (.bool true)/\Ext w w':=by
 have H0:=lh (two_many (Things.start (Ext.refl w)) E);have HE:=lh E;have HA:=lh (fun t s w1=>at19 t s w1);clear E;go_enter func39,ntmps39;go_wp2_with fail;refine H0.out.mono ?_;rintro e w1 ⟨d,rfl,h1⟩;have H1:=lh (alist_many (A:=[]) (B:=[]) h1.out ar3.ok (HE.out.ext h1.out.is_ext) bV1 mb1 al4 (of_decide_eq_true al5));rw [al3] at H1;unfold bV1 at H1;have X1:=lh h1.out.is_ext;clear h1 H0;go_wp2_with fail;refine H1.out.mono ?_;rintro e w2 ⟨v,rfl,h2⟩;obtain ⟨ho2,hx2⟩:=h2.out;obtain ⟨hq,hv⟩:=row_ents (l:=lTwo) ho2 rfl (row_nonil ho2 (by decide));obtain ⟨g,o,cap,hv2,hc2,hc3,hc4⟩:=hq;have HQ:=lh (show EntsSl w2 (.slice (some ⟨g,o,none⟩) 2 cap) lTwo from ⟨g,o,cap,rfl,hc2,hc3,hc4⟩);have c0:=lh (hc4 0 (.string (nameA 7 0)) rfl);rw [an0] at c0;subst hv2;rw [show lTwo.length=2 from rfl] at hc2 ⊢;have X2:=lh (X1.out.trans hx2);clear h2 ho2 hx2 H1 hv hc4;go_wp2_with fail;refine (HA.out _ _ _).mono ?_;rintro e w3 ⟨rfl,x3⟩;have X3:=lh x3;clear x3;go_wp2_with fail;refine (HA.out _ _ _).mono ?_;rintro e w4 ⟨rfl,x4⟩;have X4:=lh (X3.out.trans x4);clear x4;go_wp2_with fail;refine (HA.out _ _ _).mono ?_;rintro e w5 ⟨rfl,x5⟩;have X5:=lh (X4.out.trans x5);clear x5;go_wp2_with fail;refine (HA.out _ _ _).mono ?_;rintro e w6 ⟨rfl,x6⟩;have X6:=lh (X5.out.trans x6);clear x6;go_wp2_with fail;refine (HA.out _ _ _).mono ?_;rintro e w7 ⟨rfl,x7⟩;have X7:=lh (X6.out.trans x7);clear x7 X3 X4 X5 X6;have HB:=lh (block_alloc_new w7 (.cells (entsV lFive).toArray 93 (0,0)));have X8:=lh (X7.out.alloc (.cells (entsV lFive).toArray 93 (0,0)));go_upto_region 6 with (refine wpList_buildMany elEnt rfl 5 _ rfl (lFive.map fun e=>.agg (cellsE e)) rfl rfl (fun v hv=>by obtain ⟨e,_,rfl⟩:=List.mem_map.1 hv;rfl) (by decide) (by decide) ?_;go_frame)
 have HQ8:=lh (HQ.out.ext X8.out)
 have HF8:=lh (show EntsSl (w7.alloc (.cells (entsV lFive).toArray 93 (0,0))) (.slice (some ⟨w7.heap.size,0,none⟩) 5 5) lFive from ⟨w7.heap.size,0,5,rfl,Nat.le_refl _,by decide,fun j u hj=>by
  rw [Nat.zero_add]
  exact (cellB HB.out).trans (by rw [<-Array.getElem?_toList];exact hj)⟩)
 have c8:=(X8.out.cell (lt_of_cell c0.out)).trans c0.out;rw [Nat.add_zero] at c8;have XF:=lh (X2.out.trans X8.out)
 show Code.wp _ _ _ _ (w7.alloc (.cells (entsV lFive).toArray 93 (0,0)))
 generalize w7.alloc (.cells (entsV lFive).toArray 93 (0,0))=w8 at *
 have r0:=lh (fun z:After w8=>(by
  have:=(show EntsSl z.v (.slice (some ⟨g,o,none⟩) lTwo.length cap) lTwo from HQ8.out.ext z.x).at (k:=0) (x:=⟨nameA 7 0,bAB,7,2⟩) rfl;rw [an0] at this
  exact this:z.v.rangeAt g (o+0*4) [.string ⟨#[48,48,48,48,48,48,48,48,48,55,45,48,48,48,48]⟩,.string ⟨#[97,47,98]⟩,.int .i64 7,.int .i64 2]))
 rw [Nat.zero_mul,Nat.add_zero] at r0;have G1:=lh (fun z:After w8=>goes1 (HQ8.out.ext z.x) rt1 rfl (by simp [lTwo]) pt1 (by decide) ⟨2,1,0⟩ rfl 9 gt1 (by decide) (fun s hs=>by rw [List.mem_singleton.1 hs,nameA_size];decide));have G2:=lh (fun z:After w8=>goes1 (HF8.out.ext z.x) rt2 rfl (by simp [lFive]) pt2 (by decide) ⟨3,0,0⟩ rfl 200 gt2 (by decide) (fun s hs=>by rw [List.mem_singleton.1 hs];decide));rw [an0] at G1;unfold polV at G1 G2;dsimp only [List.headD_cons] at G1 G2
 have he:∀ w',(Go.Op.equalIn 10000 93 (.agg #[.string ⟨#[48,48,48,48,48,48,48,48,48,55,45,48,48,48,48]⟩,.string ⟨#[97,47,98]⟩,.int .i64 7,.int .i64 2]) (.agg #[.string ⟨#[48,48,48,48,48,48,48,48,48,55,45,48,48,48,48]⟩,.string ⟨#[97,47,98]⟩,.int .i64 7,.int .i64 2])).run prog w'=.ok true w':=fun w'=>by
  have:=eq_ent ⟨⟨#[48,48,48,48,48,48,48,48,48,55,45,48,48,48,48]⟩,⟨#[97,47,98]⟩,7,2⟩ ⟨⟨#[48,48,48,48,48,48,48,48,48,55,45,48,48,48,48]⟩,⟨#[97,47,98]⟩,7,2⟩ w';rw [decide_eq_true ⟨rfl,rfl,rfl,rfl⟩] at this;exact this
 clear HQ HB X7 X1 HA c0 HE HF8 HQ8;have c9:=fun z:After w8=>(z.x.cell (lt_of_cell c8)).trans c8;clear c8;refine wp_region_after (by kernel_rfl) (by kernel_rfl) ?_
 iterate 10 go_big_quiet_step (fail)
 refine wpQuiet_load_ag rfl _ _ rfl g o rfl #[.string ⟨#[48,48,48,48,48,48,48,48,48,55,45,48,48,48,48]⟩,.string ⟨#[97,47,98]⟩,.int .i64 7,.int .i64 2] _ (by rintro _ ⟨z,rfl⟩;exact r0.out z) underlying93 rfl (by kernel_rfl) ?_;go_frame
 iterate 6 go_big_quiet_step (fail)
 go_big_quiet_step (exact After.of (G1.out _))
 iterate 9 go_big_quiet_step (fail)
 go_big_quiet_step (exact After.of (G2.out _))
 iterate 3 go_big_quiet_step (fail)
 refine wpQuiet_nil ?_;rintro _ ⟨z,rfl⟩;have XZ:=lh (XF.out.trans z.x);go_wp2;go_ret;exact ⟨rfl,XZ.out⟩
end
section
open Go.RowKit Go.Shelf
end
section
open Go.RowKit
end
section
open Go.RowKit
def lexLt (x y:Nat×Nat):Prop:=x.1<y.1\/(x.1=y.1/\x.2<y.2)
def pthN (i:Nat):ByteArray:=⟨#[UInt8.ofNat (97+i % 3)]⟩
def ndN (i:Nat):Nd:=⟨1,prefB (pthN i)++⟨#[120]⟩,emp,1⟩
def ndsN (ns:List (Nat×Nat)):Nodes:=ns.mapIdx fun j x=>(arcP bV1 x.1 x.2,ndN j)
def dirV:ByteArray×Nd:=(bV1,⟨2,emp,emp,0⟩)
structure TurnB (ns:List (Nat×Nat)) (D:Dk):Prop where
 live:D.live=dirV::ndsN ns
 room:D.room=16384
 fused:D.fused=false
structure TurnS (i now:Nat) (D:Dk) (ns:List (Nat×Nat)):Prop where
 len:ns.length=i
 base:(i=0/\D=a0)\/(0<i/\TurnB ns D)
 run:DkRun (i+1) D
 up:ns.Pairwise lexLt
 le:∀ x∈ns,x.1<=now/\x.2<i
 dense:∀ x∈ns,∀ j,j<x.2->(x.1,j)∈ns
end
section
open Go.RowKit
section
variable {P:Program} {ops:Array Oper} {Q:Exit->Act->World->Prop} {md:Region.Mode} {S:World->Prop} {a:Act}
end
end
section
open Go.ChangeShapes Go.WideShapes Go.ChangeAt Go.RowKit
section
variable {H:Type} {enc:TypeId×Value->H} {W:World} {base':Nat} {sp:Nat->Bool} {held:Bool}
end
end
section
open Go.RowKit
attribute [local go_sem] Oper.semAt_some
theorem kl_irr (a:List UInt8):¬ a<a:=List.lt_irrefl a
theorem kl_tr {a b c:List UInt8} (h:a<b) (k:b<c):a<c:=List.lt_trans h k
theorem kl_tri {a b:List UInt8} (h:¬ a<b) (k:¬ b<a):a=b:=List.le_antisymm (List.not_lt.1 k) (List.not_lt.1 h)
theorem kl_le {a b c:List UInt8} (h:¬ b<a) (k:¬ c<b):¬ c<a:=fun q=>by
 by_cases e:a<b
 ·exact k (List.lt_trans q e)
 ·rw [kl_tri e h] at q;exact k q
theorem kl_as {a b:List UInt8} (h:a<b):¬ b<a:=fun k=>List.lt_irrefl a (List.lt_trans h k)
theorem kl_lt_le {a b c:List UInt8} (h:a<b) (k:¬ c<b):a<c:=by
 by_cases e:b<c
 ·exact List.lt_trans h e
 ·rw [<-kl_tri e k];exact h
theorem kl_le_lt {a b c:List UInt8} (h:¬ b<a) (k:b<c):a<c:=by
 by_cases e:a<b
 ·exact List.lt_trans e k
 ·rw [kl_tri e h];exact k
def plF {α:Type} (l:List α) (f:Nat->Nat):List α:=(List.range l.length).filterMap fun i=>l[f i]?
section
variable {α:Type} {l:List α} {f g:Nat->Nat}
theorem plF_aux (hf:∀ i,i<l.length->f i<l.length):∀ n,n<=l.length->((List.range n).filterMap fun i=>l[f i]?).length=n/\∀ i,i<n->((List.range n).filterMap fun i=>l[f i]?)[i]?=l[f i]?:=by
 intro n
 induction n with
 | zero=>intro _;exact ⟨rfl,fun i hi=>absurd hi (Nat.not_lt_zero _)⟩
 | succ n ih =>
  intro hn;obtain ⟨h1,h2⟩:=ih (by omega);have hfn:=hf n (by omega);rw [List.range_succ,List.filterMap_append,List.filterMap_cons,List.getElem?_eq_getElem hfn,List.filterMap_nil];refine ⟨by rw [List.length_append,h1];rfl,fun i hi=>?_⟩;by_cases hin:i<n
  ·rw [List.getElem?_append_left (by omega)];exact h2 i hin
  ·obtain rfl:i=n:=by omega
   rw [List.getElem?_append_right (by omega),h1,Nat.sub_self,List.getElem?_eq_getElem hfn];rfl
theorem plF_len (hf:∀ i,i<l.length->f i<l.length):(plF l f).length=l.length:=(plF_aux hf _ (Nat.le_refl _)).1
theorem plF_get (hf:∀ i,i<l.length->f i<l.length) {i:Nat} (hi:i<l.length):(plF l f)[i]?=l[f i]?:=(plF_aux hf _ (Nat.le_refl _)).2 i hi
theorem plF_plF (hf:∀ i,i<l.length->f i<l.length) (hg:∀ i,i<l.length->g i<l.length):plF (plF l f) g=plF l (fun i=>f (g i)):=by
 have h1:=plF_len hf;have hg':∀ i,i<(plF l f).length->g i<(plF l f).length:=by rw [h1];exact hg
 have hc:∀ i,i<l.length->f (g i)<l.length:=fun i hi=>hf _ (hg i hi);refine List.ext_getElem? fun i=>?_;by_cases hi:i<l.length
 ·rw [plF_get hg' (by omega),plF_get hf (hg i hi),plF_get hc hi]
 ·rw [List.getElem?_eq_none (by rw [plF_len hg',h1];omega),List.getElem?_eq_none (by rw [plF_len hc];omega)]
theorem fm_congr {β:Type} {p q:Nat->Option β}:∀ L:List Nat,(∀ i∈L,p i=q i)->L.filterMap p=L.filterMap q
 | [],_=>rfl
 | i::L,h=>by rw [List.filterMap_cons,List.filterMap_cons,h i (List.mem_cons_self ..),fm_congr L fun j hj=>h j (List.mem_cons_of_mem _ hj)]
theorem plF_congr (h:∀ i,i<l.length->f i=g i):plF l f=plF l g:=fm_congr _ fun i hi=>by rw [h i (List.mem_range.1 hi)]
theorem plF_id (h:∀ i,i<l.length->f i=i):plF l f=l:=by
 have hf:∀ i,i<l.length->f i<l.length:=fun i hi=>by rw [h i hi];exact hi
 refine List.ext_getElem? fun i=>?_;by_cases hi:i<l.length
 ·rw [plF_get hf hi,h i hi]
 ·rw [List.getElem?_eq_none (by rw [plF_len hf];omega),List.getElem?_eq_none (by omega)]
end
def swF (x y n i:Nat):Nat:=if x<=i/\i<x+n then i - x+y else if y<=i/\i<y+n then i - y+x else i
def rotF (a m b i:Nat):Nat:=if a<=i/\i<a+(b - m) then i - a+m else if a+(b - m)<=i/\i<b then i - (a+(b - m))+a else i
theorem swF_lt {x y n N i:Nat} (hx:x+n<=N) (hy:y+n<=N) (hi:i<N):swF x y n i<N:=by
 unfold swF;split
 ·omega
 ·split <;> omega
theorem rotF_lt {a m b N i:Nat} (_h1:a<=m) (h2:m<=b) (h3:b<=N) (hi:i<N):rotF a m b i<N:=by
 unfold rotF;split
 ·omega
 ·split <;> omega
section
variable {α:Type} {l:List α}
theorem sw_zero (x y:Nat):plF l (swF x y 0)=l:=plF_id fun i _=>by
 unfold swF;rw [if_neg (by omega),if_neg (by omega)]
theorem sw_step {x y k:Nat} (hx:x+k<l.length) (hy:y+k<l.length) (hd:x+k+1<=y\/y+k+1<=x):plF (plF l (swF x y k)) (swF (x+k) (y+k) 1)=plF l (swF x y (k+1)):=by
 rw [plF_plF (fun i hi=>swF_lt (by omega) (by omega) hi) (fun i hi=>swF_lt (by omega) (by omega) hi)];refine plF_congr fun i hi=>?_;unfold swF
 repeat' split
 all_goals omega
theorem rot_big {a m b:Nat} (h1:a<=m) (h2:m<=b) (h3:b<=l.length) (hij:b - m<m - a):plF (plF l (swF a m (b - m))) (rotF (a+(b - m)) m b)=plF l (rotF a m b):=by
 rw [plF_plF (fun i hi=>swF_lt (by omega) (by omega) hi) (fun i hi=>rotF_lt (by omega) (by omega) (by omega) hi)];refine plF_congr fun i hi=>?_;unfold swF rotF
 repeat' split
 all_goals omega
theorem rot_small {a m b:Nat} (h1:a<=m) (h2:m<=b) (h3:b<=l.length) (hij:m - a<b - m):plF (plF l (swF a (b - (m - a)) (m - a))) (rotF a m (b - (m - a)))=plF l (rotF a m b):=by
 rw [plF_plF (fun i hi=>swF_lt (by omega) (by omega) hi) (fun i hi=>rotF_lt (by omega) (by omega) (by omega) hi)];refine plF_congr fun i hi=>?_;unfold swF rotF
 repeat' split
 all_goals omega
theorem rot_even {a m b:Nat} (h1:a<=m) (h2:m<=b) (hij:m - a=b - m):plF l (swF a m (m - a))=plF l (rotF a m b):=by
 refine plF_congr fun i hi=>?_;unfold swF rotF
 repeat' split
 all_goals omega
theorem rot_none {a m b:Nat} (h:a=m\/m=b) (h1:a<=m) (h2:m<=b):plF l (rotF a m b)=l:=plF_id fun i hi=>by
 unfold rotF
 repeat' split
 all_goals omega
theorem rot_up {a k:Nat} (h:a<=k) (hk:k+1<l.length):plF (plF l (rotF a (a+1) (k+1))) (swF k (k+1) 1)=plF l (rotF a (a+1) (k+2)):=by
 rw [plF_plF (fun i hi=>rotF_lt (by omega) (by omega) (by omega) hi) (fun i hi=>swF_lt (by omega) (by omega) hi)];refine plF_congr fun i hi=>?_;unfold swF rotF
 repeat' split
 all_goals omega
theorem rot_down {k m:Nat} (h0:0<k) (h:k<=m) (hk:m<l.length):plF (plF l (rotF k m (m+1))) (swF k (k - 1) 1)=plF l (rotF (k - 1) m (m+1)):=by
 rw [plF_plF (fun i hi=>rotF_lt (by omega) (by omega) (by omega) hi) (fun i hi=>swF_lt (by omega) (by omega) hi)];refine plF_congr fun i hi=>?_;unfold swF rotF
 repeat' split
 all_goals omega
theorem rot_app (A U V B:List α):plF (A++U++V++B) (rotF A.length (A.length+U.length) (A.length+U.length+V.length))=A++V++U++B:=by
 have hf:∀ i,i<(A++U++V++B).length->rotF A.length (A.length+U.length) (A.length+U.length+V.length) i<(A++U++V++B).length:=fun i hi=>rotF_lt (by omega) (by omega) (by simp only [List.length_append];omega) hi;refine List.ext_getElem? fun i=>?_;by_cases hi:i<(A++U++V++B).length
 ·rw [plF_get hf hi];unfold rotF;simp only [List.length_append] at hi;split
  ·rw [List.getElem?_append_left (by simp only [List.length_append];omega),List.getElem?_append_right (by simp only [List.length_append];omega),List.append_assoc,List.append_assoc,List.getElem?_append_right (by omega),List.getElem?_append_left (by omega)]
   congr 1
   simp only [List.length_append];omega
  ·split
   ·rw [List.append_assoc,List.append_assoc,List.getElem?_append_right (by omega),List.getElem?_append_left (by omega),List.getElem?_append_left (by simp only [List.length_append];omega),List.getElem?_append_right (by simp only [List.length_append];omega)]
    congr 1
    simp only [List.length_append];omega
   ·by_cases ha:i<A.length
    ·rw [List.append_assoc,List.append_assoc,List.getElem?_append_left ha,List.append_assoc,List.append_assoc,List.getElem?_append_left ha]
    ·rw [List.getElem?_append_right (by simp only [List.length_append];omega),List.getElem?_append_right (by simp only [List.length_append];omega)]
     congr 1
     simp only [List.length_append];omega
 ·rw [List.getElem?_eq_none (by rw [plF_len hf];omega),List.getElem?_eq_none (by simp only [List.length_append] at hi ⊢;omega)]
end
section
variable {α:Type} (key:α->List UInt8)
def Stab (l l':List α):Prop:=∀ k:List UInt8,l.filter (fun x=>key x==k)=l'.filter (fun x=>key x==k)
def NG (l:List α) (i j:Nat):Prop:=∀ x y,l[i]?=some x->l[j]?=some y->¬ key y<key x
def SoOn (l:List α) (a b:Nat):Prop:=∀ i j,a<=i->i<j->j<b->NG key l i j
structure Mg (l l':List α) (a b:Nat):Prop where
 len:l'.length=l.length
 out:∀ i,(i<a\/b<=i)->l'[i]?=l[i]?
 mem:∀ i,a<=i->i<b->∃ j,a<=j/\j<b/\l'[i]?=l[j]?
 st:Stab key l l'
 so:SoOn key l' a b
variable {key}
theorem Stab.refl (l:List α):Stab key l l:=fun _=>rfl
theorem Stab.trans {a b c:List α} (h:Stab key a b) (k:Stab key b c):Stab key a c:=fun x=>(h x).trans (k x)
theorem Stab.symm {a b:List α} (h:Stab key a b):Stab key b a:=fun x=>(h x).symm
theorem stab_rot (A U V B:List α) (h:∀ u∈U,∀ v∈V,key u≠key v):Stab key (A++U++V++B) (A++V++U++B):=by
 intro k;simp only [List.filter_append]
 congr 1
 rw [List.append_assoc,List.append_assoc]
 congr 1
 by_cases hu:∃ u∈U,key u=k
 ·obtain ⟨u,hu,rfl⟩:=hu;have hv:V.filter (fun x=>key x==key u)=[]:=List.filter_eq_nil_iff.2 fun v hv e=>h u hu v hv (eq_of_beq e).symm;rw [hv,List.append_nil,List.nil_append]
 ·have hu':U.filter (fun x=>key x==k)=[]:=List.filter_eq_nil_iff.2 fun u h1 e=>hu ⟨u,h1,eq_of_beq e⟩;rw [hu',List.append_nil,List.nil_append]
theorem stab_rotF {l:List α} {a m b:Nat} (h1:a<=m) (h2:m<=b) (h3:b<=l.length) (h:∀ i j x y,a<=i->i<m->m<=j->j<b->l[i]?=some x->l[j]?=some y->key y<key x):Stab key l (plF l (rotF a m b)):=by
 have e1:l=l.take a++(l.drop a).take (m - a)++(l.drop m).take (b - m)++l.drop b:=by
  rw [show l.drop m=(l.drop a).drop (m - a) from by rw [List.drop_drop];congr 1;omega];rw [List.append_assoc (l.take a)]
  rw [show (l.drop a).take (m - a)++((l.drop a).drop (m - a)).take (b - m)=(l.drop a).take (b - a) from by
   rw [show b - a=(m - a)+(b - m) from by omega,List.take_add]]
  rw [show l.take a++(l.drop a).take (b - a)=l.take b from by rw [show b=a+(b - a) from by omega,List.take_add,Nat.add_sub_cancel_left]];exact (List.take_append_drop b l).symm
 have l1:(l.take a).length=a:=by rw [List.length_take];omega
 have l2:((l.drop a).take (m - a)).length=m - a:=by rw [List.length_take,List.length_drop];omega
 have l3:((l.drop m).take (b - m)).length=b - m:=by rw [List.length_take,List.length_drop];omega
 have r:=rot_app (l.take a) ((l.drop a).take (m - a)) ((l.drop m).take (b - m)) (l.drop b);rw [l1,l2,l3,<-e1,show a+(m - a)=m from by omega,show m+(b - m)=b from by omega] at r;rw [r];refine fun k=>(congrArg (List.filter fun x=>key x==k) e1).trans (stab_rot _ _ _ _ (fun u hu v hv e=>?_) k);obtain ⟨i,hi⟩:=List.getElem?_of_mem hu;obtain ⟨j,hj⟩:=List.getElem?_of_mem hv;rw [List.getElem?_take] at hi hj;split at hi
 ·split at hj
  ·rw [List.getElem?_drop] at hi hj;have:=h _ _ _ _ (Nat.le_add_right a i) (by omega) (Nat.le_add_right m j) (by omega) hi hj;rw [e] at this;exact kl_irr _ this
  ·cases hj
 ·cases hi
theorem Mg.refl {l:List α} {a b:Nat} (h:SoOn key l a b):Mg key l l a b:=⟨rfl,fun _ _=>rfl,fun i h1 h2=>⟨i,h1,h2,rfl⟩,Stab.refl l,h⟩
theorem SoOn.small {l:List α} {a b:Nat} (h:b<=a+1):SoOn key l a b:=fun i j h1 h2 h3=>by omega
theorem SoOn.sub {l:List α} {a b c d:Nat} (h:SoOn key l a b) (h1:a<=c) (h2:d<=b):SoOn key l c d:=fun i j x y z=>h i j (by omega) y (by omega)
theorem SoOn.same {l l':List α} {a b:Nat} (h:SoOn key l a b) (e:∀ i,a<=i->i<b->l'[i]?=l[i]?):SoOn key l' a b:=fun i j h1 h2 h3 x y hx hy=>h i j h1 h2 h3 x y ((e i h1 (by omega)).symm.trans hx) ((e j (by omega) h3).symm.trans hy)
theorem SoOn.shift {l l':List α} {a b c d:Nat} (h:SoOn key l a b) (hd:d - c<=b - a) (e:∀ i,c<=i->i<d->l'[i]?=l[i - c+a]?):SoOn key l' c d:=fun i j h1 h2 h3 x y hx hy=>h (i - c+a) (j - c+a) (by omega) (by omega) (by omega) x y ((e i h1 (by omega)).symm.trans hx) ((e j (by omega) h3).symm.trans hy)
section
variable {l:List α} {a s m e b:Nat}
theorem rot_at (h:s<=m) (h':m<=e) (h3:e<=l.length) :
  (∀ i,i<s\/e<=i->(plF l (rotF s m e))[i]?=l[i]?)/\(∀ i,s<=i->i<s+(e - m)->(plF l (rotF s m e))[i]?=l[i - s+m]?)/\(∀ i,s+(e - m)<=i->i<e->(plF l (rotF s m e))[i]?=l[i - (s+(e - m))+s]?):=by
 have hf:∀ i,i<l.length->rotF s m e i<l.length:=fun i hi=>rotF_lt h h' h3 hi;refine ⟨fun i hi=>?_,fun i h1 h2=>?_,fun i h1 h2=>?_⟩
 ·by_cases hl:i<l.length
  ·rw [plF_get hf hl];unfold rotF;rw [if_neg (by omega),if_neg (by omega)]
  ·rw [List.getElem?_eq_none (by rw [plF_len hf];omega),List.getElem?_eq_none (by omega)]
 ·rw [plF_get hf (by omega)];unfold rotF;rw [if_pos (by omega)]
 ·rw [plF_get hf (by omega)];unfold rotF;rw [if_neg (by omega),if_pos (by omega)]
theorem rot_runs (hs:a<=s) (h:s<=m) (h':m<=e) (he:e<=b) (hb:b<=l.length) (h1:SoOn key l a m) (h2:SoOn key l m b) :
  SoOn key (plF l (rotF s m e)) a s/\SoOn key (plF l (rotF s m e)) s (s+(e - m))/\SoOn key (plF l (rotF s m e)) (s+(e - m)) e/\SoOn key (plF l (rotF s m e)) e b:=by
 obtain ⟨r1,r2,r3⟩:=rot_at (l:=l) h h' (by omega);refine ⟨(h1.sub (Nat.le_refl a) h).same fun i _ q=>r1 i (.inl q),?_,?_,(h2.sub h' (Nat.le_refl b)).same fun i q _=>r1 i (.inr q)⟩
 ·exact SoOn.shift (h2.sub (Nat.le_refl m) he) (by omega) r2
 ·exact SoOn.shift (h1.sub hs (Nat.le_refl m)) (by omega) r3
theorem Mg.join {l2 l3:List α} (hs:a<=s) (h:s<=m) (h':m<=e) (he:e<=b) (hb:b<=l.length) (h1:SoOn key l a m) (h2:SoOn key l m b)
  (hx:s<m->m<e->∀ x y,l[s]?=some x->l[e - 1]?=some y->key y<key x) (hy:a<s->e<b->NG key l (s - 1) e)
  (m2:Mg key (plF l (rotF s m e)) l2 a (s+(e - m))) (m3:Mg key l2 l3 (s+(e - m)) b):Mg key l l3 a b:=by
 obtain ⟨r1,r2,r3⟩:=rot_at (l:=l) h h' (by omega);have hf:∀ i,i<l.length->rotF s m e i<l.length:=fun i hi=>rotF_lt h h' (by omega) hi;have hlen:=plF_len hf;have at':∀ {i:Nat} {x:α},l[i]?=some x->i<l.length:=fun hi=>(List.getElem?_eq_some_iff.1 hi).1
 have hVU:∀ i j x y,s<=i->i<m->m<=j->j<e->l[i]?=some x->l[j]?=some y->key y<key x:=fun i j x y q1 q2 q3 q4 ex ey=>by
  obtain ⟨xs,exs⟩:∃ x,l[s]?=some x:=⟨_,List.getElem?_eq_getElem (by omega)⟩;obtain ⟨ye,eye⟩:∃ x,l[e - 1]?=some x:=⟨_,List.getElem?_eq_getElem (by omega)⟩;have k1:=hx (by omega) (by omega) xs ye exs eye
  have k2:¬ key x<key xs:=by
   by_cases hq:s=i
   ·subst hq;rw [exs] at ex;cases ex;exact kl_irr _
   ·exact h1 s i (by omega) (by omega) q2 _ _ exs ex
  have k3:¬ key ye<key y:=by
   by_cases hq:j=e - 1
   ·subst hq;rw [eye] at ey;cases ey;exact kl_irr _
   ·exact h2 j (e - 1) q3 (by omega) (by omega) _ _ ey eye
  exact kl_lt_le (kl_le_lt k3 k1) k2
 have hst:Stab key l (plF l (rotF s m e)):=stab_rotF h h' (by omega) hVU
 have cross:∀ i j,a<=i->i<s+(e - m)->s+(e - m)<=j->j<b->NG key (plF l (rotF s m e)) i j:=by
  intro i j q1 q2 q3 q4 x y ex ey;by_cases hi:i<s
  ·rw [r1 i (.inl hi)] at ex;by_cases hj:j<e
   ·rw [r3 j q3 hj] at ey;exact h1 i _ q1 (by omega) (by omega) _ _ ex ey
   ·rw [r1 j (.inr (by omega))] at ey;obtain ⟨xs,exs⟩:∃ x,l[s - 1]?=some x:=⟨_,List.getElem?_eq_getElem (by omega)⟩;obtain ⟨ye,eye⟩:∃ x,l[e]?=some x:=⟨_,List.getElem?_eq_getElem (by omega)⟩;have k1:=hy (by omega) (by omega) xs ye exs eye
    have k2:¬ key xs<key x:=by
     by_cases hq:i=s - 1
     ·subst hq;rw [exs] at ex;cases ex;exact kl_irr _
     ·exact h1 i (s - 1) q1 (by omega) (by omega) _ _ ex exs
    have k3:¬ key y<key ye:=by
     by_cases hq:e=j
     ·subst hq;rw [eye] at ey;cases ey;exact kl_irr _
     ·exact h2 e j (by omega) (by omega) q4 _ _ eye ey
    exact kl_le (kl_le k2 k1) k3
  ·rw [r2 i (by omega) q2] at ex;by_cases hj:j<e
   ·rw [r3 j q3 hj] at ey;exact kl_as (hVU _ _ _ _ (by omega) (by omega) (by omega) (by omega) ey ex)
   ·rw [r1 j (.inr (by omega))] at ey;exact h2 _ j (by omega) (by omega) q4 _ _ ex ey
 refine ⟨by rw [m3.len,m2.len,hlen],fun i hi=>?_,fun i q1 q2=>?_,(hst.trans m2.st).trans m3.st,fun i j q1 q2 q3 x y ex ey=>?_⟩
 ·rw [m3.out i (by omega),m2.out i (by omega),r1 i (by omega)]
 ·have back:∀ j,a<=j->j<b->∃ k,a<=k/\k<b/\(plF l (rotF s m e))[j]?=l[k]?:=fun j q1 q2=>by
   by_cases c1:j<s
   ·exact ⟨j,q1,q2,r1 j (.inl c1)⟩
   ·by_cases c2:j<s+(e - m)
    ·exact ⟨_,by omega,by omega,r2 j (by omega) c2⟩
    ·by_cases c3:j<e
     ·exact ⟨_,by omega,by omega,r3 j (by omega) c3⟩
     ·exact ⟨j,q1,q2,r1 j (.inr (by omega))⟩
  by_cases hi:i<s+(e - m)
  ·obtain ⟨j,j1,j2,ej⟩:=m2.mem i q1 hi;obtain ⟨k,k1,k2,ek⟩:=back j j1 (by omega);exact ⟨k,k1,k2,by rw [m3.out i (.inl hi),ej,ek]⟩
  ·obtain ⟨j,j1,j2,ej⟩:=m3.mem i (by omega) q2;obtain ⟨k,k1,k2,ek⟩:=back j (by omega) j2;exact ⟨k,k1,k2,by rw [ej,m2.out j (.inr (by omega)),ek]⟩
 ·by_cases hj:j<s+(e - m)
  ·rw [m3.out i (.inl (by omega))] at ex;rw [m3.out j (.inl hj)] at ey;exact m2.so i j q1 q2 hj x y ex ey
  ·by_cases hi:s+(e - m)<=i
   ·exact m3.so i j hi q2 q3 x y ex ey
   ·obtain ⟨j',j1,j2,ej⟩:=m3.mem j (by omega) q3;obtain ⟨i',i1,i2,ei⟩:=m2.mem i q1 (by omega);rw [m3.out i (.inl (by omega)),ei] at ex;rw [ej,m2.out j' (.inr j1)] at ey;exact cross i' j' i1 i2 j1 j2 x y ex ey
theorem Mg.first {i:Nat} (h1:a+1<=i) (h2:i<=b) (hb:b<=l.length) (h:SoOn key l (a+1) b)
  (hlo:∀ t,a+1<=t->t<i->∀ x y,l[a]?=some x->l[t]?=some y->key y<key x) (hhi:∀ t,i<=t->t<b->NG key l a t):Mg key l (plF l (rotF a (a+1) i)) a b:=by
 obtain ⟨r1,r2,r3⟩:=rot_at (l:=l) (s:=a) (m:=a+1) (e:=i) (by omega) h1 (by omega);obtain ⟨k1,k2,k3,k4⟩:=rot_runs (l:=l) (s:=a) (m:=a+1) (e:=i) (b:=b) (Nat.le_refl a) (by omega) h1 h2 hb (SoOn.small (by omega)) h;refine Mg.join (Nat.le_refl a) (by omega) h1 h2 hb (SoOn.small (by omega)) h (fun _ q x y ex ey=>hlo _ (by omega) (by omega) x y ex ey) (fun q=>absurd q (by omega)) (Mg.refl k2) (Mg.refl fun p q q1 q2 q3 x y ex ey=>?_);by_cases hp:p<i
 ·rw [r3 p q1 hp,show p - (a+(i - (a+1)))+a=a from by omega] at ex;rw [r1 q (.inr (by omega))] at ey;exact hhi q (by omega) q3 x y ex ey
 ·rw [r1 p (.inr (by omega))] at ex;rw [r1 q (.inr (by omega))] at ey;exact h p q (by omega) q2 q3 x y ex ey
theorem Mg.last {i m:Nat} (h1:a<=i) (h2:i<=m) (hb:m<l.length) (h:SoOn key l a m)
  (hlo:∀ t,a<=t->t<i->NG key l t m) (hhi:∀ t,i<=t->t<m->∀ x y,l[t]?=some x->l[m]?=some y->key y<key x):Mg key l (plF l (rotF i m (m+1))) a (m+1):=by
 obtain ⟨r1,r2,r3⟩:=rot_at (l:=l) (s:=i) (m:=m) (e:=m+1) h2 (by omega) (by omega);obtain ⟨k1,k2,k3,k4⟩:=rot_runs (l:=l) (s:=i) (m:=m) (e:=m+1) (b:=m+1) h1 h2 (by omega) (Nat.le_refl _) (by omega) h (SoOn.small (by omega));refine Mg.join h1 h2 (by omega) (Nat.le_refl _) (by omega) h (SoOn.small (by omega)) (fun q _ x y ex ey=>hhi i (Nat.le_refl i) q x y ex (by rw [Nat.add_sub_cancel] at ey;exact ey)) (fun _ q=>absurd q (by omega)) (Mg.refl fun p q q1 q2 q3 x y ex ey=>?_) (Mg.refl k3);by_cases hq:q<i
 ·rw [r1 p (.inl (by omega))] at ex;rw [r1 q (.inl hq)] at ey;exact h p q q1 q2 (by omega) x y ex ey
 ·obtain rfl:q=i:=by omega
  rw [r1 p (.inl q2)] at ex;rw [r2 q (by omega) q3,show q - q+m=m from by omega] at ey;exact hlo p q1 q2 x y ex ey
end
theorem SoOn.cons {x:α} {t:List α} {n:Nat} (h:SoOn key (x::t) 0 (n+1)):SoOn key t 0 n:=fun i j _ h2 h3 u v hu hv=>h (i+1) (j+1) (by omega) (by omega) (by omega) u v (by simpa using hu) (by simpa using hv)
theorem stab_one:∀ (l l':List α),Stab key l l'->SoOn key l 0 l.length->SoOn key l' 0 l'.length->l=l'
 | [],[],_,_,_=>rfl
 | [],y::t,h,_,_=>by
  have:=h (key y);simp at this
 | x::t,[],h,_,_=>by
  have:=h (key x);simp at this
 | x::t,y::u,h,h1,h2=>by
  have hin:∀ (p:α) (l l':List α),Stab key l l'->p∈l->p∈l':=fun p l l' hs hp=>by
   have:p∈l.filter (fun z=>key z==key p):=List.mem_filter.2 ⟨hp,by simp⟩;rw [hs] at this;exact (List.mem_filter.1 this).1
  have hmin:∀ (p q:α) (t:List α),SoOn key (p::t) 0 (p::t).length->q∈p::t->¬ key q<key p:=fun p q t ho hq=>by
   rcases List.mem_cons.1 hq with rfl | hq
   ·exact kl_irr _
   ·obtain ⟨i,hi⟩:=List.getElem?_of_mem hq;have hl:=(List.getElem?_eq_some_iff.1 hi).1;exact ho 0 (i+1) (by omega) (by omega) (by rw [List.length_cons];omega) p q rfl (by simpa using hi)
  have hk:key x=key y:=kl_tri (fun q=>hmin y x u h2 (hin x _ _ h (List.mem_cons_self ..)) q) (fun q=>hmin x y t h1 (hin y _ _ h.symm (List.mem_cons_self ..)) q);have hx:=h (key x);rw [List.filter_cons,List.filter_cons,if_pos (by simp),if_pos (by simp [hk])] at hx;injection hx with e1 e2
  subst e1;rw [stab_one t u (fun k=>?_) (SoOn.cons h1) (SoOn.cons h2)];have:=h k;rw [List.filter_cons,List.filter_cons] at this;split at this
  ·injection this
  ·exact this
end
structure RowE (w:World) (g:Nat) (l:List Ent):Prop where
 lt:g<w.heap.size
 at':w.rangeAt g 0 (entsV l)
 th:w.there g 0 (l.length*4)
theorem RowE.touch {w w':World} {g:Nat} {l:List Ent} (h:RowE w g l) (e:w'.heap[g]?=w.heap[g]?) (hs:w.heap.size<=w'.heap.size):RowE w' g l:=by
 have hc:∀ k,w'.cell? ⟨g,k,none⟩=w.cell? ⟨g,k,none⟩:=fun k=>by unfold World.cell?;rw [e]
 have hf:∀ k,w'.frozen? ⟨g,k,none⟩=w.frozen? ⟨g,k,none⟩:=fun k=>by unfold World.frozen?;rw [e]
 exact ⟨Nat.lt_of_lt_of_le h.lt hs,fun j v hj=>(hc _).trans (h.at' j v hj),fun j hj=>by rw [hc,hf];exact h.th j hj⟩
theorem RowE.ext {w w':World} {g:Nat} {l:List Ent} (h:RowE w g l) (x:Ext w w'):RowE w' g l:=h.touch (x.block h.lt) x.size
theorem RowE.ent {w:World} {g:Nat} {l:List Ent} (h:RowE w g l) {k:Nat} {x:Ent} (hk:l[k]?=some x):w.rangeAt g (k*4) (entV x):=by
 intro j u hj;have hj4:j<4:=(List.getElem?_eq_some_iff.1 hj).1;have:=h.at' _ u ((ents_get hk hj4).trans hj)
 rwa [Nat.zero_add] at this
theorem RowE.room {w:World} {g:Nat} {l:List Ent} (h:RowE w g l) {k:Nat} (hk:k<l.length):w.there g (k*4) 4:=fun j hj=>by
 have:=h.th (k*4+j) (by omega)
 rwa [Nat.zero_add] at this
theorem ents_div {l:List Ent} {j:Nat} {v:Value} (h:(entsV l)[j]?=some v):∃ x,l[j / 4]?=some x/\(entV x)[j % 4]?=some v:=by
 have hl:=(List.getElem?_eq_some_iff.1 h).1;rw [entsV_len] at hl;obtain ⟨x,hx⟩:∃ x,l[j / 4]?=some x:=⟨_,List.getElem?_eq_getElem (by omega)⟩;refine ⟨x,hx,?_⟩;have:=ents_get hx (Nat.mod_lt j (by omega:0<4));rw [show j / 4*4+j % 4=j from by omega] at this;exact this.symm.trans h
theorem touch_cells (g:Nat):∀ (vs:List Value) (o:Nat) (w:World),(w.setCells g o vs).heap.size=w.heap.size/\Touch g w (w.setCells g o vs)
 | [],_,w=>⟨rfl,Touch.of (Ext.refl w)⟩
 | v::r,o,w=>by
  obtain ⟨h1,h2⟩:=touch_cells g r (o+1) (w.setCell ⟨g,o,none⟩ v);have h0:(w.setCell ⟨g,o,none⟩ v).heap.size=w.heap.size:=by unfold World.setCell;simp
  have hT:Touch g w (w.setCell ⟨g,o,none⟩ v):=⟨rfl,rfl,rfl,by rw [h0];exact Nat.le_refl _,fun i _ hne=>setCellO fun e=>hne (by rw [e])⟩;exact ⟨h1.trans h0,hT.trans h2⟩
theorem RowE.store {w:World} {g:Nat} {l:List Ent} (h:RowE w g l) {k:Nat} (hk:k<l.length) (x:Ent):RowE (w.setCells g (k*4) (entV x)) g (l.set k x)/\Touch g w (w.setCells g (k*4) (entV x)):=by
 obtain ⟨hs,hT⟩:=touch_cells g (entV x) (k*4) w;refine ⟨⟨?_,fun j v hj=>?_,?_⟩,hT⟩
 ·rw [hs];exact h.lt
 ·obtain ⟨y,hy,hv⟩:=ents_div hj;by_cases e:j / 4=k
  ·rw [e,List.getElem?_set_self hk] at hy
   cases hy
   have:=World.rangeAt_setCells_same w g (k*4) (entV x) (h.room hk) _ _ hv;rw [show k*4+j % 4=0+j from by omega] at this;exact this
  ·rw [List.getElem?_set_ne (fun q=>e q.symm)] at hy;rw [World.cell?_setCells_out g (entV x) (k*4) w _ (fun _ _=>by show 0+j<_\/k*4+4<=0+j;omega)];have:=h.ent hy _ _ hv;rw [show j / 4*4+j % 4=0+j from by omega] at this;exact this
 ·rw [List.length_set];exact World.there_setCells h.th g (k*4) (entV x)
theorem swap_set {l:List Ent} {i j:Nat} {x y:Ent} (hi:l[i]?=some x) (hj:l[j]?=some y):(l.set i y).set j x=plF l (swF i j 1):=by
 have h1:=(List.getElem?_eq_some_iff.1 hi).1;have h2:=(List.getElem?_eq_some_iff.1 hj).1;have hf:∀ p,p<l.length->swF i j 1 p<l.length:=fun p hp=>swF_lt (by omega) (by omega) hp;refine List.ext_getElem? fun p=>?_;by_cases hp:p<l.length
 ·rw [plF_get hf hp,List.getElem?_set,List.getElem?_set,List.length_set];unfold swF;by_cases e1:j=p
  ·subst e1;rw [if_pos rfl,if_pos h2];split
   ·rw [show j - i+j=j from by omega,hj];obtain rfl:i=j:=by omega
    exact hi.symm.trans hj
   ·rw [if_pos (by omega),show j - j+i=i from by omega,hi]
  ·rw [if_neg e1];by_cases e2:i=p
   ·subst e2;rw [if_pos rfl,if_pos h1,if_pos (by omega),show i - i+j=j from by omega,hj]
   ·rw [if_neg e2,if_neg (by omega),if_neg (by omega)]
 ·rw [List.getElem?_eq_none (by rw [List.length_set,List.length_set];omega),List.getElem?_eq_none (by rw [plF_len hf];omega)]
end
section
open Go.RowKit
attribute [local go_sem] Oper.semAt_some
section
variable {P:Program} {ops:Array Oper} {Q:Exit->Act->World->Prop} {md:Region.Mode} {S:World->Prop} {a:Act}
theorem wpAnyH_or2 {i j:Nat} {oi oj:Oper} {ri rj:List Oper} {vi vj:Value} {fuel:Nat} {listed:Array Bool} {w:World} (hr:Region.ready md ops listed=[i,j]) (hi:ops.toList.drop i=oi::ri) (hj:ops.toList.drop j=oj::rj) (gi:oi.guard=none) (gj:oj.guard=none)
  (hri:(execOp a.eval oi).run P w=.ok (.value vi) w) (hrj:(execOp a.eval oj).run P w=.ok (.value vj) w) (hS:S w)
  (h1:wpAnyH P md ops Q S fuel (listed.setIfInBounds i true) (a.put oi.dst vi) w) (h2:wpAnyH P md ops Q S fuel (listed.setIfInBounds j true) (a.put oj.dst vj) w):wpAnyH P md ops Q S (fuel+1) listed a w :=
 wpAnyH_all hr (by simp) fun k hk=>by
  rcases List.mem_cons.1 hk with rfl | hk
  ·unfold wpOp;simp only [ops_get hi];rw [if_pos (by simp only [Region.wanted,gi])];left;unfold Oper.wp;rw [hri];exact ⟨hS,h1⟩
  ·obtain rfl:=List.mem_singleton.1 hk;unfold wpOp;simp only [ops_get hj];rw [if_pos (by simp only [Region.wanted,gj])];left;unfold Oper.wp;rw [hrj];exact ⟨hS,h2⟩
theorem run_loadOpM {o:Oper} {w:World} (ty:TypeId) (x:Operand) (ho:o.op=.load ty x) (b off:Nat) (hx:a.eval x=.pointer (some ⟨b,off,none⟩)) (cs:List Value) {d:TypeDesc}
  (hc:w.rangeAt b off cs) (hu:P.underlying ty=some d) (hd:d.isRow=true) (hi:(P.info? ty).map (·.size)=some cs.length):(execOp a.eval o).run P w=.ok (.value (.agg cs.toArray)) w:=by
 unfold execOp;simp only [ho,hx,Instr.loadAt,Instr.sureAddr,Sem.run_bind,Sem.run_pure,Result.andThen_ok,run_loadVar_mid w b off ty cs d hc hu hd hi]
theorem run_storeOpM {o:Oper} {w:World} (ty:TypeId) (x y:Operand) (ho:o.op=.store ty x y) (g off:Nat) (cs:List Value) (hx:a.eval x=.pointer (some ⟨g,off,none⟩)) (hy:a.eval y=.agg cs.toArray)
  (ht:w.there g off cs.toArray.size) (hi:(P.info? ty).map (·.size)=some cs.toArray.size) (h1:cs.toArray.all (·.oneCell')=true):(execOp a.eval o).run P w=.ok .skip (w.setCells g off cs):=by
 unfold execOp;simp only [ho,hx,hy,Instr.storeAt,Instr.sureAddr,Sem.run_bind,Sem.run_pure,Result.andThen_ok,run_storeVar_mid w g off ty cs.toArray ht hi h1]
end
set_option maxRecDepth 100000 in
set_option maxHeartbeats 8000000 in
theorem aswap_any {w:World} {g cap n a b m:Nat} {l:List Ent} (h:RowE w g l) (hn:n=l.length) (hl:l.length<=100000) (_hcap:n<=cap) (hab:a+m<=b) (hb:b+m<=l.length) (f:Value) :
  Calls prog 322 #[.slice (some ⟨g,0,none⟩) n cap,.int .i64 a,.int .i64 b,.int .i64 m,f] w fun e w'=>e=.returned (.tuple #[])/\Hid (RowE w' g (plF l (swF a b m))/\Touch g w w'):=by
 have HR:=lh h;have HN:=lh hn;rw [<-hn] at hl hb;clear h hn;go_enter func322,ntmps322;go_wp2;go_loopw [10] (fun iv wr=>Hid (∃ k:Nat,k<=m/\iv=.int .i64 k/\RowE wr g (plF l (swF a b k))/\Touch g w wr)) (fun iv _=>m - (intOf iv).toNat)
 case atStart=>exact ⟨0,Nat.zero_le _,rfl,by rw [sw_zero];exact HR.out,Touch.of (Ext.refl _)⟩
 case round =>
  obtain ⟨k,hk,rfl,hr,hx⟩:=hrel.out;clear hrel;have HT:=lh hx;have HR1:=lh hr;clear hx hr;by_cases hlt:k<m
  ·have hlen:(plF l (swF a b k)).length=n:=by rw [plF_len fun i hi=>swF_lt (by have:=HN.out;omega) (by have:=HN.out;omega) hi];exact HN.out.symm
   have HS:=lh (sw_step (l:=l) (x:=a) (y:=b) (k:=k) (by have:=HN.out;omega) (by have:=HN.out;omega) (by omega));generalize plF l (swF a b k)=l1 at *;obtain ⟨p,hp⟩:∃ p,p=a+k:=⟨_,rfl⟩;obtain ⟨q,hq⟩:∃ q,q=b+k:=⟨_,rfl⟩;obtain ⟨x,hx⟩:∃ x,l1[p]?=some x:=⟨_,List.getElem?_eq_getElem (by omega)⟩;obtain ⟨y,hy⟩:∃ y,l1[q]?=some y:=⟨_,List.getElem?_eq_getElem (by omega)⟩;have hpn:p<n:=by omega
   have hqn:q<n:=by omega
   have q1:IntKind.i64.wrap ((a:Int)+(k:Int))=(p:Int):=by rw [IntWalk.i64_in _ (by omega)];omega
   have q2:IntKind.i64.wrap ((b:Int)+(k:Int))=(q:Int):=by rw [IntWalk.i64_in _ (by omega)];omega
   have HX:=lh (show wr.drew.rangeAt g (p*4) (entV x) from (HR1.out.ext (Ext.refl wr).drew).ent hx);have HY:=lh (show wr.drew.rangeAt g (q*4) (entV y) from (HR1.out.ext (Ext.refl wr).drew).ent hy);have HD:=lh (HR1.out.ext (Ext.refl wr).drew);have HS1:=lh (show wr.drew.there g (p*4) (entV y).toArray.size from HD.out.room (by omega));obtain ⟨k1,k2⟩:=HD.out.store (show p<l1.length by omega) y;have HS2:=lh (show (wr.drew.setCells g (p*4) (entV y)).there g (q*4) (entV x).toArray.size from k1.room (by rw [List.length_set];omega));obtain ⟨k3,k4⟩:=k1.store (show q<(l1.set p y).length by rw [List.length_set];omega) x;rw [swap_set hx hy] at k3;have HW:=lh k3;have HT3:=lh (show Touch g w _ from HT.out.trans ((Touch.of (Ext.refl wr).drew).trans (k2.trans k4)));clear k1 k2 k3 k4 hx hy;rw [<-hp,<-hq] at HS;rw [HS.out] at HW;clear hp hq hlen HS HR1 HR HD;go_upto_region 3 with (fail)
   refine wp_region_held (S:=fun _=>True) (by kernel_rfl) ?_;refine wpAnyH_takeL (i:=0) (v:=.slice (some ⟨g,0,none⟩) n cap) rfl (by kernel_rfl) (by kernel_rfl) (by kernel_rfl) (fun _ _ _ h=>h) (yieldsIf_move rfl _ rfl rfl) trivial ?_;go_frame;refine wpAnyH_takeL (i:=1) (v:=.int .i64 (a:Nat)) rfl (by kernel_rfl) (by kernel_rfl) (by kernel_rfl) (fun _ _ _ h=>h) (yieldsIf_move rfl _ rfl rfl) trivial ?_;go_frame;refine wpAnyH_takeL (i:=2) (v:=.int .i64 (k:Nat)) rfl (by kernel_rfl) (by kernel_rfl) (by kernel_rfl) (fun _ _ _ h=>h) (yieldsIf_move rfl _ rfl rfl) trivial ?_;go_frame;refine wpAnyH_takeL (i:=3) (v:=.int .i64 (p:Nat)) rfl (by kernel_rfl) (by kernel_rfl) (by kernel_rfl) (fun _ _ _ h=>h) (Or.inl ⟨rfl,fun w' _=>by go_simp⟩) trivial ?_;go_frame;refine wpAnyH_takeL (i:=4) (v:=.slice (some ⟨g,0,none⟩) n cap) rfl (by kernel_rfl) (by kernel_rfl) (by kernel_rfl) (fun _ _ _ h=>h) (yieldsIf_move rfl _ rfl rfl) trivial ?_;go_frame;refine wpAnyH_takeL (i:=5) (v:=.int .i64 (b:Nat)) rfl (by kernel_rfl) (by kernel_rfl) (by kernel_rfl) (fun _ _ _ h=>h) (yieldsIf_move rfl _ rfl rfl) trivial ?_;go_frame;refine wpAnyH_takeL (i:=6) (v:=.int .i64 (k:Nat)) rfl (by kernel_rfl) (by kernel_rfl) (by kernel_rfl) (fun _ _ _ h=>h) (yieldsIf_move rfl _ rfl rfl) trivial ?_;go_frame;refine wpAnyH_takeL (i:=7) (v:=.int .i64 (q:Nat)) rfl (by kernel_rfl) (by kernel_rfl) (by kernel_rfl) (fun _ _ _ h=>h) (Or.inl ⟨rfl,fun w' _=>by go_simp⟩) trivial ?_;go_frame;refine wpAnyH_takeL (i:=8) (v:=.slice (some ⟨g,0,none⟩) n cap) rfl (by kernel_rfl) (by kernel_rfl) (by kernel_rfl) (fun _ _ _ h=>h) (yieldsIf_move rfl _ rfl rfl) trivial ?_;go_frame;refine wpAnyH_takeL (i:=9) (v:=.int .i64 (b:Nat)) rfl (by kernel_rfl) (by kernel_rfl) (by kernel_rfl) (fun _ _ _ h=>h) (yieldsIf_move rfl _ rfl rfl) trivial ?_;go_frame;refine wpAnyH_takeL (i:=10) (v:=.int .i64 (k:Nat)) rfl (by kernel_rfl) (by kernel_rfl) (by kernel_rfl) (fun _ _ _ h=>h) (yieldsIf_move rfl _ rfl rfl) trivial ?_;go_frame;refine wpAnyH_takeL (i:=11) (v:=.int .i64 (q:Nat)) rfl (by kernel_rfl) (by kernel_rfl) (by kernel_rfl) (fun _ _ _ h=>h) (Or.inl ⟨rfl,fun w' _=>by go_simp⟩) trivial ?_;go_frame;refine wpAnyH_takeL (i:=12) (v:=.pointer (some ⟨g,q*4,none⟩)) rfl (by kernel_rfl) (by kernel_rfl) (by kernel_rfl) (fun _ _ _ h=>h) (Or.inl ⟨rfl,fun w' _=>by go_simp⟩) trivial ?_;go_frame;refine wpAnyH_takeL (i:=14) (v:=.slice (some ⟨g,0,none⟩) n cap) rfl (by kernel_rfl) (by kernel_rfl) (by kernel_rfl) (fun _ _ _ h=>h) (yieldsIf_move rfl _ rfl rfl) trivial ?_;go_frame;refine wpAnyH_takeL (i:=15) (v:=.int .i64 (a:Nat)) rfl (by kernel_rfl) (by kernel_rfl) (by kernel_rfl) (fun _ _ _ h=>h) (yieldsIf_move rfl _ rfl rfl) trivial ?_;go_frame;refine wpAnyH_takeL (i:=16) (v:=.int .i64 (k:Nat)) rfl (by kernel_rfl) (by kernel_rfl) (by kernel_rfl) (fun _ _ _ h=>h) (yieldsIf_move rfl _ rfl rfl) trivial ?_;go_frame;refine wpAnyH_takeL (i:=17) (v:=.int .i64 (p:Nat)) rfl (by kernel_rfl) (by kernel_rfl) (by kernel_rfl) (fun _ _ _ h=>h) (Or.inl ⟨rfl,fun w' _=>by go_simp⟩) trivial ?_;go_frame;refine wpAnyH_takeL (i:=18) (v:=.pointer (some ⟨g,p*4,none⟩)) rfl (by kernel_rfl) (by kernel_rfl) (by kernel_rfl) (fun _ _ _ h=>h) (Or.inl ⟨rfl,fun w' _=>by go_simp⟩) trivial ?_;go_frame;refine wpAnyH_or2 (i:=13) (j:=19) (vi:=.agg (entV y).toArray) (vj:=.agg (entV x).toArray) (by kernel_rfl) rfl rfl rfl rfl (run_loadOpM 93 _ rfl g (q*4) rfl (entV y) HY.out underlying93 rfl (by kernel_rfl)) (run_loadOpM 93 _ rfl g (p*4) rfl (entV x) HX.out underlying93 rfl (by kernel_rfl)) trivial ?_ ?_
   ·go_frame;refine wpAnyH_one (i:=19) (v:=.agg (entV x).toArray) (by kernel_rfl) rfl rfl (run_loadOpM 93 _ rfl g (p*4) rfl (entV x) HX.out underlying93 rfl (by kernel_rfl)) trivial ?_;go_frame;refine wpAnyH_one (i:=20) (v:=.pointer (some ⟨g,p*4,none⟩)) (by kernel_rfl) rfl rfl (by go_simp <;> rfl) trivial ?_;go_frame;refine wpAnyH_skip (i:=21) (by kernel_rfl) rfl rfl (run_storeOpM 93 _ _ rfl g (p*4) (entV y) rfl rfl HS1.out (by kernel_rfl) (by kernel_rfl)) trivial ?_;go_frame;refine wpAnyH_one (i:=22) (v:=.pointer (some ⟨g,q*4,none⟩)) (by kernel_rfl) rfl rfl (by go_simp <;> rfl) trivial ?_;go_frame;refine wpAnyH_skip (i:=23) (by kernel_rfl) rfl rfl (run_storeOpM 93 _ _ rfl g (q*4) (entV x) rfl rfl HS2.out (by kernel_rfl) (by kernel_rfl)) trivial ?_;go_frame;refine wpAnyH_done (by kernel_rfl) ?_ _;go_wp2;go_roundw
    case rel=>exact ⟨k+1,by omega,by go_num,HW.out,HT3.out⟩
    case measure=>simp [intOf] <;> omega
   ·go_frame;refine wpAnyH_one (i:=13) (v:=.agg (entV y).toArray) (by kernel_rfl) rfl rfl (run_loadOpM 93 _ rfl g (q*4) rfl (entV y) HY.out underlying93 rfl (by kernel_rfl)) trivial ?_;go_frame;refine wpAnyH_one (i:=20) (v:=.pointer (some ⟨g,p*4,none⟩)) (by kernel_rfl) rfl rfl (by go_simp <;> rfl) trivial ?_;go_frame;refine wpAnyH_skip (i:=21) (by kernel_rfl) rfl rfl (run_storeOpM 93 _ _ rfl g (p*4) (entV y) rfl rfl HS1.out (by kernel_rfl) (by kernel_rfl)) trivial ?_;go_frame;refine wpAnyH_one (i:=22) (v:=.pointer (some ⟨g,q*4,none⟩)) (by kernel_rfl) rfl rfl (by go_simp <;> rfl) trivial ?_;go_frame;refine wpAnyH_skip (i:=23) (by kernel_rfl) rfl rfl (run_storeOpM 93 _ _ rfl g (q*4) (entV x) rfl rfl HS2.out (by kernel_rfl) (by kernel_rfl)) trivial ?_;go_frame;refine wpAnyH_done (by kernel_rfl) ?_ _;go_wp2;go_roundw
    case rel=>exact ⟨k+1,by omega,by go_num,HW.out,HT3.out⟩
    case measure=>simp [intOf] <;> omega
  ·obtain rfl:k=m:=by omega
   go_wp2;go_end0;exact ⟨rfl,HR1.out,HT.out⟩
set_option maxRecDepth 100000 in
set_option maxHeartbeats 8000000 in
theorem arot_any {w:World} {g cap n a m b:Nat} {l:List Ent} (h:RowE w g l) (hn:n=l.length) (hl:l.length<=100000) (hcap:n<=cap) (hab:a<m) (hmb:m<b) (hb:b<=l.length) (f:Value) :
  Calls prog 283 #[.slice (some ⟨g,0,none⟩) n cap,.int .i64 a,.int .i64 m,.int .i64 b,f] w fun e w'=>e=.returned (.tuple #[])/\Hid (RowE w' g (plF l (rotF a m b))/\Touch g w w'):=by
 have HR:=lh h;have HN:=lh hn;have HS:=lh (fun w1 (l1:List Ent) x y k (h1:RowE w1 g l1) (h2:n=l1.length) (h3:l1.length<=100000) (h4:x+k<=y) (h5:y+k<=l1.length)=>aswap_any h1 h2 h3 hcap h4 h5 f);rw [<-hn] at hl hb;clear h hn;have q1:IntKind.i64.wrap ((m:Int) - (a:Int))=((m - a:Nat):Int):=by rw [IntWalk.i64_in _ (by omega)];omega
 have q2:IntKind.i64.wrap ((b:Int) - (m:Int))=((b - m:Nat):Int):=by rw [IntWalk.i64_in _ (by omega)];omega
 go_enter func283,ntmps283;go_wp2;go_loopw [10,11] (fun iv jv wr=>Hid (∃ (i j:Nat) (l1:List Ent),1<=i/\1<=j/\a+i<=m/\m+j<=b/\iv=.int .i64 i/\jv=.int .i64 j/\l1.length=n/\plF l1 (rotF (m - i) m (m+j))=plF l (rotF a m b)/\RowE wr g l1/\Touch g w wr)) (fun iv jv _=>(intOf iv).toNat+(intOf jv).toNat)
 case atStart=>exact ⟨m - a,b - m,l,by omega,by omega,by omega,by omega,by go_num,by go_num,HN.out.symm,by rw [show m - (m - a)=a from by omega,show m+(b - m)=b from by omega],HR.out,Touch.of (Ext.refl _)⟩
 case round =>
  obtain ⟨i,j,l1,hi,hj,hi2,hj2,rfl,rfl,hl1,he,hr,hx⟩:=hrel.out;clear hrel HR HN;have HT:=lh hx;have HR1:=lh hr;have HE:=lh he;have HL:=lh hl1;clear hx hr he hl1;obtain ⟨p,hp⟩:∃ p,p=m - i:=⟨_,rfl⟩;have q3:IntKind.i64.wrap ((m:Int) - (i:Int))=(p:Int):=by rw [IntWalk.i64_in _ (by omega)];omega
  rw [<-hp] at HE;by_cases hij:i=j
  ·subst hij;have HC:=lh (HS.out _ _ p m i HR1.out HL.out.symm (by rw [HL.out];omega) (by omega) (by rw [HL.out];omega))
   have hev:plF l1 (swF p m i)=plF l (rotF a m b):=by
    have:=rot_even (l:=l1) (a:=p) (m:=m) (b:=m+i) (by omega) (by omega) (by omega);rw [show m - p=i from by omega] at this;rw [this];exact HE.out
   rw [hev] at HC;clear HE hev hp;go_wp2_with fail;refine HC.out.mono ?_;rintro e w1 ⟨rfl,h1⟩;have H1:=lh h1.out;clear h1 HC;go_wp2;go_end0;exact ⟨rfl,H1.out.1,HT.out.trans H1.out.2⟩
  ·have gij:((i:Int) != (j:Int))=true:=by rw [bne_iff_ne];omega
   by_cases hgt:j<i
   ·have HC:=lh (HS.out _ _ p m j HR1.out HL.out.symm (by rw [HL.out];omega) (by omega) (by rw [HL.out];omega));have q4:IntKind.i64.wrap ((i:Int) - (j:Int))=((i - j:Nat):Int):=by rw [IntWalk.i64_in _ (by omega)];omega
    have HE2:=lh (show plF (plF l1 (swF p m j)) (rotF (m - (i - j)) m (m+j))=plF l (rotF a m b) from by
     have:=rot_big (l:=l1) (a:=p) (m:=m) (b:=m+j) (by omega) (by omega) (by rw [HL.out];omega) (by omega);rw [show m+j - m=j from by omega,show p+j=m - (i - j) from by omega] at this;rw [this]
     exact HE.out)
    have HL2:=lh ((plF_len (l:=l1) fun t ht=>swF_lt (x:=p) (y:=m) (n:=j) (by rw [HL.out];omega) (by rw [HL.out];omega) ht).trans HL.out);clear HE HR1 HL hp;go_wp2_with fail;refine HC.out.mono ?_;rintro e w1 ⟨rfl,h1⟩;have H1:=lh h1.out;clear h1 HC;go_wp2;go_roundw
    case rel=>exact ⟨i - j,j,_,by omega,hj,by omega,hj2,by go_num,rfl,HL2.out,HE2.out,H1.out.1,HT.out.trans H1.out.2⟩
    case measure=>simp [intOf] <;> omega
   ·obtain ⟨q,hq⟩:∃ q,q=m+j - i:=⟨_,rfl⟩;have q5:IntKind.i64.wrap ((m:Int)+(j:Int))=((m+j:Nat):Int):=by rw [IntWalk.i64_in _ (by omega)];omega
    have q6:IntKind.i64.wrap (((m+j:Nat):Int) - (i:Int))=(q:Int):=by rw [IntWalk.i64_in _ (by omega)];omega
    have q7:IntKind.i64.wrap ((m:Int)+(j:Int) - (i:Int))=(q:Int):=by rw [IntWalk.i64_in _ (by omega)];omega
    have HC:=lh (HS.out _ _ p q i HR1.out HL.out.symm (by rw [HL.out];omega) (by omega) (by rw [HL.out];omega));have q4:IntKind.i64.wrap ((j:Int) - (i:Int))=((j - i:Nat):Int):=by rw [IntWalk.i64_in _ (by omega)];omega
    have HE2:=lh (show plF (plF l1 (swF p q i)) (rotF (m - i) m (m+(j - i)))=plF l (rotF a m b) from by
     have:=rot_small (l:=l1) (a:=p) (m:=m) (b:=m+j) (by omega) (by omega) (by rw [HL.out];omega) (by omega);rw [show m - p=i from by omega,<-hq,show q=m+(j - i) from by omega] at this;rw [<-hp,show q=m+(j - i) from by omega,this]
     exact HE.out)
    have HL2:=lh ((plF_len (l:=l1) fun t ht=>swF_lt (x:=p) (y:=q) (n:=i) (by rw [HL.out];omega) (by rw [HL.out];omega) ht).trans HL.out);clear HE HR1 HL hp hq;go_wp2_with fail;refine HC.out.mono ?_;rintro e w1 ⟨rfl,h1⟩;have H1:=lh h1.out;clear h1 HC;go_wp2;go_roundw
    case rel=>exact ⟨i,j - i,_,hi,by omega,hi2,by omega,rfl,by go_num,HL2.out,HE2.out,H1.out.1,HT.out.trans H1.out.2⟩
    case measure=>simp [intOf] <;> omega
end
section
open Go.RowKit
attribute [local go_sem] Oper.semAt_some
section
variable {α:Type} {key:α->List UInt8}
theorem Mg.trans {l l1 l2:List α} {a i b:Nat} (h:Mg key l l1 a i) (k:Mg key l1 l2 a b) (hi:i<=b):Mg key l l2 a b :=
 ⟨k.len.trans h.len,fun j hj=>(k.out j hj).trans (h.out j (by omega)),fun p h1 h2=>by
  obtain ⟨j,j1,j2,e⟩:=k.mem p h1 h2;by_cases hj:j<i
  ·obtain ⟨q,q1,q2,e2⟩:=h.mem j j1 hj;exact ⟨q,q1,by omega,e.trans e2⟩
  ·exact ⟨j,j1,j2,e.trans (h.out j (.inr (by omega)))⟩,h.st.trans k.st,k.so⟩
end
def keyE (e:Ent):List UInt8:=e.name.toList
theorem acmp_lt (a b:ByteArray) (w:World) (h1:a.toList<b.toList):Calls prog 97 #[.string a,.string b] w fun e w'=>e=.returned (.int .i64 (-1))/\w=w':=by
 have h2:Go.Op.bytesLess a.toList b.toList=true:=by rw [bytesLess_eq];exact decide_eq_true h1
 clear h1;go_enter func97,ntmps97;go_wp2_with (refine (anan_any _ _).mono ?_;rintro e w1 ⟨rfl,rfl⟩);go_ret;exact ⟨rfl,rfl⟩
theorem acmp_eq (a b:ByteArray) (w:World) (h1:¬ a.toList<b.toList) (h3:a.toList=b.toList):Calls prog 97 #[.string a,.string b] w fun e w'=>e=.returned (.int .i64 0)/\w=w':=by
 have h2:Go.Op.bytesLess a.toList b.toList=false:=by rw [bytesLess_eq];exact decide_eq_false h1
 have h4:(a.toList==b.toList)=true:=beq_iff_eq.2 h3;clear h1 h3;go_enter func97,ntmps97;go_wp2_with (refine (anan_any _ _).mono ?_;rintro e w1 ⟨rfl,rfl⟩);go_ret;exact ⟨rfl,rfl⟩
theorem acmp_more (a b:ByteArray) (w:World) (h1:¬ a.toList<b.toList) (h3:a.toList≠b.toList):Calls prog 97 #[.string a,.string b] w fun e w'=>e=.returned (.int .i64 1)/\w=w':=by
 have h2:Go.Op.bytesLess a.toList b.toList=false:=by rw [bytesLess_eq];exact decide_eq_false h1
 have h4:(a.toList==b.toList)=false:=beq_eq_false_iff_ne.2 h3;clear h1 h3;go_enter func97,ntmps97;go_wp2_with (refine (anan_any _ _).mono ?_;rintro e w1 ⟨rfl,rfl⟩);go_ret;exact ⟨rfl,rfl⟩
def cmpI (a b:List UInt8):Int:=if a<b then -1 else if a=b then 0 else 1
theorem cmpI_lt {a b:List UInt8} (h:a<b):cmpI a b=-1:=if_pos h
theorem cmpI_ge {a b:List UInt8} (h:¬ a<b):0<=cmpI a b:=by
 unfold cmpI;rw [if_neg h];split <;> decide
theorem acmp_any (a b:ByteArray) (w:World):Calls prog 97 #[.string a,.string b] w fun e w'=>e=.returned (.int .i64 (cmpI a.toList b.toList))/\w=w':=by
 by_cases h:a.toList<b.toList
 ·rw [cmpI_lt h];exact acmp_lt a b w h
 ·unfold cmpI;rw [if_neg h];by_cases h3:a.toList=b.toList
  ·rw [if_pos h3];exact acmp_eq a b w h h3
  ·rw [if_neg h3];exact acmp_more a b w h h3
theorem acmpE_any (x y:Ent) (w:World):Calls prog 96 #[entA x,entA y] w fun e w'=>e=.returned (.int .i64 (cmpI (keyE x) (keyE y)))/\Ext w w':=by
 have H:=lh (fun w1=>acmp_any x.name y.name w1);unfold keyE;generalize cmpI x.name.toList y.name.toList=c at *;unfold entA;go_enter func96,ntmps96;go_wp2_with fail;refine (H.out _).mono ?_;rintro e w1 ⟨rfl,rfl⟩;go_wp2;go_ret;exact ⟨rfl,((Ext.refl w).alloc _).alloc _⟩
set_option maxRecDepth 100000 in
set_option maxHeartbeats 8000000 in
theorem ains_any {w:World} {g cap n a b:Nat} {l:List Ent} (h:RowE w g l) (hn:n=l.length) (hl:l.length<=100000) (_hcap:n<=cap) (hab:a<=b) (hb:b<=l.length) :
  Calls prog 227 #[.slice (some ⟨g,0,none⟩) n cap,.int .i64 a,.int .i64 b,.func (.func 96) #[] #[]] w fun e w'=>e=.returned (.tuple #[])/\Hid (∃ l',Mg keyE l l' a b/\RowE w' g l'/\Touch g w w'):=by
 have HR:=lh h;have HN:=lh hn;rw [<-hn] at hl hb;clear h hn;go_enter func227,ntmps227;go_wp2;go_loopw [8] (fun iv wr=>Hid (∃ (i:Nat) (l1:List Ent),a+1<=i/\(i<=b\/(b<=a/\i=a+1/\l1=l))/\iv=.int .i64 i/\Mg keyE l l1 a i/\RowE wr g l1/\Touch g w wr)) (fun iv _=>b+1 - (intOf iv).toNat)
 case atStart=>exact ⟨a+1,l,Nat.le_refl _,by by_cases q:a<b;exact .inl (by omega);exact .inr ⟨by omega,rfl,rfl⟩,by go_num,Mg.refl (SoOn.small (by omega)),HR.out,Touch.of (Ext.refl _)⟩
 case round =>
  obtain ⟨i,l1,hi1,hi2,rfl,hm,hr,hx⟩:=hrel.out;clear hrel HR;have HT:=lh hx;have HR1:=lh hr;have HM:=lh hm;have HL:=lh (hm.len.trans HN.out.symm);clear hx hr hm;by_cases hlt:i<b
  ·have HI2:=lh hi2;clear hi2;obtain ⟨x,hxi⟩:∃ x,l1[i]?=some x:=⟨_,List.getElem?_eq_getElem (by have:=HL.out;omega)⟩;have HXI:=lh hxi;clear hxi;obtain ⟨wo,hwo⟩:∃ wo,wo=wr:=⟨_,rfl⟩;have HT0:=lh (show Touch g w wo from hwo▸HT.out);have HR0:=lh (show RowE wo g l1 from hwo▸HR1.out);rw [<-hwo];clear HT HR1 hwo;go_wp2_with fail;go_loopw [9] (fun jv wr=>Hid (∃ j:Nat,a<=j/\j<=i/\jv=.int .i64 j/\(∀ t,j<=t->t<i->∀ z,l1[t]?=some z->keyE x<keyE z)/\RowE wr g (plF l1 (rotF j i (i+1)))/\Touch g wo wr)) (fun jv _=>(intOf jv).toNat)
   case atStart=>exact ⟨i,by omega,Nat.le_refl _,rfl,fun t h1 h2=>by omega,by rw [rot_none (.inl rfl) (Nat.le_refl _) (by omega)];exact HR0.out,Touch.of (Ext.refl _)⟩
   case round =>
    obtain ⟨j,hj1,hj2,rfl,hall,hr,hx⟩:=hrel.out;clear hrel;have HA:=lh hall;have HR1:=lh hr;have HT:=lh hx;clear hall hr hx;have HF:=lh (plF_len (l:=l1) fun t ht=>rotF_lt (a:=j) (m:=i) (b:=i+1) hj2 (by omega) (by have:=HL.out;omega) ht);have HAT:=lh (rot_at (l:=l1) (s:=j) (m:=i) (e:=i+1) hj2 (by omega) (by have:=HL.out;omega))
    have hxj:(plF l1 (rotF j i (i+1)))[j]?=some x:=by
     have:=HAT.out.2.1 j (Nat.le_refl _) (by omega);rw [show j - j+i=i from by omega] at this;exact this.trans HXI.out
    by_cases haj:a<j
    ·have ga:decide (a<j)=true:=decide_eq_true haj;obtain ⟨q,hq⟩:∃ q,q=j - 1:=⟨_,rfl⟩;obtain ⟨y,hy0⟩:∃ y,l1[q]?=some y:=⟨_,List.getElem?_eq_getElem (by have:=HL.out;omega)⟩;have hyq:(plF l1 (rotF j i (i+1)))[q]?=some y:=(HAT.out.1 q (.inl (by omega))).trans hy0;have HY0:=lh hy0;have HDn:=lh (rot_down (l:=l1) (k:=j) (m:=i) (by omega) hj2 (by have:=HL.out;omega));rw [<-hq] at HDn;have hlen:(plF l1 (rotF j i (i+1))).length=n:=HF.out.trans HL.out;have hw1:IntKind.i64.wrap ((j:Int) - 1)=(q:Int):=by rw [IntWalk.i64_in _ (by omega)];omega
     have r1:=lh (fun (z:After wr)=>(HR1.out.ext z.x).ent hxj:∀ z:After wr,z.v.rangeAt g (j*4) (entV x));have r2:=lh (fun (z:After wr)=>(HR1.out.ext z.x).ent hyq:∀ z:After wr,z.v.rangeAt g (q*4) (entV y));have HC:=lh (fun w1=>acmpE_any x y w1);unfold entA at HC;by_cases hk:keyE x<keyE y
     ·rw [cmpI_lt hk] at HC;have HK:=lh hk;clear hk hy0;have hln2:(plF l1 (rotF j i (i+1))).length=n:=hlen;generalize hl2:plF l1 (rotF j i (i+1))=l2 at *;obtain ⟨p,hp⟩:∃ p,p=j:=⟨_,rfl⟩;have hqp:q<p:=by omega
      have hpn:p<n:=by have:=HL.out;omega
      have hqn:q<n:=by omega
      have HQ:=lh (show q+1=p by omega);have haq:a<=q:=by omega
      clear hq hlen HF HAT hl2;subst hp;go_upto_region 4 with (fail)
      refine wp_region_after (by kernel_rfl) (by kernel_rfl) ?_
      iterate 8 go_big_quiet_step (fail)
      refine wpQuiet_load_ag ?_ 93 (.tmp 25) rfl g (p*4) rfl (entV x).toArray _ (by rintro _ ⟨z,rfl⟩;exact r1.out z) underlying93 rfl (by kernel_rfl) ?_
      ·simp [Region.wanted,yielded]
      go_frame
      iterate 4 go_big_quiet_step (fail)
      refine wpQuiet_load_ag ?_ 93 (.tmp 30) rfl g (q*4) rfl (entV y).toArray _ (by rintro _ ⟨z,rfl⟩;exact r2.out z) underlying93 rfl (by kernel_rfl) ?_
      ·simp [Region.wanted,yielded]
      go_frame
      iterate 3 go_big_quiet_step (exact After.of (HC.out _))
      refine wpQuiet_nil ?_;rintro _ ⟨z,rfl⟩;obtain ⟨wz,hwz⟩:∃ wz,wz=z.v:=⟨_,rfl⟩;have HR2:=lh (show RowE wz g l2 from hwz▸HR1.out.ext z.x);have HT2:=lh (show Touch g wo wz from hwz▸HT.out.trans (Touch.of z.x));rw [<-hwz];clear hwz HR1 HT r1 r2 HC;have hx:l2[p]?=some x:=hxj;have hy:l2[q]?=some y:=hyq;have HX:=lh (show wz.drew.rangeAt g (p*4) (entV x) from (HR2.out.ext (Ext.refl wz).drew).ent hx);have HY:=lh (show wz.drew.rangeAt g (q*4) (entV y) from (HR2.out.ext (Ext.refl wz).drew).ent hy);have HD:=lh (HR2.out.ext (Ext.refl wz).drew);have HS1:=lh (show wz.drew.there g (p*4) (entV y).toArray.size from HD.out.room (by omega));obtain ⟨k1,k2⟩:=HD.out.store (show p<l2.length by omega) y;have HS2:=lh (show (wz.drew.setCells g (p*4) (entV y)).there g (q*4) (entV x).toArray.size from k1.room (by rw [List.length_set];omega));obtain ⟨k3,k4⟩:=k1.store (show q<(l2.set p y).length by rw [List.length_set];omega) x;rw [swap_set hx hy] at k3;have HW:=lh k3;have HT3:=lh (show Touch g wo _ from HT2.out.trans ((Touch.of (Ext.refl wz).drew).trans (k2.trans k4)));clear k1 k2 k3 k4 hx hy;rw [HDn.out] at HW;go_upto_region 6 with (fail)
      refine wp_region_held (S:=fun _=>True) (by kernel_rfl) ?_;refine wpAnyH_takeL (i:=0) (v:=.slice (some ⟨g,0,none⟩) n cap) rfl (by kernel_rfl) (by kernel_rfl) (by kernel_rfl) (fun _ _ _ h=>h) (yieldsIf_move rfl _ rfl rfl) trivial ?_;go_frame;refine wpAnyH_takeL (i:=1) (v:=.int .i64 (p:Nat)) rfl (by kernel_rfl) (by kernel_rfl) (by kernel_rfl) (fun _ _ _ h=>h) (yieldsIf_move rfl _ rfl rfl) trivial ?_;go_frame;refine wpAnyH_takeL (i:=2) (v:=.slice (some ⟨g,0,none⟩) n cap) rfl (by kernel_rfl) (by kernel_rfl) (by kernel_rfl) (fun _ _ _ h=>h) (yieldsIf_move rfl _ rfl rfl) trivial ?_;go_frame;refine wpAnyH_takeL (i:=3) (v:=.int .i64 (p:Nat)) rfl (by kernel_rfl) (by kernel_rfl) (by kernel_rfl) (fun _ _ _ h=>h) (yieldsIf_move rfl _ rfl rfl) trivial ?_;go_frame;refine wpAnyH_takeL (i:=4) (v:=.int .i64 (q:Nat)) rfl (by kernel_rfl) (by kernel_rfl) (by kernel_rfl) (fun _ _ _ h=>h) (Or.inl ⟨rfl,fun w' _=>by go_simp⟩) trivial ?_;go_frame;refine wpAnyH_takeL (i:=5) (v:=.slice (some ⟨g,0,none⟩) n cap) rfl (by kernel_rfl) (by kernel_rfl) (by kernel_rfl) (fun _ _ _ h=>h) (yieldsIf_move rfl _ rfl rfl) trivial ?_;go_frame;refine wpAnyH_takeL (i:=6) (v:=.int .i64 (p:Nat)) rfl (by kernel_rfl) (by kernel_rfl) (by kernel_rfl) (fun _ _ _ h=>h) (yieldsIf_move rfl _ rfl rfl) trivial ?_;go_frame;refine wpAnyH_takeL (i:=7) (v:=.int .i64 (q:Nat)) rfl (by kernel_rfl) (by kernel_rfl) (by kernel_rfl) (fun _ _ _ h=>h) (Or.inl ⟨rfl,fun w' _=>by go_simp⟩) trivial ?_;go_frame;refine wpAnyH_takeL (i:=8) (v:=.pointer (some ⟨g,q*4,none⟩)) rfl (by kernel_rfl) (by kernel_rfl) (by kernel_rfl) (fun _ _ _ h=>h) (Or.inl ⟨rfl,fun w' _=>by go_simp⟩) trivial ?_;go_frame;refine wpAnyH_takeL (i:=10) (v:=.slice (some ⟨g,0,none⟩) n cap) rfl (by kernel_rfl) (by kernel_rfl) (by kernel_rfl) (fun _ _ _ h=>h) (yieldsIf_move rfl _ rfl rfl) trivial ?_;go_frame;refine wpAnyH_takeL (i:=11) (v:=.int .i64 (p:Nat)) rfl (by kernel_rfl) (by kernel_rfl) (by kernel_rfl) (fun _ _ _ h=>h) (yieldsIf_move rfl _ rfl rfl) trivial ?_;go_frame;refine wpAnyH_takeL (i:=12) (v:=.pointer (some ⟨g,p*4,none⟩)) rfl (by kernel_rfl) (by kernel_rfl) (by kernel_rfl) (fun _ _ _ h=>h) (Or.inl ⟨rfl,fun w' _=>by go_simp⟩) trivial ?_;go_frame;refine wpAnyH_or2 (i:=9) (j:=13) (vi:=.agg (entV y).toArray) (vj:=.agg (entV x).toArray) (by kernel_rfl) rfl rfl rfl rfl (run_loadOpM 93 _ rfl g (q*4) rfl (entV y) HY.out underlying93 rfl (by kernel_rfl)) (run_loadOpM 93 _ rfl g (p*4) rfl (entV x) HX.out underlying93 rfl (by kernel_rfl)) trivial ?_ ?_
      ·go_frame;refine wpAnyH_one (i:=13) (v:=.agg (entV x).toArray) (by kernel_rfl) rfl rfl (run_loadOpM 93 _ rfl g (p*4) rfl (entV x) HX.out underlying93 rfl (by kernel_rfl)) trivial ?_;go_frame;refine wpAnyH_one (i:=14) (v:=.pointer (some ⟨g,p*4,none⟩)) (by kernel_rfl) rfl rfl (by go_simp <;> rfl) trivial ?_;go_frame;refine wpAnyH_skip (i:=15) (by kernel_rfl) rfl rfl (run_storeOpM 93 _ _ rfl g (p*4) (entV y) rfl rfl HS1.out (by kernel_rfl) (by kernel_rfl)) trivial ?_;go_frame;refine wpAnyH_one (i:=16) (v:=.pointer (some ⟨g,q*4,none⟩)) (by kernel_rfl) rfl rfl (by go_simp <;> rfl) trivial ?_;go_frame;refine wpAnyH_skip (i:=17) (by kernel_rfl) rfl rfl (run_storeOpM 93 _ _ rfl g (q*4) (entV x) rfl rfl HS2.out (by kernel_rfl) (by kernel_rfl)) trivial ?_;go_frame;refine wpAnyH_done (by kernel_rfl) ?_ _;go_wp2;go_roundw
       case rel=>exact ⟨q,by omega,by omega,by go_num,fun t t1 t2 z hz=>by
        by_cases e:t=q
        ·subst e;rw [HY0.out] at hz
         cases hz
         exact HK.out
        ·exact HA.out t (by have:=HQ.out;omega) t2 z hz,HW.out,HT3.out⟩
       case measure=>simp [intOf] <;> omega
      ·go_frame;refine wpAnyH_one (i:=9) (v:=.agg (entV y).toArray) (by kernel_rfl) rfl rfl (run_loadOpM 93 _ rfl g (q*4) rfl (entV y) HY.out underlying93 rfl (by kernel_rfl)) trivial ?_;go_frame;refine wpAnyH_one (i:=14) (v:=.pointer (some ⟨g,p*4,none⟩)) (by kernel_rfl) rfl rfl (by go_simp <;> rfl) trivial ?_;go_frame;refine wpAnyH_skip (i:=15) (by kernel_rfl) rfl rfl (run_storeOpM 93 _ _ rfl g (p*4) (entV y) rfl rfl HS1.out (by kernel_rfl) (by kernel_rfl)) trivial ?_;go_frame;refine wpAnyH_one (i:=16) (v:=.pointer (some ⟨g,q*4,none⟩)) (by kernel_rfl) rfl rfl (by go_simp <;> rfl) trivial ?_;go_frame;refine wpAnyH_skip (i:=17) (by kernel_rfl) rfl rfl (run_storeOpM 93 _ _ rfl g (q*4) (entV x) rfl rfl HS2.out (by kernel_rfl) (by kernel_rfl)) trivial ?_;go_frame;refine wpAnyH_done (by kernel_rfl) ?_ _;go_wp2;go_roundw
       case rel=>exact ⟨q,by omega,by omega,by go_num,fun t t1 t2 z hz=>by
        by_cases e:t=q
        ·subst e;rw [HY0.out] at hz
         cases hz
         exact HK.out
        ·exact HA.out t (by have:=HQ.out;omega) t2 z hz,HW.out,HT3.out⟩
       case measure=>simp [intOf] <;> omega
     ·have hc:=cmpI_ge hk;generalize cmpI (keyE x) (keyE y)=c at *;have gc:decide (c<0)=false:=decide_eq_false (by omega)
      have HMl:=lh (Mg.trans HM.out (Mg.last (key:=keyE) (l:=l1) (a:=a) (i:=j) (m:=i) hj1 hj2 (by have:=HL.out;omega) HM.out.so (fun t t1 t2 u v hu hv=>by
       rw [HXI.out] at hv
       cases hv
       by_cases e:t=q
       ·subst e;rw [HY0.out] at hu
        cases hu
        exact hk
       ·exact kl_le (HM.out.so t q t1 (by omega) (by omega) u y hu HY0.out) hk) (fun t t1 t2 u v hu hv=>by
       rw [HXI.out] at hv
       cases hv
       exact HA.out t t1 t2 u hu)) (by omega))
      have hqn:q<n:=by have:=HL.out;omega
      clear hk hy0 hxj hyq hq;generalize plF l1 (rotF j i (i+1))=l2 at *;go_upto_region 4 with (fail)
      refine wp_region_after (by kernel_rfl) (by kernel_rfl) ?_
      iterate 8 go_big_quiet_step (fail)
      refine wpQuiet_load_ag ?_ 93 (.tmp 25) rfl g (j*4) rfl (entV x).toArray _ (by rintro _ ⟨z,rfl⟩;exact r1.out z) underlying93 rfl (by kernel_rfl) ?_
      ·simp [Region.wanted,yielded]
      go_frame
      iterate 4 go_big_quiet_step (fail)
      refine wpQuiet_load_ag ?_ 93 (.tmp 30) rfl g (q*4) rfl (entV y).toArray _ (by rintro _ ⟨z,rfl⟩;exact r2.out z) underlying93 rfl (by kernel_rfl) ?_
      ·simp [Region.wanted,yielded]
      go_frame
      iterate 3 go_big_quiet_step (exact After.of (HC.out _))
      refine wpQuiet_nil ?_;rintro _ ⟨z,rfl⟩;have HR3:=lh (HR1.out.ext z.x);have HT3:=lh (HT0.out.trans (HT.out.trans (Touch.of z.x)));clear r1 r2 HC HR1 HT;go_wp2;go_roundw
      case rel=>exact ⟨i+1,l2,by omega,.inl (by omega),by go_num,HMl.out,HR3.out,HT3.out⟩
      case measure=>simp [intOf] <;> omega
    ·obtain rfl:a=j:=by omega
     have HMl:=lh (Mg.trans HM.out (Mg.last (key:=keyE) (l:=l1) (a:=a) (i:=a) (m:=i) (Nat.le_refl _) hj2 (by have:=HL.out;omega) HM.out.so (fun t t1 t2=>by omega) (fun t t1 t2 u v hu hv=>by
      rw [HXI.out] at hv
      cases hv
      exact HA.out t t1 t2 u hu)) (by omega))
     clear hxj;generalize plF l1 (rotF a i (i+1))=l2 at *;have ga:decide (a<a)=false:=decide_eq_false (by omega);go_upto_region 4 with (fail)
     refine wp_region_after (by kernel_rfl) (by kernel_rfl) ?_
     iterate 17 go_big_quiet_step (fail)
     refine wpQuiet_nil ?_;rintro _ ⟨z,rfl⟩;have HR3:=lh (HR1.out.ext z.x);have HT3:=lh (HT0.out.trans (HT.out.trans (Touch.of z.x)));clear HR1 HT;go_wp2;go_roundw
     case rel=>exact ⟨i+1,l2,by omega,.inl (by omega),by go_num,HMl.out,HR3.out,HT3.out⟩
     case measure=>simp [intOf] <;> omega
  ·have HMl:=lh (show Mg keyE l l1 a b from by
    rcases hi2 with h1 | ⟨h1,h2,h3⟩
    ·rw [show b=i from by omega];exact HM.out
    ·rw [h3];exact Mg.refl (SoOn.small (by omega)))
   clear hi2;go_wp2;go_end0;exact ⟨rfl,l1,HMl.out,HR1.out,HT.out⟩
end
section
open Go.RowKit
attribute [local go_sem] Oper.semAt_some
set_option maxRecDepth 100000 in
set_option maxHeartbeats 8000000 in
theorem asymF_any {w:World} {g cap n a b:Nat} {l:List Ent} (h:RowE w g l) (hn:n=l.length) (hl:l.length<=100000) (_hcap:n<=cap) (hab:a+1<b) (hb:b<=l.length) (hs:SoOn keyE l (a+1) b) :
  Calls prog 228 #[.slice (some ⟨g,0,none⟩) n cap,.int .i64 a,.int .i64 ((a+1:Nat):Int),.int .i64 b,.func (.func 96) #[] #[]] w fun e w'=>e=.returned (.tuple #[])/\Hid (∃ l',Mg keyE l l' a b/\RowE w' g l'/\Touch g w w'):=by
 have HR:=lh h;have HN:=lh hn;have HS:=lh hs;rw [<-hn] at hl hb;obtain ⟨x,hxa⟩:∃ x,l[a]?=some x:=⟨_,List.getElem?_eq_getElem (by omega)⟩;have HXA:=lh hxa;have q1:IntKind.i64.wrap (((a+1:Nat):Int) - (a:Int))=1:=by rw [IntWalk.i64_in _ (by omega)];omega
 clear h hn hs hxa;go_enter func228,ntmps228;go_wp2_with fail;go_loopw [10,11] (fun iv jv wr=>Hid (∃ i j:Nat,a+1<=i/\i<=j/\j<=b/\iv=.int .i64 i/\jv=.int .i64 j/\(∀ t,a+1<=t->t<i->∀ z,l[t]?=some z->keyE z<keyE x)/\(∀ t,j<=t->t<b->∀ z,l[t]?=some z->¬ keyE z<keyE x)/\Ext w wr)) (fun iv jv _=>(intOf jv).toNat - (intOf iv).toNat)
 case atStart=>exact ⟨a+1,b,Nat.le_refl _,by omega,Nat.le_refl _,by go_num,rfl,fun t h1 h2=>by omega,fun t h1 h2=>by omega,Ext.refl _⟩
 case round =>
  obtain ⟨i,j,hi,hij,hj,rfl,rfl,hlo,hhi,hx⟩:=hrel.out;clear hrel;have HLo:=lh hlo;have HHi:=lh hhi;have HX:=lh hx;clear hlo hhi hx;by_cases hlt:i<j
  ·obtain ⟨c,hc⟩:∃ c,c=(i+j) / 2:=⟨_,rfl⟩;have hc1:i<=c:=by omega
   have hc2:c<j:=by omega
   have q2:IntKind.i64.wrap ((i:Int)+(j:Int))=((i+j:Nat):Int):=by rw [IntWalk.i64_in _ (by omega)];omega
   have q3:((i:Int)+(j:Int)) / 2=(c:Int):=by rw [hc];omega
   obtain ⟨y,hyc⟩:∃ y,l[c]?=some y:=⟨_,List.getElem?_eq_getElem (by have:=HN.out;omega)⟩;have HYC:=lh hyc;have r1:=lh (fun (z:After wr)=>(HR.out.ext (HX.out.trans z.x)).ent HXA.out:∀ z:After wr,z.v.rangeAt g (a*4) (entV x));have r2:=lh (fun (z:After wr)=>(HR.out.ext (HX.out.trans z.x)).ent hyc:∀ z:After wr,z.v.rangeAt g (c*4) (entV y));have HC:=lh (fun w1=>acmpE_any y x w1);unfold entA at HC;clear hyc hc;by_cases hk:keyE y<keyE x
   ·rw [cmpI_lt hk] at HC;have HK:=lh hk;clear hk;go_upto_region 5 with (fail)
    refine wp_region_after (by kernel_rfl) (by kernel_rfl) ?_
    iterate 4 go_big_quiet_step (fail)
    refine wpQuiet_load_ag rfl _ _ rfl g (c*4) rfl (entV y).toArray _ (by rintro _ ⟨z,rfl⟩;exact r2.out z) underlying93 rfl (by kernel_rfl) ?_;go_frame
    iterate 3 go_big_quiet_step (fail)
    refine wpQuiet_load_ag rfl _ _ rfl g (a*4) rfl (entV x).toArray _ (by rintro _ ⟨z,rfl⟩;exact r1.out z) underlying93 rfl (by kernel_rfl) ?_;go_frame
    iterate 2 go_big_quiet_step (exact After.of (HC.out _))
    refine wpQuiet_nil ?_;rintro _ ⟨z,rfl⟩;have XZ:=lh (HX.out.trans z.x);clear r1 r2 HC;go_wp2;go_roundw
    case rel=>exact ⟨c+1,j,by omega,by omega,hj,by go_num,rfl,fun t t1 t2 u hu=>by
     by_cases e:t=c
     ·subst e;rw [HYC.out] at hu
      cases hu
      exact HK.out
     ·exact kl_le_lt (HS.out t c t1 (by omega) (by omega) u y hu HYC.out) HK.out,HHi.out,XZ.out⟩
    case measure=>simp [intOf] <;> omega
   ·have hge:=cmpI_ge hk;have HK:=lh hk;generalize cmpI (keyE y) (keyE x)=d at *;have gd:decide (d<0)=false:=decide_eq_false (by omega);clear hk;go_upto_region 5 with (fail)
    refine wp_region_after (by kernel_rfl) (by kernel_rfl) ?_
    iterate 4 go_big_quiet_step (fail)
    refine wpQuiet_load_ag rfl _ _ rfl g (c*4) rfl (entV y).toArray _ (by rintro _ ⟨z,rfl⟩;exact r2.out z) underlying93 rfl (by kernel_rfl) ?_;go_frame
    iterate 3 go_big_quiet_step (fail)
    refine wpQuiet_load_ag rfl _ _ rfl g (a*4) rfl (entV x).toArray _ (by rintro _ ⟨z,rfl⟩;exact r1.out z) underlying93 rfl (by kernel_rfl) ?_;go_frame
    iterate 2 go_big_quiet_step (exact After.of (HC.out _))
    refine wpQuiet_nil ?_;rintro _ ⟨z,rfl⟩;have XZ:=lh (HX.out.trans z.x);clear r1 r2 HC;go_wp2;go_roundw
    case rel=>exact ⟨i,c,hi,hc1,by omega,rfl,rfl,HLo.out,fun t t1 t2 u hu=>by
     by_cases e:t=c
     ·subst e;rw [HYC.out] at hu
      cases hu
      exact HK.out
     ·exact kl_le HK.out (HS.out c t (by omega) (by omega) t2 y u HYC.out hu),XZ.out⟩
    case measure=>simp [intOf] <;> omega
  ·obtain rfl:i=j:=by omega
   have HMg:=lh (Mg.first (key:=keyE) (l:=l) (a:=a) (b:=b) (i:=i) hi hj (by have:=HN.out;omega) HS.out (fun t t1 t2 u v hu hv=>by
    rw [HXA.out] at hu
    cases hu
    exact HLo.out t t1 t2 v hv) (fun t t1 t2 u v hu hv=>by
    rw [HXA.out] at hu
    cases hu
    exact HHi.out t t1 t2 v hv))
   obtain ⟨wo,hwo⟩:∃ wo,wo=wr:=⟨_,rfl⟩;have HT0:=lh (show Touch g w wo from hwo▸Touch.of HX.out);have HR0:=lh (show RowE wo g l from hwo▸HR.out.ext HX.out);obtain ⟨i1,hi1⟩:∃ i1,i1=i - 1:=⟨_,rfl⟩;have hii:i1+1=i:=by omega
   have q4:IntKind.i64.wrap ((i:Int) - 1)=(i1:Int):=by rw [IntWalk.i64_in _ (by omega)];omega
   rw [<-hwo];clear hwo HX HLo HHi HR hi1;go_wp2_with fail;go_loopw [13] (fun kv wr=>Hid (∃ k:Nat,a<=k/\k<=i1/\kv=.int .i64 k/\RowE wr g (plF l (rotF a (a+1) (k+1)))/\Touch g wo wr)) (fun kv _=>i1 - (intOf kv).toNat)
   case atStart=>exact ⟨a,Nat.le_refl _,by omega,rfl,by rw [rot_none (.inr rfl) (by omega) (by omega)];exact HR0.out,Touch.of (Ext.refl _)⟩
   case round =>
    obtain ⟨k,hk1,hk2,rfl,hr,hx⟩:=hrel.out;clear hrel;have HR1:=lh hr;have HT:=lh hx;clear hr hx;by_cases hlt:k<i1
    ·have hlen:(plF l (rotF a (a+1) (k+1))).length=n:=(plF_len fun t ht=>rotF_lt (a:=a) (m:=a+1) (b:=k+1) (by omega) (by omega) (by have:=HN.out;omega) ht).trans HN.out.symm;have HS:=lh (rot_up (l:=l) (a:=a) (k:=k) hk1 (by have:=HN.out;omega));generalize plF l (rotF a (a+1) (k+1))=l1 at *;obtain ⟨q,hq⟩:∃ q,q=k+1:=⟨_,rfl⟩;obtain ⟨p,hp⟩:∃ p,p=k:=⟨_,rfl⟩;obtain ⟨x,hx⟩:∃ x,l1[p]?=some x:=⟨_,List.getElem?_eq_getElem (by omega)⟩;obtain ⟨y,hy⟩:∃ y,l1[q]?=some y:=⟨_,List.getElem?_eq_getElem (by omega)⟩;have hpn:p<n:=by omega
     have hqn:q<n:=by omega
     have q5:IntKind.i64.wrap ((p:Int)+1)=(q:Int):=by rw [IntWalk.i64_in _ (by omega)];omega
     have q6:IntKind.i64.wrap ((k:Int)+1)=(q:Int):=by rw [IntWalk.i64_in _ (by omega)];omega
     have HX:=lh (show wr.drew.rangeAt g (p*4) (entV x) from (HR1.out.ext (Ext.refl wr).drew).ent hx);have HY:=lh (show wr.drew.rangeAt g (q*4) (entV y) from (HR1.out.ext (Ext.refl wr).drew).ent hy);have HD:=lh (HR1.out.ext (Ext.refl wr).drew);have HS1:=lh (show wr.drew.there g (p*4) (entV y).toArray.size from HD.out.room (by omega));obtain ⟨k1,k2⟩:=HD.out.store (show p<l1.length by omega) y;have HS2:=lh (show (wr.drew.setCells g (p*4) (entV y)).there g (q*4) (entV x).toArray.size from k1.room (by rw [List.length_set];omega));obtain ⟨k3,k4⟩:=k1.store (show q<(l1.set p y).length by rw [List.length_set];omega) x;rw [swap_set hx hy] at k3;have HW:=lh k3;have HT3:=lh (show Touch g wo _ from HT.out.trans ((Touch.of (Ext.refl wr).drew).trans (k2.trans k4)));clear k1 k2 k3 k4 hx hy;rw [show k+2=q+1 from by omega,<-hq] at HS;subst hp;rw [HS.out] at HW;have HQ:=lh (show q=p+1 from hq);have hq1:a<=q:=by omega
     have hq2:q<=i1:=by omega
     clear hq hlen HS HR1 HD;go_upto_region 11 with (fail)
     refine wp_region_held (S:=fun _=>True) (by kernel_rfl) ?_;refine wpAnyH_takeL (i:=0) (v:=.slice (some ⟨g,0,none⟩) n cap) rfl (by kernel_rfl) (by kernel_rfl) (by kernel_rfl) (fun _ _ _ h=>h) (yieldsIf_move rfl _ rfl rfl) trivial ?_;go_frame;refine wpAnyH_takeL (i:=1) (v:=.int .i64 (p:Nat)) rfl (by kernel_rfl) (by kernel_rfl) (by kernel_rfl) (fun _ _ _ h=>h) (yieldsIf_move rfl _ rfl rfl) trivial ?_;go_frame;refine wpAnyH_takeL (i:=2) (v:=.slice (some ⟨g,0,none⟩) n cap) rfl (by kernel_rfl) (by kernel_rfl) (by kernel_rfl) (fun _ _ _ h=>h) (yieldsIf_move rfl _ rfl rfl) trivial ?_;go_frame;refine wpAnyH_takeL (i:=3) (v:=.int .i64 (p:Nat)) rfl (by kernel_rfl) (by kernel_rfl) (by kernel_rfl) (fun _ _ _ h=>h) (yieldsIf_move rfl _ rfl rfl) trivial ?_;go_frame;refine wpAnyH_takeL (i:=4) (v:=.int .i64 (q:Nat)) rfl (by kernel_rfl) (by kernel_rfl) (by kernel_rfl) (fun _ _ _ h=>h) (Or.inl ⟨rfl,fun w' _=>by go_simp⟩) trivial ?_;go_frame;refine wpAnyH_takeL (i:=5) (v:=.slice (some ⟨g,0,none⟩) n cap) rfl (by kernel_rfl) (by kernel_rfl) (by kernel_rfl) (fun _ _ _ h=>h) (yieldsIf_move rfl _ rfl rfl) trivial ?_;go_frame;refine wpAnyH_takeL (i:=6) (v:=.int .i64 (p:Nat)) rfl (by kernel_rfl) (by kernel_rfl) (by kernel_rfl) (fun _ _ _ h=>h) (yieldsIf_move rfl _ rfl rfl) trivial ?_;go_frame;refine wpAnyH_takeL (i:=7) (v:=.int .i64 (q:Nat)) rfl (by kernel_rfl) (by kernel_rfl) (by kernel_rfl) (fun _ _ _ h=>h) (Or.inl ⟨rfl,fun w' _=>by go_simp⟩) trivial ?_;go_frame;refine wpAnyH_takeL (i:=8) (v:=.pointer (some ⟨g,q*4,none⟩)) rfl (by kernel_rfl) (by kernel_rfl) (by kernel_rfl) (fun _ _ _ h=>h) (Or.inl ⟨rfl,fun w' _=>by go_simp⟩) trivial ?_;go_frame;refine wpAnyH_takeL (i:=10) (v:=.slice (some ⟨g,0,none⟩) n cap) rfl (by kernel_rfl) (by kernel_rfl) (by kernel_rfl) (fun _ _ _ h=>h) (yieldsIf_move rfl _ rfl rfl) trivial ?_;go_frame;refine wpAnyH_takeL (i:=11) (v:=.int .i64 (p:Nat)) rfl (by kernel_rfl) (by kernel_rfl) (by kernel_rfl) (fun _ _ _ h=>h) (yieldsIf_move rfl _ rfl rfl) trivial ?_;go_frame;refine wpAnyH_takeL (i:=12) (v:=.pointer (some ⟨g,p*4,none⟩)) rfl (by kernel_rfl) (by kernel_rfl) (by kernel_rfl) (fun _ _ _ h=>h) (Or.inl ⟨rfl,fun w' _=>by go_simp⟩) trivial ?_;go_frame;refine wpAnyH_or2 (i:=9) (j:=13) (vi:=.agg (entV y).toArray) (vj:=.agg (entV x).toArray) (by kernel_rfl) rfl rfl rfl rfl (run_loadOpM 93 _ rfl g (q*4) rfl (entV y) HY.out underlying93 rfl (by kernel_rfl)) (run_loadOpM 93 _ rfl g (p*4) rfl (entV x) HX.out underlying93 rfl (by kernel_rfl)) trivial ?_ ?_
     ·go_frame;refine wpAnyH_one (i:=13) (v:=.agg (entV x).toArray) (by kernel_rfl) rfl rfl (run_loadOpM 93 _ rfl g (p*4) rfl (entV x) HX.out underlying93 rfl (by kernel_rfl)) trivial ?_;go_frame;refine wpAnyH_one (i:=14) (v:=.pointer (some ⟨g,p*4,none⟩)) (by kernel_rfl) rfl rfl (by go_simp <;> rfl) trivial ?_;go_frame;refine wpAnyH_skip (i:=15) (by kernel_rfl) rfl rfl (run_storeOpM 93 _ _ rfl g (p*4) (entV y) rfl rfl HS1.out (by kernel_rfl) (by kernel_rfl)) trivial ?_;go_frame;refine wpAnyH_one (i:=16) (v:=.pointer (some ⟨g,q*4,none⟩)) (by kernel_rfl) rfl rfl (by go_simp <;> rfl) trivial ?_;go_frame;refine wpAnyH_skip (i:=17) (by kernel_rfl) rfl rfl (run_storeOpM 93 _ _ rfl g (q*4) (entV x) rfl rfl HS2.out (by kernel_rfl) (by kernel_rfl)) trivial ?_;go_frame;refine wpAnyH_done (by kernel_rfl) ?_ _;go_wp2;go_roundw
      case rel=>exact ⟨q,hq1,hq2,by go_num,HW.out,HT3.out⟩
      case measure=>have:=HQ.out;simp [intOf] <;> omega
     ·go_frame;refine wpAnyH_one (i:=9) (v:=.agg (entV y).toArray) (by kernel_rfl) rfl rfl (run_loadOpM 93 _ rfl g (q*4) rfl (entV y) HY.out underlying93 rfl (by kernel_rfl)) trivial ?_;go_frame;refine wpAnyH_one (i:=14) (v:=.pointer (some ⟨g,p*4,none⟩)) (by kernel_rfl) rfl rfl (by go_simp <;> rfl) trivial ?_;go_frame;refine wpAnyH_skip (i:=15) (by kernel_rfl) rfl rfl (run_storeOpM 93 _ _ rfl g (p*4) (entV y) rfl rfl HS1.out (by kernel_rfl) (by kernel_rfl)) trivial ?_;go_frame;refine wpAnyH_one (i:=16) (v:=.pointer (some ⟨g,q*4,none⟩)) (by kernel_rfl) rfl rfl (by go_simp <;> rfl) trivial ?_;go_frame;refine wpAnyH_skip (i:=17) (by kernel_rfl) rfl rfl (run_storeOpM 93 _ _ rfl g (q*4) (entV x) rfl rfl HS2.out (by kernel_rfl) (by kernel_rfl)) trivial ?_;go_frame;refine wpAnyH_done (by kernel_rfl) ?_ _;go_wp2;go_roundw
      case rel=>exact ⟨q,hq1,hq2,by go_num,HW.out,HT3.out⟩
      case measure=>have:=HQ.out;simp [intOf] <;> omega
    ·obtain rfl:k=i1:=by omega
     rw [hii] at HR1;go_wp2_with fail;exact bodyPost_ret (results_none rfl _ _ _) rfl ⟨rfl,_,HMg.out,HR1.out,HT0.out.trans HT.out⟩
set_option maxRecDepth 100000 in
set_option maxHeartbeats 8000000 in
theorem asymL_any {w:World} {g cap n a m:Nat} {l:List Ent} (h:RowE w g l) (hn:n=l.length) (hl:l.length<=100000) (_hcap:n<=cap) (ham:a+1<m) (hb:m<l.length) (hs:SoOn keyE l a m) :
  Calls prog 228 #[.slice (some ⟨g,0,none⟩) n cap,.int .i64 a,.int .i64 m,.int .i64 ((m+1:Nat):Int),.func (.func 96) #[] #[]] w fun e w'=>e=.returned (.tuple #[])/\Hid (∃ l',Mg keyE l l' a (m+1)/\RowE w' g l'/\Touch g w w'):=by
 have HR:=lh h;have HN:=lh hn;have HS:=lh hs;rw [<-hn] at hl hb;obtain ⟨y,hym⟩:∃ y,l[m]?=some y:=⟨_,List.getElem?_eq_getElem (by omega)⟩;have HYM:=lh hym;have q0:IntKind.i64.wrap ((m:Int) - (a:Int))=((m - a:Nat):Int):=by rw [IntWalk.i64_in _ (by omega)];omega
 have g0:(((m - a:Nat):Int)==1)=false:=by rw [beq_eq_false_iff_ne];omega
 have q1:IntKind.i64.wrap (((m+1:Nat):Int) - (m:Int))=1:=by rw [IntWalk.i64_in _ (by omega)];omega
 clear h hn hs hym;go_enter func228,ntmps228;go_wp2_with fail;go_loopw [14,15] (fun iv jv wr=>Hid (∃ i j:Nat,a<=i/\i<=j/\j<=m/\iv=.int .i64 i/\jv=.int .i64 j/\(∀ t,a<=t->t<i->∀ z,l[t]?=some z->¬ keyE y<keyE z)/\(∀ t,j<=t->t<m->∀ z,l[t]?=some z->keyE y<keyE z)/\Ext w wr)) (fun iv jv _=>(intOf jv).toNat - (intOf iv).toNat)
 case atStart=>exact ⟨a,m,Nat.le_refl _,by omega,Nat.le_refl _,rfl,rfl,fun t h1 h2=>by omega,fun t h1 h2=>by omega,Ext.refl _⟩
 case round =>
  obtain ⟨i,j,hi,hij,hj,rfl,rfl,hlo,hhi,hx⟩:=hrel.out;clear hrel;have HLo:=lh hlo;have HHi:=lh hhi;have HX:=lh hx;clear hlo hhi hx;by_cases hlt:i<j
  ·obtain ⟨c,hc⟩:∃ c,c=(i+j) / 2:=⟨_,rfl⟩;have hc1:i<=c:=by omega
   have hc2:c<j:=by omega
   have q2:IntKind.i64.wrap ((i:Int)+(j:Int))=((i+j:Nat):Int):=by rw [IntWalk.i64_in _ (by omega)];omega
   have q3:((i:Int)+(j:Int)) / 2=(c:Int):=by rw [hc];omega
   obtain ⟨x,hxc⟩:∃ x,l[c]?=some x:=⟨_,List.getElem?_eq_getElem (by have:=HN.out;omega)⟩;have HXC:=lh hxc;have r1:=lh (fun (z:After wr)=>(HR.out.ext (HX.out.trans z.x)).ent hxc:∀ z:After wr,z.v.rangeAt g (c*4) (entV x));have r2:=lh (fun (z:After wr)=>(HR.out.ext (HX.out.trans z.x)).ent HYM.out:∀ z:After wr,z.v.rangeAt g (m*4) (entV y));have HC:=lh (fun w1=>acmpE_any y x w1);unfold entA at HC;clear hxc hc;by_cases hk:keyE y<keyE x
   ·rw [cmpI_lt hk] at HC;have HK:=lh hk;clear hk;go_upto_region 17 with (fail)
    refine wp_region_after (by kernel_rfl) (by kernel_rfl) ?_
    iterate 4 go_big_quiet_step (fail)
    refine wpQuiet_load_ag rfl _ _ rfl g (m*4) rfl (entV y).toArray _ (by rintro _ ⟨z,rfl⟩;exact r2.out z) underlying93 rfl (by kernel_rfl) ?_;go_frame
    iterate 3 go_big_quiet_step (fail)
    refine wpQuiet_load_ag rfl _ _ rfl g (c*4) rfl (entV x).toArray _ (by rintro _ ⟨z,rfl⟩;exact r1.out z) underlying93 rfl (by kernel_rfl) ?_;go_frame
    iterate 3 go_big_quiet_step (exact After.of (HC.out _))
    refine wpQuiet_nil ?_;rintro _ ⟨z,rfl⟩;have XZ:=lh (HX.out.trans z.x);clear r1 r2 HC;go_wp2;go_roundw
    case rel=>exact ⟨i,c,hi,hc1,by omega,rfl,rfl,HLo.out,fun t t1 t2 u hu=>by
     by_cases e:t=c
     ·subst e;rw [HXC.out] at hu
      cases hu
      exact HK.out
     ·exact kl_lt_le HK.out (HS.out c t (by omega) (by omega) t2 x u HXC.out hu),XZ.out⟩
    case measure=>simp [intOf] <;> omega
   ·have hge:=cmpI_ge hk;have HK:=lh hk;generalize cmpI (keyE y) (keyE x)=d at *;have gd:decide (d<0)=false:=decide_eq_false (by omega);clear hk;go_upto_region 17 with (fail)
    refine wp_region_after (by kernel_rfl) (by kernel_rfl) ?_
    iterate 4 go_big_quiet_step (fail)
    refine wpQuiet_load_ag rfl _ _ rfl g (m*4) rfl (entV y).toArray _ (by rintro _ ⟨z,rfl⟩;exact r2.out z) underlying93 rfl (by kernel_rfl) ?_;go_frame
    iterate 3 go_big_quiet_step (fail)
    refine wpQuiet_load_ag rfl _ _ rfl g (c*4) rfl (entV x).toArray _ (by rintro _ ⟨z,rfl⟩;exact r1.out z) underlying93 rfl (by kernel_rfl) ?_;go_frame
    iterate 3 go_big_quiet_step (exact After.of (HC.out _))
    refine wpQuiet_nil ?_;rintro _ ⟨z,rfl⟩;have XZ:=lh (HX.out.trans z.x);clear r1 r2 HC;go_wp2;go_roundw
    case rel=>exact ⟨c+1,j,by omega,by omega,hj,by go_num,rfl,fun t t1 t2 u hu=>by
     by_cases e:t=c
     ·subst e;rw [HXC.out] at hu
      cases hu
      exact HK.out
     ·exact kl_le (HS.out t c t1 (by omega) (by omega) u x hu HXC.out) HK.out,HHi.out,XZ.out⟩
    case measure=>simp [intOf] <;> omega
  ·obtain rfl:i=j:=by omega
   have HMg:=lh (Mg.last (key:=keyE) (l:=l) (a:=a) (i:=i) (m:=m) hi hj (by have:=HN.out;omega) HS.out (fun t t1 t2 u v hu hv=>by
    rw [HYM.out] at hv
    cases hv
    exact HLo.out t t1 t2 u hu) (fun t t1 t2 u v hu hv=>by
    rw [HYM.out] at hv
    cases hv
    exact HHi.out t t1 t2 u hu))
   obtain ⟨wo,hwo⟩:∃ wo,wo=wr:=⟨_,rfl⟩;have HT0:=lh (show Touch g w wo from hwo▸Touch.of HX.out);have HR0:=lh (show RowE wo g l from hwo▸HR.out.ext HX.out);rw [<-hwo];clear hwo HX HLo HHi HR;go_wp2_with fail;go_loopw [17] (fun kv wr=>Hid (∃ k:Nat,i<=k/\k<=m/\kv=.int .i64 k/\RowE wr g (plF l (rotF k m (m+1)))/\Touch g wo wr)) (fun kv _=>(intOf kv).toNat)
   case atStart=>exact ⟨m,hj,Nat.le_refl _,rfl,by rw [rot_none (.inl rfl) (Nat.le_refl _) (by omega)];exact HR0.out,Touch.of (Ext.refl _)⟩
   case round =>
    obtain ⟨k,hk1,hk2,rfl,hr,hx⟩:=hrel.out;clear hrel;have HR1:=lh hr;have HT:=lh hx;clear hr hx;by_cases hlt:i<k
    ·have hlen:(plF l (rotF k m (m+1))).length=n:=(plF_len fun t ht=>rotF_lt (a:=k) (m:=m) (b:=m+1) hk2 (by omega) (by have:=HN.out;omega) ht).trans HN.out.symm;have HDn:=lh (rot_down (l:=l) (k:=k) (m:=m) (by omega) hk2 (by have:=HN.out;omega));generalize plF l (rotF k m (m+1))=l1 at *;obtain ⟨q,hq⟩:∃ q,q=k - 1:=⟨_,rfl⟩;obtain ⟨p,hp⟩:∃ p,p=k:=⟨_,rfl⟩;obtain ⟨x,hx⟩:∃ x,l1[p]?=some x:=⟨_,List.getElem?_eq_getElem (by omega)⟩;obtain ⟨y,hy⟩:∃ y,l1[q]?=some y:=⟨_,List.getElem?_eq_getElem (by omega)⟩;have hpn:p<n:=by omega
     have hqn:q<n:=by omega
     have hqp:q<p:=by omega
     have hqi:i<=q:=by omega
     have hqm:q<=m:=by omega
     have q5:IntKind.i64.wrap ((p:Int) - 1)=(q:Int):=by rw [IntWalk.i64_in _ (by omega)];omega
     rw [<-hq] at HDn;subst hp;have HX:=lh (show wr.drew.rangeAt g (p*4) (entV x) from (HR1.out.ext (Ext.refl wr).drew).ent hx);have HY:=lh (show wr.drew.rangeAt g (q*4) (entV y) from (HR1.out.ext (Ext.refl wr).drew).ent hy);have HD:=lh (HR1.out.ext (Ext.refl wr).drew);have HS1:=lh (show wr.drew.there g (p*4) (entV y).toArray.size from HD.out.room (by omega));obtain ⟨k1,k2⟩:=HD.out.store (show p<l1.length by omega) y;have HS2:=lh (show (wr.drew.setCells g (p*4) (entV y)).there g (q*4) (entV x).toArray.size from k1.room (by rw [List.length_set];omega));obtain ⟨k3,k4⟩:=k1.store (show q<(l1.set p y).length by rw [List.length_set];omega) x;rw [swap_set hx hy] at k3;have HW:=lh k3;have HT3:=lh (show Touch g wo _ from HT.out.trans ((Touch.of (Ext.refl wr).drew).trans (k2.trans k4)));clear k1 k2 k3 k4 hx hy;rw [HDn.out] at HW;clear hq hlen HDn HR1 HD;go_upto_region 23 with (fail)
     refine wp_region_held (S:=fun _=>True) (by kernel_rfl) ?_;refine wpAnyH_takeL (i:=0) (v:=.slice (some ⟨g,0,none⟩) n cap) rfl (by kernel_rfl) (by kernel_rfl) (by kernel_rfl) (fun _ _ _ h=>h) (yieldsIf_move rfl _ rfl rfl) trivial ?_;go_frame;refine wpAnyH_takeL (i:=1) (v:=.int .i64 (p:Nat)) rfl (by kernel_rfl) (by kernel_rfl) (by kernel_rfl) (fun _ _ _ h=>h) (yieldsIf_move rfl _ rfl rfl) trivial ?_;go_frame;refine wpAnyH_takeL (i:=2) (v:=.slice (some ⟨g,0,none⟩) n cap) rfl (by kernel_rfl) (by kernel_rfl) (by kernel_rfl) (fun _ _ _ h=>h) (yieldsIf_move rfl _ rfl rfl) trivial ?_;go_frame;refine wpAnyH_takeL (i:=3) (v:=.int .i64 (p:Nat)) rfl (by kernel_rfl) (by kernel_rfl) (by kernel_rfl) (fun _ _ _ h=>h) (yieldsIf_move rfl _ rfl rfl) trivial ?_;go_frame;refine wpAnyH_takeL (i:=4) (v:=.int .i64 (q:Nat)) rfl (by kernel_rfl) (by kernel_rfl) (by kernel_rfl) (fun _ _ _ h=>h) (Or.inl ⟨rfl,fun w' _=>by go_simp⟩) trivial ?_;go_frame;refine wpAnyH_takeL (i:=5) (v:=.slice (some ⟨g,0,none⟩) n cap) rfl (by kernel_rfl) (by kernel_rfl) (by kernel_rfl) (fun _ _ _ h=>h) (yieldsIf_move rfl _ rfl rfl) trivial ?_;go_frame;refine wpAnyH_takeL (i:=6) (v:=.int .i64 (p:Nat)) rfl (by kernel_rfl) (by kernel_rfl) (by kernel_rfl) (fun _ _ _ h=>h) (yieldsIf_move rfl _ rfl rfl) trivial ?_;go_frame;refine wpAnyH_takeL (i:=7) (v:=.int .i64 (q:Nat)) rfl (by kernel_rfl) (by kernel_rfl) (by kernel_rfl) (fun _ _ _ h=>h) (Or.inl ⟨rfl,fun w' _=>by go_simp⟩) trivial ?_;go_frame;refine wpAnyH_takeL (i:=8) (v:=.pointer (some ⟨g,q*4,none⟩)) rfl (by kernel_rfl) (by kernel_rfl) (by kernel_rfl) (fun _ _ _ h=>h) (Or.inl ⟨rfl,fun w' _=>by go_simp⟩) trivial ?_;go_frame;refine wpAnyH_takeL (i:=10) (v:=.slice (some ⟨g,0,none⟩) n cap) rfl (by kernel_rfl) (by kernel_rfl) (by kernel_rfl) (fun _ _ _ h=>h) (yieldsIf_move rfl _ rfl rfl) trivial ?_;go_frame;refine wpAnyH_takeL (i:=11) (v:=.int .i64 (p:Nat)) rfl (by kernel_rfl) (by kernel_rfl) (by kernel_rfl) (fun _ _ _ h=>h) (yieldsIf_move rfl _ rfl rfl) trivial ?_;go_frame;refine wpAnyH_takeL (i:=12) (v:=.pointer (some ⟨g,p*4,none⟩)) rfl (by kernel_rfl) (by kernel_rfl) (by kernel_rfl) (fun _ _ _ h=>h) (Or.inl ⟨rfl,fun w' _=>by go_simp⟩) trivial ?_;go_frame;refine wpAnyH_or2 (i:=9) (j:=13) (vi:=.agg (entV y).toArray) (vj:=.agg (entV x).toArray) (by kernel_rfl) rfl rfl rfl rfl (run_loadOpM 93 _ rfl g (q*4) rfl (entV y) HY.out underlying93 rfl (by kernel_rfl)) (run_loadOpM 93 _ rfl g (p*4) rfl (entV x) HX.out underlying93 rfl (by kernel_rfl)) trivial ?_ ?_
     ·go_frame;refine wpAnyH_one (i:=13) (v:=.agg (entV x).toArray) (by kernel_rfl) rfl rfl (run_loadOpM 93 _ rfl g (p*4) rfl (entV x) HX.out underlying93 rfl (by kernel_rfl)) trivial ?_;go_frame;refine wpAnyH_one (i:=14) (v:=.pointer (some ⟨g,p*4,none⟩)) (by kernel_rfl) rfl rfl (by go_simp <;> rfl) trivial ?_;go_frame;refine wpAnyH_skip (i:=15) (by kernel_rfl) rfl rfl (run_storeOpM 93 _ _ rfl g (p*4) (entV y) rfl rfl HS1.out (by kernel_rfl) (by kernel_rfl)) trivial ?_;go_frame;refine wpAnyH_one (i:=16) (v:=.pointer (some ⟨g,q*4,none⟩)) (by kernel_rfl) rfl rfl (by go_simp <;> rfl) trivial ?_;go_frame;refine wpAnyH_skip (i:=17) (by kernel_rfl) rfl rfl (run_storeOpM 93 _ _ rfl g (q*4) (entV x) rfl rfl HS2.out (by kernel_rfl) (by kernel_rfl)) trivial ?_;go_frame;refine wpAnyH_done (by kernel_rfl) ?_ _;go_wp2;go_roundw
      case rel=>exact ⟨q,hqi,hqm,by go_num,HW.out,HT3.out⟩
      case measure=>simp [intOf] <;> omega
     ·go_frame;refine wpAnyH_one (i:=9) (v:=.agg (entV y).toArray) (by kernel_rfl) rfl rfl (run_loadOpM 93 _ rfl g (q*4) rfl (entV y) HY.out underlying93 rfl (by kernel_rfl)) trivial ?_;go_frame;refine wpAnyH_one (i:=14) (v:=.pointer (some ⟨g,p*4,none⟩)) (by kernel_rfl) rfl rfl (by go_simp <;> rfl) trivial ?_;go_frame;refine wpAnyH_skip (i:=15) (by kernel_rfl) rfl rfl (run_storeOpM 93 _ _ rfl g (p*4) (entV y) rfl rfl HS1.out (by kernel_rfl) (by kernel_rfl)) trivial ?_;go_frame;refine wpAnyH_one (i:=16) (v:=.pointer (some ⟨g,q*4,none⟩)) (by kernel_rfl) rfl rfl (by go_simp <;> rfl) trivial ?_;go_frame;refine wpAnyH_skip (i:=17) (by kernel_rfl) rfl rfl (run_storeOpM 93 _ _ rfl g (q*4) (entV x) rfl rfl HS2.out (by kernel_rfl) (by kernel_rfl)) trivial ?_;go_frame;refine wpAnyH_done (by kernel_rfl) ?_ _;go_wp2;go_roundw
      case rel=>exact ⟨q,hqi,hqm,by go_num,HW.out,HT3.out⟩
      case measure=>simp [intOf] <;> omega
    ·obtain rfl:i=k:=by omega
     go_wp2_with fail;exact bodyPost_ret (results_none rfl _ _ _) rfl ⟨rfl,_,HMg.out,HR1.out,HT0.out.trans HT.out⟩
end
end Go.Proofs.YtodickpibbbiiaaGreatDoor
