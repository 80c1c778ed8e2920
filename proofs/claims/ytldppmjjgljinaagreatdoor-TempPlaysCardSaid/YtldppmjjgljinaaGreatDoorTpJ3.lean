import Derived.Test.YtldppmjjgljinaaGreatDoorTpJ1
import Derived.Test.YtldppmjjgljinaaGreatDoorTpC3
import Derived.Test.YtldppmjjgljinaaGreatDoorTpJ2
open Go.Proofs.Tryz
namespace Go.Proofs.YtldppmjjgljinaaGreatDoor
open Go.RowKit
section
set_option maxRecDepth 100000 in
set_option maxHeartbeats 4000000 in
theorem roff_any (r:Nat) (M I:List Nat) (D:Dk) (w:World) (K:RkAt w r M I D) (hl:D.fused=true->0<=D.left) :
  Calls prog 101 #[.pointer (some ⟨r,0,none⟩)] w fun e w'=>e=.returned (.bool D.off)/\w'=w:=by
 obtain ⟨lt,ls,lv,sv,lg,K,-,-⟩:=K;have hb:=K.blk;clear K;have c3:w.cell? ⟨r,3,none⟩=some (.bool D.fused):=cellB hb;have c4:w.cell? ⟨r,4,none⟩=some (.int .i64 D.left):=cellB hb;clear hb;obtain ⟨o,ho⟩:∃ o,o=D.off:=⟨_,rfl⟩
 have HO:=lh (show o=(D.fused&&decide (D.left<=0)) from by
  rw [ho];unfold Dk.off
  cases hf:D.fused with
  | false=>rfl
  | true=>have:=hl hf;rw [Bool.true_and,Bool.true_and,decide_eq_decide];omega)
 rw [<-ho];clear ho hl;generalize D.fused=f at *;generalize D.left=n at *;rcases f with _ | _
 ·have h1:o=false:=HO.out;subst h1;clear HO;go_enter func101,ntmps101;go_wp2_with fail;go_ret;exact ⟨rfl,rfl⟩
 ·have h1:o=decide (n<=0):=HO.out;clear HO;go_enter func101,ntmps101;go_wp2_with fail;go_ret;exact ⟨by rw [h1];rfl,rfl⟩
set_option maxRecDepth 100000 in
set_option maxHeartbeats 4000000 in
theorem rmade_any (room:Nat) (w:World) :
  Calls prog 42 #[.int .i64 (room:Nat)] w fun e w'=>∃ r M I,e=.returned (.pointer (some ⟨r,0,none⟩))/\RkAt w' r M I (Dk.made room)/\Ext w w'/\(∀ b∈M,w.heap.size<=b)/\∀ b∈I,w.heap.size<=b:=by
 go_enter func42,ntmps42;go_wp2_with fail;go_ret;refine ⟨w.heap.size+1+1,[w.heap.size+1+1]++rowB (.slice none 0 0),[w.heap.size,w.heap.size+1]++rowB (.slice none 0 0)++rowB (.slice none 0 0),rfl,?_,((Ext.refl w).alloc _ |>.alloc _).alloc _,?_,?_⟩
 ·skip
  have z1:(w.alloc (.cells #[.slice none 0 0,.int .i64 (room:Nat)] 157)).heap.size=w.heap.size+1:=size_alloc _ _;refine ⟨w.heap.size,w.heap.size+1,.slice none 0 0,.slice none 0 0,.slice none 0 0,⟨?_,⟨?_,World.ownsRow_nil _ _ _ _⟩,⟨?_,World.ownsRow_nil _ _ _ _⟩,⟨[],⟨rfl,fun _ h=>(by cases h)⟩,World.ownsRow_nil _ _ _ _⟩,?_,?_⟩,rfl,rfl⟩
  ·have h:=block_alloc_new ((w.alloc (.cells #[.slice none 0 0,.int .i64 (room:Nat)] 157)).alloc (.cells #[.slice none 0 0,.int .i64 (room:Nat)] 157)) (.cells #[.pointer (some ⟨w.heap.size,0,none⟩),.pointer (some ⟨w.heap.size+1,0,none⟩),.slice none 0 0,.bool false,.int .i64 0] 160);rw [size_alloc,size_alloc] at h;exact h
  ·rw [block_alloc_old (by rw [size_alloc,size_alloc];omega),block_alloc_old (by rw [size_alloc];omega)];exact block_alloc_new _ _
  ·rw [block_alloc_old (by rw [size_alloc,size_alloc];omega)];have h:=block_alloc_new (w.alloc (.cells #[.slice none 0 0,.int .i64 (room:Nat)] 157)) (.cells #[.slice none 0 0,.int .i64 (room:Nat)] 157);rw [z1] at h;exact h
  ·intro h;cases h
  ·intro b hb;refine ⟨?_,fun h=>by cases h⟩;simp [rowB,Value.ownBlock] at hb;omega
 ·intro b hb;simp [rowB,Value.ownBlock] at hb;omega
 ·intro b hb;simp [rowB,Value.ownBlock] at hb;omega
end
section
def RkPost (w:World) (r:Nat) (M I:List Nat) (R:Int×Dk) (e:Ending) (w':World):Prop :=
 e=.returned (.int .i64 R.1)/\∃ M' I',RkAt w' r M' I' R.2/\DkStep w M I w' M' I'
theorem RkAt.ext {w w':World} {r:Nat} {M I:List Nat} {D:Dk} (h:RkAt w r M I D) (x:Ext w w'):RkAt w' r M I D:=h.kept fun _ hb _=>x.block hb
theorem RkPost.still {w w':World} {r:Nat} {M I:List Nat} {D:Dk} {R:Int×Dk} {n:Int} (h:RkAt w r M I D) (x:Ext w w') (hR:R=(n,D)):RkPost w r M I R (.returned (.int .i64 n)) w':=by
 subst hR;exact ⟨rfl,M,I,h.ext x,DkStep.of_ext x M I⟩
end
section
end
section
def ndV (o:Nd):Value:=.agg #[.int .i64 o.kind,.string o.data,.string o.target,.int .i64 o.time]
set_option maxRecDepth 100000 in
set_option maxHeartbeats 4000000 in
theorem rread9_any {w:World} {r:Nat} {M I:List Nat} {D:Dk} (h:RkAt w r M I D) (hl:D.live.length<=1048576) (p:ByteArray) (hp:p.size<4294967280) :
  Calls prog 105 #[.pointer (some ⟨r,0,none⟩),.string p] w fun e w'=>e=.returned (.tuple #[ndV (readE D.live p).1,.int .i64 (readE D.live p).2])/\Ext w w':=by
 obtain ⟨lt,ls,lv,sv,lg,h,-,-⟩:=h;have c0:w.cell? ⟨r,0,none⟩=some (.pointer (some ⟨lt,0,none⟩)):=cellB h.blk;have hrl:=ltB h.blk;have HT:=lh h.live;have HM:=fun w'=>lh (refMay_any p w' (by omega));have HF:=fun w' (x:Ext w w') i hi=>lh (rfind_any lt lv D.live D.room p w' (h.live.ext x) hl i hi);have HR:=lh (show readE D.live p=if mayB p then (match findA D.live p with | some o=>(o,(0:Int)) | none=>(⟨0,emp,emp,0⟩,5)) else (⟨0,emp,emp,0⟩,10) from rfl);generalize readE D.live p=R at *;clear h
 cases hm:mayB p with
 | false =>
  rw [hm] at HM;have HR2:=lh (HR.out.trans (if_neg (by rw [hm];decide)));clear HR HF hm;go_enter func105,ntmps105;go_wp2_with fail;refine (HM _).out.mono ?_;rintro e w1 ⟨rfl,x1⟩;have hlt:w.heap.size<(w.alloc (.cells #[.int .i64 0,.string ⟨#[]⟩,.string ⟨#[]⟩,.int .i64 0] 57)).heap.size:=by rw [size_alloc];omega
  have hb:=(x1.block hlt).trans (block_alloc_new w (.cells #[.int .i64 0,.string ⟨#[]⟩,.string ⟨#[]⟩,.int .i64 0] 57));have k0:=cellB (k:=0) hb;have k1:=cellB (k:=1) hb;have k2:=cellB (k:=2) hb;have k3:=cellB (k:=3) hb;have q0:=frozenB (k:=0) hb;have q1:=frozenB (k:=1) hb;have q2:=frozenB (k:=2) hb;have q3:=frozenB (k:=3) hb;have hl1:=ltB hb;have HBK:=lh hb;have HX1:=lh (((Ext.refl w).alloc _).trans x1);have d0:=(HX1.out.cell hrl).trans c0;clear hb x1 hlt;go_wp2_with fail;refine bodyPost_ret (ret_node rfl _ w.heap.size _ _ _ _ rfl (setCellB (setCellB (setCellB (setCellB HBK.out))))) rfl ?_;exact ⟨by rw [HR2.out];rfl,by repeat (first | exact HX1.out | refine Ext.setCell ?_ (Nat.le_refl _) _)⟩
 | true =>
  rw [hm] at HM;have HR1:=lh (HR.out.trans (if_pos hm))
  cases hf:findA D.live p with
  | none =>
   rw [hf] at HF HR1;have HR2:Hid (R=(⟨0,emp,emp,0⟩,5)):=HR1;have HFi:=fun w' x=>HF w' x (-1) rfl;clear HF;clear HR hm hf HR1;go_enter func105,ntmps105;go_wp2_with fail;refine (HM _).out.mono ?_;rintro e w1 ⟨rfl,x1⟩;have hlt:w.heap.size<(w.alloc (.cells #[.int .i64 0,.string ⟨#[]⟩,.string ⟨#[]⟩,.int .i64 0] 57)).heap.size:=by rw [size_alloc];omega
   have hb:=(x1.block hlt).trans (block_alloc_new w (.cells #[.int .i64 0,.string ⟨#[]⟩,.string ⟨#[]⟩,.int .i64 0] 57));have k0:=cellB (k:=0) hb;have k1:=cellB (k:=1) hb;have k2:=cellB (k:=2) hb;have k3:=cellB (k:=3) hb;have q0:=frozenB (k:=0) hb;have q1:=frozenB (k:=1) hb;have q2:=frozenB (k:=2) hb;have q3:=frozenB (k:=3) hb;have hl1:=ltB hb;have HBK:=lh hb;have HX1:=lh (((Ext.refl w).alloc _).trans x1);have d0:=(HX1.out.cell hrl).trans c0;clear hb x1 hlt;have HF1:=HFi _ HX1.out;go_wp2_with fail;refine HF1.out.mono ?_;rintro e w2 ⟨rfl,hw⟩;obtain rfl:=hw.symm;clear hw HF1;go_wp2_with fail;refine bodyPost_ret (ret_node rfl _ w.heap.size _ _ _ _ rfl (setCellB (setCellB (setCellB (setCellB HBK.out))))) rfl ?_;exact ⟨by rw [HR2.out];rfl,by repeat (first | exact HX1.out | refine Ext.setCell ?_ (Nat.le_refl _) _)⟩
  | some o =>
   rw [hf] at HF HR1;have HR2:Hid (R=(o,0)):=HR1;have HG:=lh (show D.live[idxA D.live p]?=some (p,o) from idx_some hf);obtain ⟨ia,hia⟩:∃ ia,ia=idxA D.live p:=⟨_,rfl⟩;rw [<-hia] at HF HG;have HFi:=fun w' x=>HF w' x (ia:Int) rfl;clear HF;have hial:ia<D.live.length:=(List.getElem?_eq_some_iff.1 HG.out).1;obtain ⟨ok,od,og,om⟩:=o;clear HR hm hf HR1 hia;go_enter func105,ntmps105;go_wp2_with fail;refine (HM _).out.mono ?_;rintro e w1 ⟨rfl,x1⟩;have hlt:w.heap.size<(w.alloc (.cells #[.int .i64 0,.string ⟨#[]⟩,.string ⟨#[]⟩,.int .i64 0] 57)).heap.size:=by rw [size_alloc];omega
   have hb:=(x1.block hlt).trans (block_alloc_new w (.cells #[.int .i64 0,.string ⟨#[]⟩,.string ⟨#[]⟩,.int .i64 0] 57));have k0:=cellB (k:=0) hb;have k1:=cellB (k:=1) hb;have k2:=cellB (k:=2) hb;have k3:=cellB (k:=3) hb;have q0:=frozenB (k:=0) hb;have q1:=frozenB (k:=1) hb;have q2:=frozenB (k:=2) hb;have q3:=frozenB (k:=3) hb;have hl1:=ltB hb;have HBK:=lh hb;have HX1:=lh (((Ext.refl w).alloc _).trans x1);have d0:=(HX1.out.cell hrl).trans c0;clear hb x1 hlt;have HF1:=HFi _ HX1.out;go_wp2_with fail;refine HF1.out.mono ?_;rintro e w2 ⟨rfl,hw⟩;obtain rfl:=hw.symm;clear hw HF1;have HT1:=lh (HT.out.ext HX1.out);have ct:=cellB (k:=0) HT1.out.blk;obtain ⟨av,cap,hve,hv1,hv2,hv3⟩:=HT1.out.shape;obtain ⟨g,hae,hgl,hc⟩:=hv3 ia _ HG.out;have g1:w1.cell? ⟨g,ia*5+1,none⟩=some (.int .i64 ok):=hc 1 _ rfl;have g2:w1.cell? ⟨g,ia*5+2,none⟩=some (.string od):=hc 2 _ rfl;have g3:w1.cell? ⟨g,ia*5+3,none⟩=some (.string og):=hc 3 _ rfl;have g4:w1.cell? ⟨g,ia*5+4,none⟩=some (.int .i64 om):=hc 4 _ rfl;subst hae;have ct2:=ct.trans (congrArg some hve);clear ct hc hv3;go_wp2_with fail;refine bodyPost_ret (ret_node rfl _ w.heap.size _ _ _ _ rfl (setCellB (setCellB (setCellB (setCellB HBK.out))))) rfl ?_;exact ⟨by rw [HR2.out];rfl,by repeat (first | exact HX1.out | refine Ext.setCell ?_ (Nat.le_refl _) _)⟩
end
section
theorem elEff:ElemK prog 158 163 (.agg #[.int .i64 0,.string ByteArray.empty,.string ByteArray.empty,.string ByteArray.empty,.int .i64 0,.int .i64 0,.bool false]) 7 80:=⟨by kernel_rfl,by kernel_rfl,rfl,by decide,by decide⟩
theorem dataC_full {d:ByteArray} (h:d.size<=1048576) (most:Nat):dataC false most d=cutTo full d:=(cutTo_ge h).symm
theorem act_eff (D:Dk) (x:Eff) (ho:D.off=false) (hp:x.paths.all mayB=true) (hr:x.right=true):D.act x=if (effE D.live D.room full x).1=0 then (0,{ D with live:=(effE D.live D.room full x).2,log:=D.log++[x],left:=D.left - 1 }) else ((effE D.live D.room full x).1,D):=by
 unfold Dk.act;rw [if_neg (by rw [ho];decide),if_pos hp,if_pos hr]
theorem act_off (D:Dk) (x:Eff) (ho:D.off=true):D.act x=(20,D):=by unfold Dk.act;rw [if_pos ho]
theorem act_may (D:Dk) (x:Eff) (ho:D.off=false) (hp:x.paths.all mayB=false):D.act x=(10,D):=by
 unfold Dk.act;rw [if_neg (by rw [ho];decide),if_neg (by rw [hp];decide)]
theorem act_right (D:Dk) (x:Eff) (ho:D.off=false) (hp:x.paths.all mayB=true) (hr:x.right=false):D.act x=(2,D):=by
 unfold Dk.act;rw [if_neg (by rw [ho];decide),if_pos hp,if_neg (by rw [hr];decide)]
theorem rdo_end {w w2 W1 w3:World} {r lt ls t5:Nat} {lv sv lg v5 lg':Value} {D:Dk} {l:Nodes} {x:RE} {res:List RE} {R:Int×Dk} (h:RkIn w r lt ls lv sv lg D) (hr:res.map RE.eff=D.log/\∀ x∈res,REOk x) (hl:w.ownsRow 0 163 7 lg D.log.length (rows7 res))
  (x2:Ext w w2) (T5:RTreeAt w2 t5 v5 l D.room) (ht5:w.heap.size<=t5) (hv5:∀ b,v5.ownBlock=some b->w.heap.size<=b) (hx:REOk x) (c1:Chg [r] w2 W1)
  (hb1:W1.heap[r]?=some (.cells #[.pointer (some ⟨t5,0,none⟩),.pointer (some ⟨ls,0,none⟩),lg,.bool D.fused,.int .i64 D.left] 160 (0,0)))
  (hown:w3.ownsRow 0 163 7 lg' (D.log.length+1) (rows7 res++cells7 x)) (hg:W1.grownBy w3 lg.ownBlock) (hw:lg'.ownBlock=lg.ownBlock\/lg'.ownBlock=some W1.heap.size)
  (hR:R=(0,{ D with live:=l,log:=D.log++[x.eff],left:=D.left - 1 })) :
  RkPost w r ([r]++rowB lg) ([lt,ls]++rowB lv++rowB sv) R (.returned (.int .i64 0)) ((w3.setCell ⟨r,2,none⟩ lg').setCell ⟨r,4,none⟩ (.int .i64 (D.left - 1))):=by
 subst hR;have hrl:=ltB h.blk;have hs2:=x2.size;have hs1:=c1.size;have hs3:=hg.size;have keyN:∀ b,b≠r->((w3.setCell ⟨r,2,none⟩ lg').setCell ⟨r,4,none⟩ (.int .i64 (D.left - 1))).heap[b]?=w3.heap[b]?:=fun b hb=>(setCellO hb).trans (setCellO hb)
 have key:∀ b,b<w2.heap.size->b≠r->lg.ownBlock≠some b->((w3.setCell ⟨r,2,none⟩ lg').setCell ⟨r,4,none⟩ (.int .i64 (D.left - 1))).heap[b]?=w2.heap[b]?:=fun b hb hr' hn =>
  (keyN b hr').trans ((hg.block b (by omega) (Ne.symm hn)).trans (c1.block b hb (by simp [hr'])))
 have hlt:=own_lt hl;have hIlt:∀ b∈[lt,ls]++rowB lv++rowB sv,b<w.heap.size:=(RkAt.lt (D:=D) ⟨lt,ls,lv,sv,lg,h,rfl,rfl⟩).2;have hlg':∀ b,lg'.ownBlock=some b->lg.ownBlock=some b\/W1.heap.size=b:=fun b hb=>hw.elim (fun e=>.inl (e▸hb)) fun e=>.inr (by rw [e] at hb;exact Option.some.inj hb)
 have hnew:∀ b,b=t5\/v5.ownBlock=some b->w.heap.size<=b/\b<w2.heap.size:=fun b hb=>by
  rcases hb with rfl | hb
  ·exact ⟨ht5,ltB T5.blk⟩
  ·exact ⟨hv5 b hb,own_lt T5.row b hb⟩
 have hsv:∀ b,b=ls\/sv.ownBlock=some b->b∈[lt,ls]++rowB lv++rowB sv:=fun b hb=>by
  rcases hb with rfl | hb
  ·simp
  ·simp [mem_rowB.2 hb]
 refine ⟨rfl,[r]++rowB lg',[t5,ls]++rowB v5++rowB sv,⟨t5,ls,v5,sv,lg',⟨?_,?_,?_,⟨res++[x],⟨?_,fun y hy=>?_⟩,?_⟩,fun e=>?_,fun b hb=>?_⟩,rfl,rfl⟩,⟨?_,fun b hb=>?_,fun b hb=>?_⟩⟩
 ·rw [setCellB (setCellB ((hg.block r (by omega) (Ne.symm h.rlg)).trans hb1))];rfl
 ·exact T5.kept fun b hb=>key b (hnew b hb).2 (by have:=(hnew b hb).1;omega) fun e=>by have:=(hnew b hb).1;have:=hlt b e;omega
 ·exact h.lasts.kept fun b hb=>(key b (by have:=hIlt b (hsv b hb);omega) (h.imm b (hsv b hb)).1 (h.imm b (hsv b hb)).2).trans (x2.block (hIlt b (hsv b hb)))
 ·simp [hr.1]
 ·rcases List.mem_append.1 hy with hy | hy
  ·exact hr.2 y hy
  ·rw [List.mem_singleton.1 hy];exact hx
 ·rw [show ({ D with live:=l,log:=D.log++[x.eff],left:=D.left - 1 }:Dk).log.length=D.log.length+1 from by simp,rows7_snoc]
  exact owns_blocks hown fun b hb=>keyN b fun e=>by
   subst e;rcases hlg' b hb with h9 | h9
   ·exact h.rlg h9
   ·omega
 ·rcases hlg' r e with h9 | h9
  ·exact h.rlg h9
  ·omega
 ·have hb':(b=t5\/v5.ownBlock=some b)\/(b=ls\/sv.ownBlock=some b):=by
   simp only [List.mem_append,List.mem_cons,List.not_mem_nil,or_false,mem_rowB] at hb;rcases hb with ((hb | hb) | hb) | hb
   ·exact .inl (.inl hb)
   ·exact .inr (.inl hb)
   ·exact .inl (.inr hb)
   ·exact .inr (.inr hb)
  rcases hb' with hb' | hb'
  ·have hn:=hnew b hb';refine ⟨by omega,fun e=>?_⟩;rcases hlg' b e with h9 | h9
   ·have:=hlt b h9;omega
   ·omega
  ·have hi:=h.imm b (hsv b hb');have hil:=hIlt b (hsv b hb');refine ⟨hi.1,fun e=>?_⟩;rcases hlg' b e with h9 | h9
   ·exact hi.2 h9
   ·omega
 ·have c3:Chg (rowB lg) W1 w3:=Chg.grownO hg fun b hb=>.inl (mem_rowB.2 hb);have c4:Chg ([r]++rowB lg) w2 w3:=(c1.mono fun b hb=>List.mem_append.2 (.inl hb)).trans c3 fun b hb=>.inl (List.mem_append.2 (.inr hb));have c5:=(c4.trans (Chg.setCell (F:=[r]) w3 ⟨r,2,none⟩ lg' (by simp)) fun b hb=>.inl (by simp at hb;simp [hb])).trans (Chg.setCell (F:=[r]) _ ⟨r,4,none⟩ (.int .i64 (D.left - 1)) (by simp)) fun b hb=>.inl (by simp at hb;simp [hb]);exact Chg.from_ext x2 c5
 ·rcases List.mem_append.1 hb with hb | hb
  ·exact .inl (List.mem_append.2 (.inl hb))
  ·rcases hlg' b (mem_rowB.1 hb) with h9 | h9
   ·exact .inl (List.mem_append.2 (.inr (mem_rowB.2 h9)))
   ·exact .inr (by omega)
 ·simp only [List.mem_append,List.mem_cons,List.not_mem_nil,or_false,mem_rowB] at hb;rcases hb with ((hb | hb) | hb) | hb
  ·exact .inr (by omega)
  ·exact .inl (hsv b (.inl hb))
  ·exact .inr (hv5 b hb)
  ·exact .inl (hsv b (.inr hb))
end
section
theorem row7_shape {w:World} {base n k:Nat} {e:TypeId} {v:Value} {xs:List Value} (h:w.ownsRow base e k v n xs):∃ (a:Option Addr) (cap:Nat),v=.slice a n cap:=by
 obtain ⟨a,cap,h1,_⟩:=row5_shape h;exact ⟨a,cap,h1⟩
def NextVal (w:World) (room:Nat) (R:Int×Nodes) (pv:Value) (w':World):Prop :=
 Ext w w'/\((R.1=0/\∃ t v,pv=.pointer (some ⟨t,0,none⟩)/\RTreeAt w' t v R.2 room/\w.heap.size<=t/\∀ b,v.ownBlock=some b->w.heap.size<=b)\/(R.1≠0/\pv=.pointer none))
theorem NextPost.val {w w':World} {room:Nat} {R:Int×Nodes} {e:Ending} (h:NextPost w room R e w'):∃ pv,e=.returned (.tuple #[pv,.int .i64 R.1])/\NextVal w room R pv w':=by
 obtain ⟨x,⟨h0,t,v,rfl,h1,h2,h3⟩ | ⟨hn,rfl⟩⟩:=h
 ·exact ⟨_,by rw [h0],x,.inl ⟨h0,t,v,rfl,h1,h2,h3⟩⟩
 ·exact ⟨_,rfl,x,.inr ⟨hn,rfl⟩⟩
theorem rdo_push {w w4 W5 W1 w3:World} {r lt ls t5 nl:Nat} {lv sv lg v5 lg':Value} {D:Dk} {l:Nodes} {x:RE} {res:List RE} {R:Int×Dk} (h:RkIn w r lt ls lv sv lg D) (hr:res.map RE.eff=D.log/\∀ x∈res,REOk x) (hl:w.ownsRow 0 163 7 lg nl (rows7 res)) (hnl:nl=D.log.length)
  (x4:Ext w w4) (T5:RTreeAt w4 t5 v5 l D.room) (hg5:w.heap.size<=t5/\∀ b,v5.ownBlock=some b->w.heap.size<=b) (hx:REOk x) (hW:W5=w4.setCell ⟨r,0,none⟩ (.pointer (some ⟨t5,0,none⟩)))
  (hb5:W5.heap[r]?=some (.cells #[.pointer (some ⟨t5,0,none⟩),.pointer (some ⟨ls,0,none⟩),lg,.bool D.fused,.int .i64 D.left] 160 (0,0))) (x1:Ext W5 W1)
  (hown:w3.ownsRow 0 163 7 lg' (nl+1) (rows7 res++cells7 x)) (hg:W1.grownBy w3 lg.ownBlock) (hw:lg'.ownBlock=lg.ownBlock\/lg'.ownBlock=some W1.heap.size)
  (hR:R=(0,{ D with live:=l,log:=D.log++[x.eff],left:=D.left - 1 })) :
  w3.heap[r]?=some (.cells #[.pointer (some ⟨t5,0,none⟩),.pointer (some ⟨ls,0,none⟩),lg,.bool D.fused,.int .i64 D.left] 160 (0,0)) /\
  RkPost w r ([r]++rowB lg) ([lt,ls]++rowB lv++rowB sv) R (.returned (.int .i64 0)) ((w3.setCell ⟨r,2,none⟩ lg').setCell ⟨r,4,none⟩ (.int .i64 (D.left - 1))):=by
 subst hnl;have hl5:=ltB hb5;have hs:=x1.size;have hb1:=(x1.block hl5).trans hb5;refine ⟨(hg.block r (by omega) (Ne.symm h.rlg)).trans hb1,rdo_end h hr hl x4 T5 hg5.1 hg5.2 hx ?_ hb1 hown hg hw hR⟩;have c:Chg [r] w4 W5:=hW▸Chg.setCell w4 ⟨r,0,none⟩ _ (by simp);exact c.trans_ext x1
structure DoFit (D:Dk):Prop where
 ok:DkOk D
 file:FileOk D.live
 len:D.log.length<=1073741824
 lo:-4611686018427387904<=D.left
 hi:D.left<=9223372036854775807
set_option maxRecDepth 100000 in
set_option maxHeartbeats 8000000 in
theorem rdo_1 {w:World} {r:Nat} {M I:List Nat} {D:Dk} (h:RkAt w r M I D) (O:DoFit D) (p q data:ByteArray) (tm:Int) (hp:p.size<=4294967200) (hd:data.size<=1048576) :
  Calls prog 97 #[.pointer (some ⟨r,0,none⟩),.agg #[.int .i64 1,.string p,.string q,.string data,.int .i64 tm,.int .i64 0,.bool false]] w (RkPost w r M I (D.act (.write p data tm))):=by
 obtain ⟨E,hE⟩:∃ E:Eff,E=.write p data tm:=⟨_,rfl⟩;have HEE:=lh hE;rw [<-hE];clear hE;have HREO:=lh (show REOk ⟨1,p,q,data,tm⟩ from ⟨by show (1:Int)<=1;decide,by show (1:Int)<=6;decide,hd⟩);have HOff:=lh (act_off D E);have HMay:=lh (act_may D E);have HRgt:=lh (act_right D E);have HEf:=lh (act_eff D E);have HPs:=lh (show E.paths.all mayB=mayB p from by rw [HEE.out];simp [Eff.paths]);have HD:=lh h;have HOf:=fun w' (x:Ext w w')=>lh (roff_any r M I D w' (h.ext x) O.ok.left);have HMp:=fun w'=>lh (refMay_any p w' (by omega));have HRr:=lh (show E.right=clockB tm from by rw [HEE.out];rfl);have HCk:=lh (show clockB tm=(decide (0<=tm)&&decide (tm<=4294967295)) from rfl);obtain ⟨N,hN⟩:∃ N,N=effE D.live D.room full E:=⟨_,rfl⟩;rw [<-hN] at HEf;have hO1:=O.len;have hO2:=O.lo;have hO3:=O.hi;obtain ⟨lt,ls,lv,sv,lg,h,hM,hI⟩:=h
 have HNx:=fun h1 w' (x:Ext w w')=>lh (show Calls prog 102 #[.pointer (some ⟨lt,0,none⟩),.agg #[.int .i64 1,.string p,.string q,.string data,.int .i64 tm,.int .i64 0,.bool false]] w' (NextPost w' D.room N) from by
  have:=rnext_k1 lt lv D.live D.room p q data tm 0 false full w' (h.live.ext x) O.ok.live O.ok.r2 h1 hd (dataC_full hd 0)
  rw [hN,HEE.out];exact this)
 have HIn:=lh h;have HM:=lh hM;have HI:=lh hI;obtain ⟨res,hres,hlog⟩:=h.log;obtain ⟨oa,ocap,rfl⟩:=row7_shape hlog;obtain ⟨nl,hnl⟩:∃ nl,nl=D.log.length:=⟨_,rfl⟩;have HNl:=lh hnl;have HRes:=lh hres;rw [<-hnl] at hlog hO1 HIn HM;have HLog:=lh hlog;have hrl:=ltB h.blk;have HBX:=lh (show ∀ W,Ext (w.alloc (.cells #[.int .i64 1,.string p,.string q,.string data,.int .i64 tm,.int .i64 0,.bool false] 163 (0,0))) W->W.heap[w.heap.size]?=some (.cells #[.int .i64 1,.string p,.string q,.string data,.int .i64 tm,.int .i64 0,.bool false] 163 (0,0)) from fun W x=>(x.block (by rw [size_alloc];omega)).trans (block_alloc_new _ _));have HX1:=lh ((Ext.refl w).alloc (.cells #[.int .i64 1,.string p,.string q,.string data,.int .i64 tm,.int .i64 0,.bool false] 163 (0,0)));have HY1:=lh (Ext.refl (w.alloc (.cells #[.int .i64 1,.string p,.string q,.string data,.int .i64 tm,.int .i64 0,.bool false] 163 (0,0))));clear h hM hI hlog hres hnl hN O;generalize hRR:D.act E=R at *;clear hRR
 cases hoff:D.off with
 | true =>
  rw [hoff] at HOf;have HR:=lh (HOff.out hoff);clear HMay HRgt HEf HRr HNx HMp HPs hoff HOff;go_enter func97,ntmps97;go_wp2_with fail;refine (HOf _ HX1.out).out.mono ?_;rintro e w1 ⟨rfl,hw⟩;obtain rfl:=hw.symm;clear hw HOf;go_wp2_with fail;go_ret;exact RkPost.still HD.out HX1.out HR.out
 | false =>
  rw [hoff] at HOf;have HMay2:=lh (HMay.out hoff);have HRgt2:=lh (HRgt.out hoff);have HEf2:=lh (HEf.out hoff);clear HMay HRgt HEf HOff hoff;have HXc:=HX1;have HYc:=HY1;have b1:=cellB (k:=1) (HBX.out _ HYc.out)
  cases hmp:mayB p with
  | false =>
   rw [hmp] at HMp;have HR:=lh (HMay2.out (by simp [HPs.out,hmp]));clear HMay2 HRgt2 HEf2 HRr HNx HPs hmp;go_enter func97,ntmps97;go_wp2_with fail;refine (HOf _ HX1.out).out.mono ?_;rintro e w1 ⟨rfl,hw⟩;obtain rfl:=hw.symm;clear hw HOf;go_wp2_with fail;refine (HMp _).out.mono ?_;rintro e w2 ⟨rfl,x2⟩;have HXc:=lh (HX1.out.trans x2);have HYc:=lh (HY1.out.trans x2);clear x2 HMp;go_wp2_with fail;go_ret;exact RkPost.still HD.out HXc.out HR.out
  | true =>
   rw [hmp] at HMp;have HPt:=lh (show E.paths.all mayB=true from by rw [HPs.out,hmp]);have HNx:=HNx hmp;clear HMay2 HPs hmp;go_enter func97,ntmps97;go_wp2_with fail;refine (HOf _ HX1.out).out.mono ?_;rintro e w1 ⟨rfl,hw⟩;obtain rfl:=hw.symm;clear hw HOf;go_wp2_with fail;refine (HMp _).out.mono ?_;rintro e w2 ⟨rfl,x2⟩;have HXc:=lh (HX1.out.trans x2);have HYc:=lh (HY1.out.trans x2);clear x2 HMp b1;have b0:=cellB (k:=0) (HBX.out _ HYc.out);have b4:=cellB (k:=4) (HBX.out _ HYc.out);by_cases h1:tm<0
   ·have d1:decide (tm<0)=true:=decide_eq_true h1;have HR:=lh (HRgt2.out HPt.out (by rw [HRr.out,HCk.out,decide_eq_false (show ¬ 0<=tm from by omega)];rfl));clear HRgt2 HEf2 HPt HRr HCk h1 HNx;go_wp2_with fail;go_ret;exact RkPost.still HD.out HXc.out HR.out
   ·have d1:decide (tm<0)=false:=decide_eq_false h1;by_cases h2:4294967295<tm
    ·have d2:decide (4294967295<tm)=true:=decide_eq_true h2;have HR:=lh (HRgt2.out HPt.out (by rw [HRr.out,HCk.out,decide_eq_false (show ¬ tm<=4294967295 from by omega),Bool.and_false]));clear HRgt2 HEf2 HPt HRr HCk h2 HNx;go_wp2_with fail;go_ret;exact RkPost.still HD.out HXc.out HR.out
    ·have d2:decide (4294967295<tm)=false:=decide_eq_false h2;have HCk2:=lh (show clockB tm=true from by rw [HCk.out,decide_eq_true (show 0<=tm from by omega),decide_eq_true (show tm<=4294967295 from by omega)];rfl);clear h1 h2 HCk;have HR:=lh (HEf2.out HPt.out (HRr.out.trans HCk2.out));clear HRgt2 HEf2 HPt HRr;have hb3:=(HXc.out.block hrl).trans HIn.out.blk;have hbx:=HBX.out _ HYc.out;have c0:=cellB (k:=0) hb3;have b0:=cellB (k:=0) hbx;have b1:=cellB (k:=1) hbx;have b2:=cellB (k:=2) hbx;have b3:=cellB (k:=3) hbx;have b4:=cellB (k:=4) hbx;have b5:=cellB (k:=5) hbx;have b6:=cellB (k:=6) hbx;have HRx:=lh hb3;have HBo:=lh hbx;clear hb3 hbx;go_wp2_with fail;obtain ⟨wq,hwq⟩:∃ x,x=w2:=⟨_,rfl⟩;rw [<-hwq] at c0 b0 b1 b2 b3 b4 b5 b6 HRx HBo HXc ⊢;clear hwq;have HN1:=lh ((HNx _ (HXc.out.drew)).out.mono fun _ _ h=>NextPost.val h)
     have HS:=lh (show ∀ w',Ext wq.drew w'->w'.cell? ⟨r,0,none⟩=some (.pointer (some ⟨lt,0,none⟩))/\w'.cell? ⟨w.heap.size,0,none⟩=some (.int .i64 1)/\w'.cell? ⟨w.heap.size,1,none⟩=some (.string p)/\w'.cell? ⟨w.heap.size,2,none⟩=some (.string q)/\w'.cell? ⟨w.heap.size,3,none⟩=some (.string data)/\w'.cell? ⟨w.heap.size,4,none⟩=some (.int .i64 tm)/\w'.cell? ⟨w.heap.size,5,none⟩=some (.int .i64 0)/\w'.cell? ⟨w.heap.size,6,none⟩=some (.bool false) from fun w' x=>by
      have hr:=(x.block (ltB HRx.out)).trans HRx.out;have hb:=(x.block (ltB HBo.out)).trans HBo.out
      exact ⟨cellB (k:=0) hr,cellB (k:=0) hb,cellB (k:=1) hb,cellB (k:=2) hb,cellB (k:=3) hb,cellB (k:=4) hb,cellB (k:=5) hb,cellB (k:=6) hb⟩)
     go_region_held (fun w'=>w'.cell? ⟨r,0,none⟩=some (.pointer (some ⟨lt,0,none⟩))/\w'.cell? ⟨w.heap.size,0,none⟩=some (.int .i64 1)/\w'.cell? ⟨w.heap.size,1,none⟩=some (.string p)/\w'.cell? ⟨w.heap.size,2,none⟩=some (.string q)/\w'.cell? ⟨w.heap.size,3,none⟩=some (.string data)/\w'.cell? ⟨w.heap.size,4,none⟩=some (.int .i64 tm)/\w'.cell? ⟨w.heap.size,5,none⟩=some (.int .i64 0)/\w'.cell? ⟨w.heap.size,6,none⟩=some (.bool false)) (first | exact HS.out _ (Ext.refl _) | exact HS.out _ (by assumption)) ((go_at_call 102;refine HN1.out.mono ?_;rintro e w4 ⟨pv,rfl,x4,h4⟩));have HR4:=lh ((x4.block (ltB HRx.out)).trans HRx.out);have HB4:=lh ((x4.block (ltB HBo.out)).trans HBo.out);have HX4:=lh (HXc.out.drew.trans x4);have hzy:=HXc.out.drew.size;clear c0 b0 b1 b2 b3 b4 b5 b6 HRx HBo HXc HN1 HS x4 HNx HYc;rcases h4 with ⟨he0,t5,v5,rfl,ht5,hg5,hv5⟩ | ⟨hne,rfl⟩
     ·have HR2:=lh (HR.out.trans (if_pos he0));have HT5:=lh ht5;have HG5:=lh (show w.heap.size<=t5/\∀ b,v5.ownBlock=some b->w.heap.size<=b from ⟨Nat.le_trans hzy hg5,fun b hb=>Nat.le_trans hzy (hv5 b hb)⟩);have c0:=cellB (k:=0) HR4.out;have f0:=frozenB (k:=0) HR4.out;have hl4:=ltB HR4.out;have hn1:(N.1==0)=true:=by rw [he0];rfl
      have hn2:(!(N.1==0))=false:=by rw [hn1];rfl
      clear ht5 hg5 hv5 HR he0 hzy;go_wp2_with fail;obtain ⟨W5,hW5⟩:∃ W5,W5=w4.setCell ⟨r,0,none⟩ (.pointer (some ⟨t5,0,none⟩)):=⟨_,rfl⟩;have HW5:=lh hW5;have hb5:W5.heap[r]?=some (.cells #[.pointer (some ⟨t5,0,none⟩),.pointer (some ⟨ls,0,none⟩),.slice oa nl ocap,.bool D.fused,.int .i64 D.left] 160 (0,0)):=by rw [hW5,setCellB HR4.out];rfl
      have hx5:W5.heap[w.heap.size]?=some (.cells #[.int .i64 1,.string p,.string q,.string data,.int .i64 tm,.int .i64 0,.bool false] 163 (0,0)):=by rw [hW5];exact (setCellO (by omega)).trans HB4.out
      have HR5:=lh hb5;have HB5:=lh hx5;rw [<-hW5];clear hW5 c0 f0 hl4;have c2:=cellB (k:=2) hb5;have b0:=cellB (k:=0) hx5;have b1:=cellB (k:=1) hx5;have b2:=cellB (k:=2) hx5;have b3:=cellB (k:=3) hx5;have b4:=cellB (k:=4) hx5;have b5:=cellB (k:=5) hx5;have b6:=cellB (k:=6) hx5;have hl5:=ltB hb5;have hl6:=ltB hx5;clear hb5 hx5
      have HLo:=lh (show W5.ownsRow 0 163 7 (.slice oa nl ocap) nl (rows7 res) from owns_blocks HLog.out fun b hb=>by
       rw [HW5.out]
       exact (setCellO (fun e=>HIn.out.rlg (by rw [<-e];exact hb))).trans (HX4.out.block (own_lt HLog.out b hb)))
      go_wp2_with fail
      go_region_law
       (have hel:=elEff
        have hs2:=owns_ext HLo.out (((Ext.refl W5).alloc (.cells #[.int .i64 1,.string p,.string q,.string data,.int .i64 tm,.int .i64 0,.bool false] 163)).drew);refine step_append_k hel 0 _ _ _ hs2 W5.heap.size [.int .i64 1,.string p,.string q,.string data,.int .i64 tm,.int .i64 0,.bool false] rfl (.tmp 98) (.tmp 100) ?_ ?_ ?_ ?_ ?_ ?_ ?_ ?_ ?_
        ·rfl
        ·rfl
        ·simp [Act.eval]
        ·simp [Act.eval]
        ·intro j u hj;exact (cellB (heap_new_drew rfl)).trans (by simpa using hj)
        ·intro u hu;simp only [List.mem_cons,List.not_mem_nil,or_false] at hu;rcases hu with rfl | rfl | rfl | rfl | rfl | rfl | rfl <;> rfl
        ·omega
        ·omega
        intro v' w3 hown3 hgr3 hrow3 hwh3;obtain ⟨g3,cap3,rfl,_⟩:=hrow3;have hpu:=rdo_push (x:=⟨1,p,q,data,tm⟩) HIn.out HRes.out HLog.out HNl.out HX4.out HT5.out HG5.out HREO.out HW5.out HR5.out (W1:=_) (((Ext.refl W5).alloc _).drew) hown3 hgr3 hwh3 rfl;have hb6:=hpu.1;have HEnd:=lh hpu.2;have k2:=cellB (k:=2) hb6;have f2:=frozenB (k:=2) hb6;have HB6:=lh hb6
        clear hown3 hgr3 hwh3 hb6 hpu)
      all_goals
       have hb7:(w3.setCell ⟨r,2,none⟩ (.slice (some ⟨g3,0,none⟩) (nl+1) cap3)).heap[r]?=some (.cells #[.pointer (some ⟨t5,0,none⟩),.pointer (some ⟨ls,0,none⟩),.slice (some ⟨g3,0,none⟩) (nl+1) cap3,.bool D.fused,.int .i64 D.left] 160 (0,0)):=by rw [setCellB HB6.out];rfl
       have k4:=cellB (k:=4) hb7;have f4:=frozenB (k:=4) hb7;clear hb7;go_wp2_with fail;go_ret;rw [HM.out,HI.out,HR2.out,HEE.out];exact HEnd.out
     ·have HR2:=lh (HR.out.trans (if_neg hne));have hne1:(N.1==0)=false:=by rw [beq_eq_false_iff_ne];exact hne
      have hne2:(!(N.1==0))=true:=by rw [hne1];rfl
      clear hne HR;go_wp2_with fail;go_ret;exact RkPost.still HD.out HX4.out HR2.out
set_option maxRecDepth 100000 in
set_option maxHeartbeats 8000000 in
theorem rdo_3 {w:World} {r:Nat} {M I:List Nat} {D:Dk} (h:RkAt w r M I D) (O:DoFit D) (p q data:ByteArray) (tm:Int) (hp:p.size<=4294967200) (hd:data.size<=1048576) :
  Calls prog 97 #[.pointer (some ⟨r,0,none⟩),.agg #[.int .i64 3,.string p,.string q,.string data,.int .i64 tm,.int .i64 0,.bool false]] w (RkPost w r M I (D.act (.mkdir p))):=by
 obtain ⟨E,hE⟩:∃ E:Eff,E=.mkdir p:=⟨_,rfl⟩;have HEE:=lh hE;rw [<-hE];clear hE;have HREO:=lh (show REOk ⟨3,p,q,data,tm⟩ from ⟨by show (1:Int)<=3;decide,by show (3:Int)<=6;decide,hd⟩);have HOff:=lh (act_off D E);have HMay:=lh (act_may D E);have HRgt:=lh (act_right D E);have HEf:=lh (act_eff D E);have HPs:=lh (show E.paths.all mayB=mayB p from by rw [HEE.out];simp [Eff.paths]);have HD:=lh h;have HOf:=fun w' (x:Ext w w')=>lh (roff_any r M I D w' (h.ext x) O.ok.left);have HMp:=fun w'=>lh (refMay_any p w' (by omega));have HRr:=lh (show E.right=true from by rw [HEE.out];rfl);obtain ⟨N,hN⟩:∃ N,N=effE D.live D.room full E:=⟨_,rfl⟩;rw [<-hN] at HEf;have hO1:=O.len;have hO2:=O.lo;have hO3:=O.hi;obtain ⟨lt,ls,lv,sv,lg,h,hM,hI⟩:=h
 have HNx:=fun h1 w' (x:Ext w w')=>lh (show Calls prog 102 #[.pointer (some ⟨lt,0,none⟩),.agg #[.int .i64 3,.string p,.string q,.string data,.int .i64 tm,.int .i64 0,.bool false]] w' (NextPost w' D.room N) from by
  have:=rnext_k3 lt lv D.live D.room p q data tm 0 false full w' (h.live.ext x) O.ok.live O.ok.r2 h1 hd
  rw [hN,HEE.out];exact this)
 have HIn:=lh h;have HM:=lh hM;have HI:=lh hI;obtain ⟨res,hres,hlog⟩:=h.log;obtain ⟨oa,ocap,rfl⟩:=row7_shape hlog;obtain ⟨nl,hnl⟩:∃ nl,nl=D.log.length:=⟨_,rfl⟩;have HNl:=lh hnl;have HRes:=lh hres;rw [<-hnl] at hlog hO1 HIn HM;have HLog:=lh hlog;have hrl:=ltB h.blk;have HBX:=lh (show ∀ W,Ext (w.alloc (.cells #[.int .i64 3,.string p,.string q,.string data,.int .i64 tm,.int .i64 0,.bool false] 163 (0,0))) W->W.heap[w.heap.size]?=some (.cells #[.int .i64 3,.string p,.string q,.string data,.int .i64 tm,.int .i64 0,.bool false] 163 (0,0)) from fun W x=>(x.block (by rw [size_alloc];omega)).trans (block_alloc_new _ _));have HX1:=lh ((Ext.refl w).alloc (.cells #[.int .i64 3,.string p,.string q,.string data,.int .i64 tm,.int .i64 0,.bool false] 163 (0,0)));have HY1:=lh (Ext.refl (w.alloc (.cells #[.int .i64 3,.string p,.string q,.string data,.int .i64 tm,.int .i64 0,.bool false] 163 (0,0))));clear h hM hI hlog hres hnl hN O;generalize hRR:D.act E=R at *;clear hRR
 cases hoff:D.off with
 | true =>
  rw [hoff] at HOf;have HR:=lh (HOff.out hoff);clear HMay HRgt HEf HRr HNx HMp HPs hoff HOff;go_enter func97,ntmps97;go_wp2_with fail;refine (HOf _ HX1.out).out.mono ?_;rintro e w1 ⟨rfl,hw⟩;obtain rfl:=hw.symm;clear hw HOf;go_wp2_with fail;go_ret;exact RkPost.still HD.out HX1.out HR.out
 | false =>
  rw [hoff] at HOf;have HMay2:=lh (HMay.out hoff);have HRgt2:=lh (HRgt.out hoff);have HEf2:=lh (HEf.out hoff);clear HMay HRgt HEf HOff hoff;have HXc:=HX1;have HYc:=HY1;have b1:=cellB (k:=1) (HBX.out _ HYc.out)
  cases hmp:mayB p with
  | false =>
   rw [hmp] at HMp;have HR:=lh (HMay2.out (by simp [HPs.out,hmp]));clear HMay2 HRgt2 HEf2 HRr HNx HPs hmp;go_enter func97,ntmps97;go_wp2_with fail;refine (HOf _ HX1.out).out.mono ?_;rintro e w1 ⟨rfl,hw⟩;obtain rfl:=hw.symm;clear hw HOf;go_wp2_with fail;refine (HMp _).out.mono ?_;rintro e w2 ⟨rfl,x2⟩;have HXc:=lh (HX1.out.trans x2);have HYc:=lh (HY1.out.trans x2);clear x2 HMp;go_wp2_with fail;go_ret;exact RkPost.still HD.out HXc.out HR.out
  | true =>
   rw [hmp] at HMp;have HPt:=lh (show E.paths.all mayB=true from by rw [HPs.out,hmp]);have HNx:=HNx hmp;clear HMay2 HPs hmp;go_enter func97,ntmps97;go_wp2_with fail;refine (HOf _ HX1.out).out.mono ?_;rintro e w1 ⟨rfl,hw⟩;obtain rfl:=hw.symm;clear hw HOf;go_wp2_with fail;refine (HMp _).out.mono ?_;rintro e w2 ⟨rfl,x2⟩;have HXc:=lh (HX1.out.trans x2);have HYc:=lh (HY1.out.trans x2);clear x2 HMp b1;have b0:=cellB (k:=0) (HBX.out _ HYc.out);have HR:=lh (HEf2.out HPt.out HRr.out);clear HRgt2 HEf2 HPt HRr;have hb3:=(HXc.out.block hrl).trans HIn.out.blk;have hbx:=HBX.out _ HYc.out;have c0:=cellB (k:=0) hb3;have b0:=cellB (k:=0) hbx;have b1:=cellB (k:=1) hbx;have b2:=cellB (k:=2) hbx;have b3:=cellB (k:=3) hbx;have b4:=cellB (k:=4) hbx;have b5:=cellB (k:=5) hbx;have b6:=cellB (k:=6) hbx;have HRx:=lh hb3;have HBo:=lh hbx;clear hb3 hbx;go_wp2_with fail;obtain ⟨wq,hwq⟩:∃ x,x=w2:=⟨_,rfl⟩;rw [<-hwq] at c0 b0 b1 b2 b3 b4 b5 b6 HRx HBo HXc ⊢;clear hwq;have HN1:=lh ((HNx _ (HXc.out.drew)).out.mono fun _ _ h=>NextPost.val h)
   have HS:=lh (show ∀ w',Ext wq.drew w'->w'.cell? ⟨r,0,none⟩=some (.pointer (some ⟨lt,0,none⟩))/\w'.cell? ⟨w.heap.size,0,none⟩=some (.int .i64 3)/\w'.cell? ⟨w.heap.size,1,none⟩=some (.string p)/\w'.cell? ⟨w.heap.size,2,none⟩=some (.string q)/\w'.cell? ⟨w.heap.size,3,none⟩=some (.string data)/\w'.cell? ⟨w.heap.size,4,none⟩=some (.int .i64 tm)/\w'.cell? ⟨w.heap.size,5,none⟩=some (.int .i64 0)/\w'.cell? ⟨w.heap.size,6,none⟩=some (.bool false) from fun w' x=>by
    have hr:=(x.block (ltB HRx.out)).trans HRx.out;have hb:=(x.block (ltB HBo.out)).trans HBo.out
    exact ⟨cellB (k:=0) hr,cellB (k:=0) hb,cellB (k:=1) hb,cellB (k:=2) hb,cellB (k:=3) hb,cellB (k:=4) hb,cellB (k:=5) hb,cellB (k:=6) hb⟩)
   go_region_held (fun w'=>w'.cell? ⟨r,0,none⟩=some (.pointer (some ⟨lt,0,none⟩))/\w'.cell? ⟨w.heap.size,0,none⟩=some (.int .i64 3)/\w'.cell? ⟨w.heap.size,1,none⟩=some (.string p)/\w'.cell? ⟨w.heap.size,2,none⟩=some (.string q)/\w'.cell? ⟨w.heap.size,3,none⟩=some (.string data)/\w'.cell? ⟨w.heap.size,4,none⟩=some (.int .i64 tm)/\w'.cell? ⟨w.heap.size,5,none⟩=some (.int .i64 0)/\w'.cell? ⟨w.heap.size,6,none⟩=some (.bool false)) (first | exact HS.out _ (Ext.refl _) | exact HS.out _ (by assumption)) ((go_at_call 102;refine HN1.out.mono ?_;rintro e w4 ⟨pv,rfl,x4,h4⟩));have HR4:=lh ((x4.block (ltB HRx.out)).trans HRx.out);have HB4:=lh ((x4.block (ltB HBo.out)).trans HBo.out);have HX4:=lh (HXc.out.drew.trans x4);have hzy:=HXc.out.drew.size;clear c0 b0 b1 b2 b3 b4 b5 b6 HRx HBo HXc HN1 HS x4 HNx HYc;rcases h4 with ⟨he0,t5,v5,rfl,ht5,hg5,hv5⟩ | ⟨hne,rfl⟩
   ·have HR2:=lh (HR.out.trans (if_pos he0));have HT5:=lh ht5;have HG5:=lh (show w.heap.size<=t5/\∀ b,v5.ownBlock=some b->w.heap.size<=b from ⟨Nat.le_trans hzy hg5,fun b hb=>Nat.le_trans hzy (hv5 b hb)⟩);have c0:=cellB (k:=0) HR4.out;have f0:=frozenB (k:=0) HR4.out;have hl4:=ltB HR4.out;have hn1:(N.1==0)=true:=by rw [he0];rfl
    have hn2:(!(N.1==0))=false:=by rw [hn1];rfl
    clear ht5 hg5 hv5 HR he0 hzy;go_wp2_with fail;obtain ⟨W5,hW5⟩:∃ W5,W5=w4.setCell ⟨r,0,none⟩ (.pointer (some ⟨t5,0,none⟩)):=⟨_,rfl⟩;have HW5:=lh hW5;have hb5:W5.heap[r]?=some (.cells #[.pointer (some ⟨t5,0,none⟩),.pointer (some ⟨ls,0,none⟩),.slice oa nl ocap,.bool D.fused,.int .i64 D.left] 160 (0,0)):=by rw [hW5,setCellB HR4.out];rfl
    have hx5:W5.heap[w.heap.size]?=some (.cells #[.int .i64 3,.string p,.string q,.string data,.int .i64 tm,.int .i64 0,.bool false] 163 (0,0)):=by rw [hW5];exact (setCellO (by omega)).trans HB4.out
    have HR5:=lh hb5;have HB5:=lh hx5;rw [<-hW5];clear hW5 c0 f0 hl4;have c2:=cellB (k:=2) hb5;have b0:=cellB (k:=0) hx5;have b1:=cellB (k:=1) hx5;have b2:=cellB (k:=2) hx5;have b3:=cellB (k:=3) hx5;have b4:=cellB (k:=4) hx5;have b5:=cellB (k:=5) hx5;have b6:=cellB (k:=6) hx5;have hl5:=ltB hb5;have hl6:=ltB hx5;clear hb5 hx5
    have HLo:=lh (show W5.ownsRow 0 163 7 (.slice oa nl ocap) nl (rows7 res) from owns_blocks HLog.out fun b hb=>by
     rw [HW5.out]
     exact (setCellO (fun e=>HIn.out.rlg (by rw [<-e];exact hb))).trans (HX4.out.block (own_lt HLog.out b hb)))
    go_wp2_with fail
    go_region_law
     (have hel:=elEff
      have hs2:=owns_ext HLo.out (((Ext.refl W5).alloc (.cells #[.int .i64 3,.string p,.string q,.string data,.int .i64 tm,.int .i64 0,.bool false] 163)).drew);refine step_append_k hel 0 _ _ _ hs2 W5.heap.size [.int .i64 3,.string p,.string q,.string data,.int .i64 tm,.int .i64 0,.bool false] rfl (.tmp 98) (.tmp 100) ?_ ?_ ?_ ?_ ?_ ?_ ?_ ?_ ?_
      ·rfl
      ·rfl
      ·simp [Act.eval]
      ·simp [Act.eval]
      ·intro j u hj;exact (cellB (heap_new_drew rfl)).trans (by simpa using hj)
      ·intro u hu;simp only [List.mem_cons,List.not_mem_nil,or_false] at hu;rcases hu with rfl | rfl | rfl | rfl | rfl | rfl | rfl <;> rfl
      ·omega
      ·omega
      intro v' w3 hown3 hgr3 hrow3 hwh3;obtain ⟨g3,cap3,rfl,_⟩:=hrow3;have hpu:=rdo_push (x:=⟨3,p,q,data,tm⟩) HIn.out HRes.out HLog.out HNl.out HX4.out HT5.out HG5.out HREO.out HW5.out HR5.out (W1:=_) (((Ext.refl W5).alloc _).drew) hown3 hgr3 hwh3 rfl;have hb6:=hpu.1;have HEnd:=lh hpu.2;have k2:=cellB (k:=2) hb6;have f2:=frozenB (k:=2) hb6;have HB6:=lh hb6
      clear hown3 hgr3 hwh3 hb6 hpu)
    all_goals
     have hb7:(w3.setCell ⟨r,2,none⟩ (.slice (some ⟨g3,0,none⟩) (nl+1) cap3)).heap[r]?=some (.cells #[.pointer (some ⟨t5,0,none⟩),.pointer (some ⟨ls,0,none⟩),.slice (some ⟨g3,0,none⟩) (nl+1) cap3,.bool D.fused,.int .i64 D.left] 160 (0,0)):=by rw [setCellB HB6.out];rfl
     have k4:=cellB (k:=4) hb7;have f4:=frozenB (k:=4) hb7;clear hb7;go_wp2_with fail;go_ret;rw [HM.out,HI.out,HR2.out,HEE.out];exact HEnd.out
   ·have HR2:=lh (HR.out.trans (if_neg hne));have hne1:(N.1==0)=false:=by rw [beq_eq_false_iff_ne];exact hne
    have hne2:(!(N.1==0))=true:=by rw [hne1];rfl
    clear hne HR;go_wp2_with fail;go_ret;exact RkPost.still HD.out HX4.out HR2.out
set_option maxRecDepth 100000 in
set_option maxHeartbeats 8000000 in
theorem rdo_6 {w:World} {r:Nat} {M I:List Nat} {D:Dk} (h:RkAt w r M I D) (O:DoFit D) (p q data:ByteArray) (tm:Int) (hp:p.size<=4294967200) (hd:data.size<=1048576) :
  Calls prog 97 #[.pointer (some ⟨r,0,none⟩),.agg #[.int .i64 6,.string p,.string q,.string data,.int .i64 tm,.int .i64 0,.bool false]] w (RkPost w r M I (D.act (.remove p))):=by
 obtain ⟨E,hE⟩:∃ E:Eff,E=.remove p:=⟨_,rfl⟩;have HEE:=lh hE;rw [<-hE];clear hE;have HREO:=lh (show REOk ⟨6,p,q,data,tm⟩ from ⟨by show (1:Int)<=6;decide,by show (6:Int)<=6;decide,hd⟩);have HOff:=lh (act_off D E);have HMay:=lh (act_may D E);have HRgt:=lh (act_right D E);have HEf:=lh (act_eff D E);have HPs:=lh (show E.paths.all mayB=mayB p from by rw [HEE.out];simp [Eff.paths]);have HD:=lh h;have HOf:=fun w' (x:Ext w w')=>lh (roff_any r M I D w' (h.ext x) O.ok.left);have HMp:=fun w'=>lh (refMay_any p w' (by omega));have HRr:=lh (show E.right=true from by rw [HEE.out];rfl);obtain ⟨N,hN⟩:∃ N,N=effE D.live D.room full E:=⟨_,rfl⟩;rw [<-hN] at HEf;have hO1:=O.len;have hO2:=O.lo;have hO3:=O.hi;obtain ⟨lt,ls,lv,sv,lg,h,hM,hI⟩:=h
 have HNx:=fun h1 w' (x:Ext w w')=>lh (show Calls prog 102 #[.pointer (some ⟨lt,0,none⟩),.agg #[.int .i64 6,.string p,.string q,.string data,.int .i64 tm,.int .i64 0,.bool false]] w' (NextPost w' D.room N) from by
  have:=rnext_remove lt lv D.live D.room p q data tm 0 false w' (h.live.ext x) O.ok.live O.ok.r2 h1
  rw [hN,HEE.out];exact this)
 have HIn:=lh h;have HM:=lh hM;have HI:=lh hI;obtain ⟨res,hres,hlog⟩:=h.log;obtain ⟨oa,ocap,rfl⟩:=row7_shape hlog;obtain ⟨nl,hnl⟩:∃ nl,nl=D.log.length:=⟨_,rfl⟩;have HNl:=lh hnl;have HRes:=lh hres;rw [<-hnl] at hlog hO1 HIn HM;have HLog:=lh hlog;have hrl:=ltB h.blk;have HBX:=lh (show ∀ W,Ext (w.alloc (.cells #[.int .i64 6,.string p,.string q,.string data,.int .i64 tm,.int .i64 0,.bool false] 163 (0,0))) W->W.heap[w.heap.size]?=some (.cells #[.int .i64 6,.string p,.string q,.string data,.int .i64 tm,.int .i64 0,.bool false] 163 (0,0)) from fun W x=>(x.block (by rw [size_alloc];omega)).trans (block_alloc_new _ _));have HX1:=lh ((Ext.refl w).alloc (.cells #[.int .i64 6,.string p,.string q,.string data,.int .i64 tm,.int .i64 0,.bool false] 163 (0,0)));have HY1:=lh (Ext.refl (w.alloc (.cells #[.int .i64 6,.string p,.string q,.string data,.int .i64 tm,.int .i64 0,.bool false] 163 (0,0))));clear h hM hI hlog hres hnl hN O;generalize hRR:D.act E=R at *;clear hRR
 cases hoff:D.off with
 | true =>
  rw [hoff] at HOf;have HR:=lh (HOff.out hoff);clear HMay HRgt HEf HRr HNx HMp HPs hoff HOff;go_enter func97,ntmps97;go_wp2_with fail;refine (HOf _ HX1.out).out.mono ?_;rintro e w1 ⟨rfl,hw⟩;obtain rfl:=hw.symm;clear hw HOf;go_wp2_with fail;go_ret;exact RkPost.still HD.out HX1.out HR.out
 | false =>
  rw [hoff] at HOf;have HMay2:=lh (HMay.out hoff);have HRgt2:=lh (HRgt.out hoff);have HEf2:=lh (HEf.out hoff);clear HMay HRgt HEf HOff hoff;have HXc:=HX1;have HYc:=HY1;have b1:=cellB (k:=1) (HBX.out _ HYc.out)
  cases hmp:mayB p with
  | false =>
   rw [hmp] at HMp;have HR:=lh (HMay2.out (by simp [HPs.out,hmp]));clear HMay2 HRgt2 HEf2 HRr HNx HPs hmp;go_enter func97,ntmps97;go_wp2_with fail;refine (HOf _ HX1.out).out.mono ?_;rintro e w1 ⟨rfl,hw⟩;obtain rfl:=hw.symm;clear hw HOf;go_wp2_with fail;refine (HMp _).out.mono ?_;rintro e w2 ⟨rfl,x2⟩;have HXc:=lh (HX1.out.trans x2);have HYc:=lh (HY1.out.trans x2);clear x2 HMp;go_wp2_with fail;go_ret;exact RkPost.still HD.out HXc.out HR.out
  | true =>
   rw [hmp] at HMp;have HPt:=lh (show E.paths.all mayB=true from by rw [HPs.out,hmp]);have HNx:=HNx hmp;clear HMay2 HPs hmp;go_enter func97,ntmps97;go_wp2_with fail;refine (HOf _ HX1.out).out.mono ?_;rintro e w1 ⟨rfl,hw⟩;obtain rfl:=hw.symm;clear hw HOf;go_wp2_with fail;refine (HMp _).out.mono ?_;rintro e w2 ⟨rfl,x2⟩;have HXc:=lh (HX1.out.trans x2);have HYc:=lh (HY1.out.trans x2);clear x2 HMp b1;have b0:=cellB (k:=0) (HBX.out _ HYc.out);have HR:=lh (HEf2.out HPt.out HRr.out);clear HRgt2 HEf2 HPt HRr;have hb3:=(HXc.out.block hrl).trans HIn.out.blk;have hbx:=HBX.out _ HYc.out;have c0:=cellB (k:=0) hb3;have b0:=cellB (k:=0) hbx;have b1:=cellB (k:=1) hbx;have b2:=cellB (k:=2) hbx;have b3:=cellB (k:=3) hbx;have b4:=cellB (k:=4) hbx;have b5:=cellB (k:=5) hbx;have b6:=cellB (k:=6) hbx;have HRx:=lh hb3;have HBo:=lh hbx;clear hb3 hbx;go_wp2_with fail;obtain ⟨wq,hwq⟩:∃ x,x=w2:=⟨_,rfl⟩;rw [<-hwq] at c0 b0 b1 b2 b3 b4 b5 b6 HRx HBo HXc ⊢;clear hwq;have HN1:=lh ((HNx _ (HXc.out.drew)).out.mono fun _ _ h=>NextPost.val h)
   have HS:=lh (show ∀ w',Ext wq.drew w'->w'.cell? ⟨r,0,none⟩=some (.pointer (some ⟨lt,0,none⟩))/\w'.cell? ⟨w.heap.size,0,none⟩=some (.int .i64 6)/\w'.cell? ⟨w.heap.size,1,none⟩=some (.string p)/\w'.cell? ⟨w.heap.size,2,none⟩=some (.string q)/\w'.cell? ⟨w.heap.size,3,none⟩=some (.string data)/\w'.cell? ⟨w.heap.size,4,none⟩=some (.int .i64 tm)/\w'.cell? ⟨w.heap.size,5,none⟩=some (.int .i64 0)/\w'.cell? ⟨w.heap.size,6,none⟩=some (.bool false) from fun w' x=>by
    have hr:=(x.block (ltB HRx.out)).trans HRx.out;have hb:=(x.block (ltB HBo.out)).trans HBo.out
    exact ⟨cellB (k:=0) hr,cellB (k:=0) hb,cellB (k:=1) hb,cellB (k:=2) hb,cellB (k:=3) hb,cellB (k:=4) hb,cellB (k:=5) hb,cellB (k:=6) hb⟩)
   go_region_held (fun w'=>w'.cell? ⟨r,0,none⟩=some (.pointer (some ⟨lt,0,none⟩))/\w'.cell? ⟨w.heap.size,0,none⟩=some (.int .i64 6)/\w'.cell? ⟨w.heap.size,1,none⟩=some (.string p)/\w'.cell? ⟨w.heap.size,2,none⟩=some (.string q)/\w'.cell? ⟨w.heap.size,3,none⟩=some (.string data)/\w'.cell? ⟨w.heap.size,4,none⟩=some (.int .i64 tm)/\w'.cell? ⟨w.heap.size,5,none⟩=some (.int .i64 0)/\w'.cell? ⟨w.heap.size,6,none⟩=some (.bool false)) (first | exact HS.out _ (Ext.refl _) | exact HS.out _ (by assumption)) ((go_at_call 102;refine HN1.out.mono ?_;rintro e w4 ⟨pv,rfl,x4,h4⟩));have HR4:=lh ((x4.block (ltB HRx.out)).trans HRx.out);have HB4:=lh ((x4.block (ltB HBo.out)).trans HBo.out);have HX4:=lh (HXc.out.drew.trans x4);have hzy:=HXc.out.drew.size;clear c0 b0 b1 b2 b3 b4 b5 b6 HRx HBo HXc HN1 HS x4 HNx HYc;rcases h4 with ⟨he0,t5,v5,rfl,ht5,hg5,hv5⟩ | ⟨hne,rfl⟩
   ·have HR2:=lh (HR.out.trans (if_pos he0));have HT5:=lh ht5;have HG5:=lh (show w.heap.size<=t5/\∀ b,v5.ownBlock=some b->w.heap.size<=b from ⟨Nat.le_trans hzy hg5,fun b hb=>Nat.le_trans hzy (hv5 b hb)⟩);have c0:=cellB (k:=0) HR4.out;have f0:=frozenB (k:=0) HR4.out;have hl4:=ltB HR4.out;have hn1:(N.1==0)=true:=by rw [he0];rfl
    have hn2:(!(N.1==0))=false:=by rw [hn1];rfl
    clear ht5 hg5 hv5 HR he0 hzy;go_wp2_with fail;obtain ⟨W5,hW5⟩:∃ W5,W5=w4.setCell ⟨r,0,none⟩ (.pointer (some ⟨t5,0,none⟩)):=⟨_,rfl⟩;have HW5:=lh hW5;have hb5:W5.heap[r]?=some (.cells #[.pointer (some ⟨t5,0,none⟩),.pointer (some ⟨ls,0,none⟩),.slice oa nl ocap,.bool D.fused,.int .i64 D.left] 160 (0,0)):=by rw [hW5,setCellB HR4.out];rfl
    have hx5:W5.heap[w.heap.size]?=some (.cells #[.int .i64 6,.string p,.string q,.string data,.int .i64 tm,.int .i64 0,.bool false] 163 (0,0)):=by rw [hW5];exact (setCellO (by omega)).trans HB4.out
    have HR5:=lh hb5;have HB5:=lh hx5;rw [<-hW5];clear hW5 c0 f0 hl4;have c2:=cellB (k:=2) hb5;have b0:=cellB (k:=0) hx5;have b1:=cellB (k:=1) hx5;have b2:=cellB (k:=2) hx5;have b3:=cellB (k:=3) hx5;have b4:=cellB (k:=4) hx5;have b5:=cellB (k:=5) hx5;have b6:=cellB (k:=6) hx5;have hl5:=ltB hb5;have hl6:=ltB hx5;clear hb5 hx5
    have HLo:=lh (show W5.ownsRow 0 163 7 (.slice oa nl ocap) nl (rows7 res) from owns_blocks HLog.out fun b hb=>by
     rw [HW5.out]
     exact (setCellO (fun e=>HIn.out.rlg (by rw [<-e];exact hb))).trans (HX4.out.block (own_lt HLog.out b hb)))
    go_wp2_with fail
    go_region_law
     (have hel:=elEff
      have hs2:=owns_ext HLo.out (((Ext.refl W5).alloc (.cells #[.int .i64 6,.string p,.string q,.string data,.int .i64 tm,.int .i64 0,.bool false] 163)).drew);refine step_append_k hel 0 _ _ _ hs2 W5.heap.size [.int .i64 6,.string p,.string q,.string data,.int .i64 tm,.int .i64 0,.bool false] rfl (.tmp 98) (.tmp 100) ?_ ?_ ?_ ?_ ?_ ?_ ?_ ?_ ?_
      ·rfl
      ·rfl
      ·simp [Act.eval]
      ·simp [Act.eval]
      ·intro j u hj;exact (cellB (heap_new_drew rfl)).trans (by simpa using hj)
      ·intro u hu;simp only [List.mem_cons,List.not_mem_nil,or_false] at hu;rcases hu with rfl | rfl | rfl | rfl | rfl | rfl | rfl <;> rfl
      ·omega
      ·omega
      intro v' w3 hown3 hgr3 hrow3 hwh3;obtain ⟨g3,cap3,rfl,_⟩:=hrow3;have hpu:=rdo_push (x:=⟨6,p,q,data,tm⟩) HIn.out HRes.out HLog.out HNl.out HX4.out HT5.out HG5.out HREO.out HW5.out HR5.out (W1:=_) (((Ext.refl W5).alloc _).drew) hown3 hgr3 hwh3 rfl;have hb6:=hpu.1;have HEnd:=lh hpu.2;have k2:=cellB (k:=2) hb6;have f2:=frozenB (k:=2) hb6;have HB6:=lh hb6
      clear hown3 hgr3 hwh3 hb6 hpu)
    all_goals
     have hb7:(w3.setCell ⟨r,2,none⟩ (.slice (some ⟨g3,0,none⟩) (nl+1) cap3)).heap[r]?=some (.cells #[.pointer (some ⟨t5,0,none⟩),.pointer (some ⟨ls,0,none⟩),.slice (some ⟨g3,0,none⟩) (nl+1) cap3,.bool D.fused,.int .i64 D.left] 160 (0,0)):=by rw [setCellB HB6.out];rfl
     have k4:=cellB (k:=4) hb7;have f4:=frozenB (k:=4) hb7;clear hb7;go_wp2_with fail;go_ret;rw [HM.out,HI.out,HR2.out,HEE.out];exact HEnd.out
   ·have HR2:=lh (HR.out.trans (if_neg hne));have hne1:(N.1==0)=false:=by rw [beq_eq_false_iff_ne];exact hne
    have hne2:(!(N.1==0))=true:=by rw [hne1];rfl
    clear hne HR;go_wp2_with fail;go_ret;exact RkPost.still HD.out HX4.out HR2.out
end
end Go.Proofs.YtldppmjjgljinaaGreatDoor
