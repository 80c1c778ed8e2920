import Derived.Test.YtldppmjjgljinaaGreatDoorTpC1
import Derived.Test.YtldppmjjgljinaaGreatDoorIter
open Go.Proofs.Tryz
namespace Go.Proofs.YtldppmjjgljinaaGreatDoor
open Go.RowKit
section
theorem TreeOk.nz {l:Nodes} {room:Nat} (T:TreeOk l room):∀ q n,findA l q=some n->n.kind≠0:=fun q n h=>by
 have:=T.kind (q,n) (findA_mem h);simp only at this;omega
theorem writeE_first (l:Nodes) (room:Nat) (p d:ByteArray) (t:Int):writeE l room p d t=if firstE (homeE l p) (fileE l p)=0 then putE l room p ⟨1,d,emp,t⟩ else (firstE (homeE l p) (fileE l p),l):=by
 unfold writeE firstE;by_cases h:homeE l p=0
 ·rw [if_pos h,if_pos h]
 ·rw [if_neg h,if_neg h,if_neg h]
theorem Chg.from_ext {F:List Nat} {a b c:World} (x:Ext a b) (k:Chg F b c):Chg F a c:=(x.chg F).trans k (fun _ hx=>.inl hx)
set_option maxRecDepth 100000 in
set_option maxHeartbeats 2000000 in
theorem dwrite_any (t m:Nat) (l:Nodes) (room:Nat) (p d:ByteArray) (tm:Int) (w:World) (E:Env w) (T:TreeAt w t m l room) (O:TreeOk l room) (hr:room<=1048576) (hp:p.size<=160) (hd:d.size<=1073741824) :
  Calls prog 126 #[.pointer (some ⟨t,0,none⟩),.string p,.string d,.int .i64 tm] w
   fun e w'=>e=.returned (.int .i64 (writeE l room p d tm).1)/\TreeAt w' t m (writeE l room p d tm).2 room/\Chg [t,m] w w':=by
 have HE:=lh (writeE_first l room p d tm);have H1:=lh (dhome_any t m l room p w E T (by omega) O.nz);have H2:=fun w T=>lh (dfile_any t m l room p w T (by unfold maxLen;omega));have H3:=fun a b g w h0 h1=>lh (dfirst_any a b g w h0 h1);have H4:=fun w T=>lh (dput_any t m l room p 1 tm d ⟨#[]⟩ w T O.sorted (by unfold maxLen;omega) (by have:=O.used;omega) hd hr);have HEm:=lh (show (⟨#[]⟩:ByteArray)=emp from rfl);have HT:=lh T;clear T O E;generalize writeE l room p d tm=R at *;have HP:=lh (show putE l room p ⟨1,d,emp,tm⟩=putE l room p ⟨1,d,⟨#[]⟩,tm⟩ from rfl);rw [HP.out] at HE;clear HP HEm;generalize putE l room p ⟨1,d,⟨#[]⟩,tm⟩=P at *;generalize homeE l p=h at *;generalize fileE l p=f at *
 cases hF:decide (firstE h f=0) with
 | true =>
  have hF0:firstE h f=0:=of_decide_eq_true hF;have HR:=lh (show R=P from by rw [HE.out,if_pos hF0]);have HF0:=lh hF0;clear HE hF hF0;go_enter func126,ntmps126;go_wp2_with fail;refine H1.out.mono ?_;rintro e w1 ⟨rfl,x1⟩;go_wp2_with fail;refine (H2 _ (HT.out.ext x1)).out.mono ?_;rintro e w2 ⟨rfl,x2⟩;go_wp2_with fail;refine (H3 h f w2.heap.size _ (by rw [cell_alloc_new rfl];rfl) (by rw [cell_alloc_new rfl];rfl)).out.mono ?_;rintro e w3 ⟨rfl,hw3⟩;have x3:Ext w w3:=hw3▸(x1.trans x2).alloc _;have HX3:=lh x3;have hf0:=HF0.out;clear x1 x2 hw3 x3;generalize firstE h f=F at *;subst hf0;go_wp2_with fail;refine (H4 _ (HT.out.ext HX3.out)).out.mono ?_;rintro e w4 ⟨rfl,t4,x4⟩;have HT4:=lh t4;have HX4:=lh (Chg.from_ext HX3.out x4);clear t4 x4;go_wp2_with fail;go_ret;rw [HR.out];exact ⟨rfl,HT4.out,HX4.out⟩
 | false =>
  have hF0:¬ firstE h f=0:=of_decide_eq_false hF;have HR:=lh (show R=(firstE h f,l) from by rw [HE.out,if_neg hF0]);have HF0:=lh (show (firstE h f==0)=false/\(firstE h f != 0)=true from by simpa using hF0);clear HE hF hF0;go_enter func126,ntmps126;go_wp2_with fail;refine H1.out.mono ?_;rintro e w1 ⟨rfl,x1⟩;go_wp2_with fail;refine (H2 _ (HT.out.ext x1)).out.mono ?_;rintro e w2 ⟨rfl,x2⟩;go_wp2_with fail;refine (H3 h f w2.heap.size _ (by rw [cell_alloc_new rfl];rfl) (by rw [cell_alloc_new rfl];rfl)).out.mono ?_;rintro e w3 ⟨rfl,hw3⟩;have x3:Ext w w3:=hw3▸(x1.trans x2).alloc _;have HX3:=lh x3;obtain ⟨f0,f1⟩:=HF0.out;clear x1 x2 hw3 x3 HF0;generalize firstE h f=F at *;go_wp2_with fail;go_ret;rw [HR.out];exact ⟨rfl,HT.out.ext HX3.out,HX3.out.chg _⟩
set_option maxRecDepth 100000 in
set_option maxHeartbeats 2000000 in
theorem dlay_any (t m:Nat) (l:Nodes) (room:Nat) (p:ByteArray) (k tm:Int) (d g:ByteArray) (w:World) (E:Env w) (T:TreeAt w t m l room) (O:TreeOk l room) (hr:room<=1048576) (hp:p.size<=160) (hd:d.size<=1073741824) :
  Calls prog 124 #[.pointer (some ⟨t,0,none⟩),.string p,.agg #[.int .i64 k,.string d,.string g,.int .i64 tm]] w
   fun e w'=>e=.returned (.int .i64 (layE l room p ⟨k,d,g,tm⟩).1)/\TreeAt w' t m (layE l room p ⟨k,d,g,tm⟩).2 room/\Chg [t,m] w w':=by
 have HE:=lh (show layE l room p ⟨k,d,g,tm⟩=if homeE l p=0 then (if (findA l p).isSome then (6,l) else putE l room p ⟨k,d,g,tm⟩) else (homeE l p,l) from rfl);obtain ⟨W1,hW1⟩:∃ W1,W1=w.alloc (.cells #[.int .i64 k,.string d,.string g,.int .i64 tm] 57 (0,0)):=⟨_,rfl⟩;have X1:Ext w W1:=hW1▸(Ext.refl w).alloc _;have HB:=lh (show W1.heap[w.heap.size]?=some (.cells #[.int .i64 k,.string d,.string g,.int .i64 tm] 57 (0,0)) by rw [hW1];exact block_alloc_new _ _);have H1:=lh (dhome_any t m l room p W1 (E.ext X1) (T.ext X1) (by omega) O.nz);have H4:=fun w T=>lh (dput_any t m l room p k tm d g w T O.sorted (by unfold maxLen;omega) (by have:=O.used;omega) hd hr);have HT:=lh (T.ext X1);have HX1:=lh X1;have hp2:p.size<=maxLen:=by unfold maxLen;omega
 clear T O E X1;subst hW1;generalize layE l room p ⟨k,d,g,tm⟩=R at *;generalize putE l room p ⟨k,d,g,tm⟩=P at *;generalize homeE l p=h at *;by_cases hh:h=0
 ·have HE:=lh (HE.out.trans (if_pos hh));subst hh
  cases hf:findA l p with
  | none =>
   have HR:=lh (show R=P from by rw [HE.out,hf];rfl);go_enter func124,ntmps124;go_wp2_with fail;refine H1.out.mono ?_;rintro e W2 ⟨rfl,x2⟩;have T2:=HT.out.ext x2;have L:=T2.map.look_ok p hp2;rw [hf] at L;have L2:(Instr.lookup 142 (.map (some m)) (.string p) true).run prog W2=.ok (.tuple #[.agg #[.int .i64 0,.string ⟨#[]⟩,.string ⟨#[]⟩,.int .i64 0],.bool false]) W2:=L;have c0:W2.cell? ⟨t,0,none⟩=some (.map (some m)):=cellB T2.blk;have hb2:=(x2.block (ltB HB.out)).trans HB.out;have b0:W2.cell? ⟨w.heap.size,0,none⟩=some (.int .i64 k):=cellB hb2;have b1:W2.cell? ⟨w.heap.size,1,none⟩=some (.string d):=cellB hb2;have b2:W2.cell? ⟨w.heap.size,2,none⟩=some (.string g):=cellB hb2;have b3:W2.cell? ⟨w.heap.size,3,none⟩=some (.int .i64 tm):=cellB hb2;have bl:=ltB hb2;have x3:=(HX1.out.trans x2).alloc (.cells #[.int .i64 0,.string ⟨#[]⟩,.string ⟨#[]⟩,.int .i64 0] 57 (0,0));have HX3:=lh x3;have HT3:=lh (T2.ext ((Ext.refl W2).alloc (.cells #[.int .i64 0,.string ⟨#[]⟩,.string ⟨#[]⟩,.int .i64 0] 57 (0,0))));clear L x2 x3 T2 hb2 HE hf H1;go_wp2_with fail;refine (H4 _ HT3.out).out.mono ?_;rintro e w4 ⟨rfl,t4,x4⟩;have HT4:=lh t4;have HX4:=lh (Chg.from_ext HX3.out x4);clear t4 x4;go_wp2_with fail;go_ret;rw [HR.out];exact ⟨rfl,HT4.out,HX4.out⟩
  | some o =>
   have HR:=lh (show R=(6,l) from by rw [HE.out,hf];rfl);obtain ⟨k1,d1,g1,tm1⟩:=o;go_enter func124,ntmps124;go_wp2_with fail;refine H1.out.mono ?_;rintro e W2 ⟨rfl,x2⟩;have T2:=HT.out.ext x2;have L:=T2.map.look_ok p hp2;rw [hf] at L;have L2:(Instr.lookup 142 (.map (some m)) (.string p) true).run prog W2=.ok (.tuple #[.agg #[.int .i64 k1,.string d1,.string g1,.int .i64 tm1],.bool true]) W2:=L;have c0:W2.cell? ⟨t,0,none⟩=some (.map (some m)):=cellB T2.blk;have x3:=(HX1.out.trans x2).alloc (.cells #[.int .i64 k1,.string d1,.string g1,.int .i64 tm1] 57 (0,0));have HX3:=lh x3;have HT3:=lh (T2.ext ((Ext.refl W2).alloc (.cells #[.int .i64 k1,.string d1,.string g1,.int .i64 tm1] 57 (0,0))));clear L x2 x3 T2 HE hf H1;go_wp2_with fail;go_ret;rw [HR.out];exact ⟨rfl,HT3.out,HX3.out.chg _⟩
 ·have HR:=lh (HE.out.trans (if_neg hh));have h1:(h==0)=false:=by simpa using hh
  have h2:(h != 0)=true:=by simpa using hh
  clear hh;go_enter func124,ntmps124;go_wp2_with fail;refine H1.out.mono ?_;rintro e W2 ⟨rfl,x2⟩;have HT2:=lh (HT.out.ext x2);have HX2:=lh (HX1.out.trans x2);clear x2;go_wp2_with fail;go_ret;rw [HR.out];exact ⟨rfl,HT2.out,HX2.out.chg _⟩
set_option maxRecDepth 100000 in
set_option maxHeartbeats 2000000 in
theorem dadd_any (t m:Nat) (l:Nodes) (room:Nat) (p a:ByteArray) (w:World) (T:TreeAt w t m l room) (O:TreeOk l room) (hr:room<=1048576) (hp:p.size<=160) (hd:a.size<=1048576) :
  Calls prog 129 #[.pointer (some ⟨t,0,none⟩),.string p,.string a] w
   fun e w'=>e=.returned (.int .i64 (addE l room p a).1)/\TreeAt w' t m (addE l room p a).2 room/\Chg [t,m] w w':=by
 have hp2:p.size<=maxLen:=by unfold maxLen;omega
 have L:=T.map.look_ok p hp2;have c0:w.cell? ⟨t,0,none⟩=some (.map (some m)):=cellB T.blk;have HE:=lh (show addE l room p a=match findA l p with | none=>(5,l) | some n=>if fileE l p=0 then putE l room p ⟨n.kind,n.data++a,n.target,n.time⟩ else (fileE l p,l) from rfl);have HT:=lh T
 cases hf:findA l p with
 | none =>
  rw [hf] at L;have L2:(Instr.lookup 142 (.map (some m)) (.string p) true).run prog w=.ok (.tuple #[.agg #[.int .i64 0,.string ⟨#[]⟩,.string ⟨#[]⟩,.int .i64 0],.bool false]) w:=L;have HR:=lh (show addE l room p a=(5,l) from by rw [HE.out,hf]);clear L HE hf T;generalize addE l room p a=R at *;go_enter func129,ntmps129;go_wp2_with fail;go_ret;rw [HR.out];have x:Ext w (w.alloc (.cells #[.int .i64 0,.string ⟨#[]⟩,.string ⟨#[]⟩,.int .i64 0] 57)):=(Ext.refl w).alloc _;exact ⟨rfl,HT.out.ext x,x.chg _⟩
 | some n =>
  have hmu:=mem_used (findA_mem hf);have hu:=O.used;obtain ⟨k,d,g,tm⟩:=n;have hds:d.size<=1048576:=by simp only at hmu;omega
  rw [hf] at L;have L2:(Instr.lookup 142 (.map (some m)) (.string p) true).run prog w=.ok (.tuple #[.agg #[.int .i64 k,.string d,.string g,.int .i64 tm],.bool true]) w:=L;have HE:=lh (show addE l room p a=if fileE l p=0 then putE l room p ⟨k,d++a,g,tm⟩ else (fileE l p,l) from by rw [HE.out,hf]);have hsz:(d++a).size=d.size+a.size:=by simp
  have H4:=fun w T=>lh (dput_any t m l room p k tm (d++a) g w T O.sorted (by unfold maxLen;omega) (by omega) (by omega) hr);have H2:=fun w T=>lh (dfile_any t m l room p w T (by unfold maxLen;omega));obtain ⟨W1,hW1⟩:∃ W1,W1=w.alloc (.cells #[.int .i64 k,.string d,.string g,.int .i64 tm] 57 (0,0)):=⟨_,rfl⟩;have X1:Ext w W1:=hW1▸(Ext.refl w).alloc _;have HB:=lh (show W1.heap[w.heap.size]?=some (.cells #[.int .i64 k,.string d,.string g,.int .i64 tm] 57 (0,0)) by rw [hW1];exact block_alloc_new _ _);have HX1:=lh X1;have HT1:=lh (T.ext X1);have hlt:=lt_of_tree T;clear L hf O T X1 hmu hu hsz;subst hW1;generalize addE l room p a=R at *;generalize putE l room p ⟨k,d++a,g,tm⟩=P at *;generalize fileE l p=f at *;by_cases hh:f=0
  ·have HR:=lh (HE.out.trans (if_pos hh));subst hh;clear HE;go_enter func129,ntmps129;go_wp2_with fail;refine (H2 _ HT1.out).out.mono ?_;rintro e W2 ⟨rfl,x2⟩;have hb2:=(x2.block (ltB HB.out)).trans HB.out;have b0:W2.cell? ⟨w.heap.size,0,none⟩=some (.int .i64 k):=cellB hb2;have b1:W2.cell? ⟨w.heap.size,1,none⟩=some (.string d):=cellB hb2;have b2:W2.cell? ⟨w.heap.size,2,none⟩=some (.string g):=cellB hb2;have b3:W2.cell? ⟨w.heap.size,3,none⟩=some (.int .i64 tm):=cellB hb2;have f1:W2.frozen? ⟨w.heap.size,1,none⟩=false:=frozenB hb2;have x3:Ext w (W2.setCell ⟨w.heap.size,1,none⟩ (.string (d++a))):=(HX1.out.trans x2).setCell (Nat.le_refl _) _;have HX3:=lh x3;have HT3:=lh (HT.out.ext x3);clear x2 hb2 x3;go_wp2_with fail;refine (H4 _ HT3.out).out.mono ?_;rintro e w4 ⟨rfl,t4,x4⟩;have HT4:=lh t4;have HX4:=lh (Chg.from_ext HX3.out x4);clear t4 x4;go_wp2_with fail;go_ret;rw [HR.out];exact ⟨rfl,HT4.out,HX4.out⟩
  ·have HR:=lh (HE.out.trans (if_neg hh));have h1:(f==0)=false:=by simpa using hh
   have h2:(f != 0)=true:=by simpa using hh
   clear hh HE;go_enter func129,ntmps129;go_wp2_with fail;refine (H2 _ HT1.out).out.mono ?_;rintro e W2 ⟨rfl,x2⟩;have HT2:=lh (HT1.out.ext x2);have HX2:=lh (HX1.out.trans x2);clear x2;go_wp2_with fail;go_ret;rw [HR.out];exact ⟨rfl,HT2.out,HX2.out.chg _⟩
theorem withins_any {l:Nodes} {p:ByteArray}:(withinsS l p).length=0↔(l.any fun x=>withinB x.1 p)=false:=by
 unfold withinsS;rw [List.length_map,List.length_mergeSort,List.length_eq_zero_iff];unfold insideL;rw [List.filter_eq_nil_iff,List.any_eq_false];constructor
 ·intro h x hx;exact h _ (List.mem_map.2 ⟨x,hx,rfl⟩)
 ·intro h k hk;obtain ⟨x,hx,rfl⟩:=List.mem_map.1 hk;exact h x hx
set_option maxRecDepth 100000 in
set_option maxHeartbeats 2000000 in
theorem dremove_any (t m:Nat) (l:Nodes) (room:Nat) (p:ByteArray) (w:World) (E:Env w) (T:TreeAt w t m l room) (O:TreeOk l room) (hr:room<=1048576) (hp:p.size<=160) :
  Calls prog 143 #[.pointer (some ⟨t,0,none⟩),.string p] w
   fun e w'=>e=.returned (.int .i64 (removeE l p).1)/\TreeAt w' t m (removeE l p).2 room/\Chg [t,m] w w':=by
 have hp2:p.size<=maxLen:=by unfold maxLen;omega
 have L:=T.map.look_ok p hp2;have c0:w.cell? ⟨t,0,none⟩=some (.map (some m)):=cellB T.blk;have HE:=lh (show removeE l p=if (findA l p).isSome then (if l.any fun x=>withinB x.1 p then (22,l) else (0,dropA l p)) else (5,l) from rfl);have HT:=lh T;have hu:=O.used;have hlen:=len_used l
 cases hf:findA l p with
 | none =>
  rw [hf] at L;have L2:(Instr.lookup 142 (.map (some m)) (.string p) true).run prog w=.ok (.tuple #[.agg #[.int .i64 0,.string ⟨#[]⟩,.string ⟨#[]⟩,.int .i64 0],.bool false]) w:=L;have HR:=lh (show removeE l p=(5,l) from by rw [HE.out,hf];rfl);clear L HE hf T;generalize removeE l p=R at *;go_enter func143,ntmps143;go_wp2_with fail;go_ret;rw [HR.out];have x:Ext w (w.alloc (.cells #[.int .i64 0,.string ⟨#[]⟩,.string ⟨#[]⟩,.int .i64 0] 57)):=(Ext.refl w).alloc _;exact ⟨rfl,HT.out.ext x,x.chg _⟩
 | some n =>
  obtain ⟨k,d,g,tm⟩:=n;rw [hf] at L;have L2:(Instr.lookup 142 (.map (some m)) (.string p) true).run prog w=.ok (.tuple #[.agg #[.int .i64 k,.string d,.string g,.int .i64 tm],.bool true]) w:=L;have HE:=lh (show removeE l p=if (l.any fun x=>withinB x.1 p)=true then (22,l) else (0,dropA l p) from by rw [HE.out,hf];rfl);have H2:=fun w E T=>lh (dwithin_any t m l room p w E T (by omega) (by omega) fun x hx=>mayB_size (O.may x hx));have H4:=fun w T=>lh (ddrop_any t m l room p w T O.sorted (by unfold maxLen;omega) (by omega));have x1:Ext w (w.alloc (.cells #[.int .i64 k,.string d,.string g,.int .i64 tm] 57 (0,0))):=(Ext.refl w).alloc _;have HX1:=lh x1;have HT1:=lh (T.ext x1);have HE1:=lh (E.ext x1);have HWI:=lh (withins_any (l:=l) (p:=p));clear L hf O T x1 hu hlen;generalize removeE l p=R at *;generalize (l.any fun x=>withinB x.1 p)=b at *;generalize withinsS l p=ws at *;go_enter func143,ntmps143;go_wp2_with fail;refine (H2 _ HE1.out HT1.out).out.mono ?_;rintro e W2 ⟨v,rfl,hown,x2⟩;have HT2:=lh (HT1.out.ext x2);have HX2:=lh (HX1.out.trans x2)
  obtain ⟨cap,a,rfl,hcap⟩:∃ (cap:Nat) (a:Option Addr),v=.slice a ws.length cap/\ws.length<=9223372036854775807:=by
   rcases hown.2 with ⟨rfl,h0⟩ | ⟨g',cap,cur,rfl,_,_,h1,h2,_⟩
   ·have:ws.length=0:=by simpa using h0
    exact ⟨0,none,by rw [this],by omega⟩
   ·exact ⟨cap,_,rfl,by unfold maxLen at h2;omega⟩
  clear hown x2 H2
  cases b with
  | true =>
   have hl:0<ws.length:=by
    rcases Nat.eq_zero_or_pos ws.length with h | h
    ·have:=HWI.out.1 h;cases this
    ·exact h
   have HR:=lh (HE.out.trans (if_pos rfl));clear HE;go_wp2_with fail;go_ret;rw [HR.out];exact ⟨rfl,HT2.out,HX2.out.chg _⟩
  | false =>
   have hl:ws.length=0:=HWI.out.2 rfl;have HR:=lh (HE.out.trans (if_neg (by decide)));rw [hl];clear HE;go_wp2_with fail;refine (H4 _ HT2.out).out.mono ?_;rintro e w4 ⟨rfl,t4,x4⟩;have HT4:=lh t4;have HX4:=lh (Chg.from_ext HX2.out x4);clear t4 x4;go_wp2_with fail;go_ret;rw [HR.out];exact ⟨rfl,HT4.out,HX4.out⟩
end
section
theorem withinsS_perm (l:Nodes) (a:ByteArray):(withinsS l a).Perm ((l.filter fun x=>withinB x.1 a).map (·.1)):=by
 unfold withinsS;refine ((List.mergeSort_perm _ _).map bsL).trans ?_
 have:(insideL a (keysD l)).map bsL=(l.filter fun x=>withinB x.1 a).map (·.1):=by
  unfold insideL keysD;rw [List.filter_map,List.map_map];rfl
 rw [this]
theorem withinsS_mem {l:Nodes} {a k:ByteArray}:k∈withinsS l a↔withinB k a=true/\k∈l.map (·.1):=by
 rw [(withinsS_perm l a).mem_iff,List.mem_map];constructor
 ·rintro ⟨x,hx,rfl⟩;obtain ⟨h1,h2⟩:=List.mem_filter.1 hx;exact ⟨h2,List.mem_map.2 ⟨x,h1,rfl⟩⟩
 ·rintro ⟨h1,h2⟩;obtain ⟨x,hx,rfl⟩:=List.mem_map.1 h2;exact ⟨x,List.mem_filter.2 ⟨hx,h1⟩,rfl⟩
theorem withinsS_nodup {l:Nodes} (h:(l.map (·.1)).Nodup) (a:ByteArray):(withinsS l a).Nodup :=
 (withinsS_perm l a).nodup_iff.2 ((List.Sublist.map _ (List.filter_sublist)).nodup h)
theorem within_self (a:ByteArray) (ha:mayB a=true):withinB a a=false:=by
 cases h:withinB a a with
 | false=>rfl
 | true =>
  obtain ⟨r,hr⟩:=within_form ha h;have:=congrArg List.length hr;simp at this
def orderM (l:Nodes) (a:ByteArray):List ByteArray:=withinsS l a++[a]
def pairsM (l:Nodes) (a:ByteArray):Nodes:=(orderM l a).map fun k=>(k,(findA l k).getD nd0)
theorem pairsM_perm {l:Nodes} {room:Nat} {a b:ByteArray} (M:MoveOk l room a b):(pairsM l a).Perm (movL l a):=by
 have hn:=M.tree.sorted.nodup
 have h1:(orderM l a).Perm ((movL l a).map (·.1)):=by
  refine (List.perm_ext_iff_of_nodup ?_ ((List.Sublist.map _ (List.filter_sublist)).nodup hn)).2 fun k=>?_
  ·unfold orderM;rw [List.nodup_append];refine ⟨withinsS_nodup hn a,by simp,fun x hx y hy e=>?_⟩;simp at hy;subst hy;subst e;have:=(withinsS_mem.1 hx).1;rw [within_self x M.ma] at this
   cases this
  ·unfold orderM;rw [List.mem_append,withinsS_mem,List.mem_singleton];constructor
   ·rintro (⟨h1,h2⟩ | rfl)
    ·obtain ⟨x,hx,rfl⟩:=List.mem_map.1 h2;exact List.mem_map.2 ⟨x,mem_mov.2 ⟨hx,by unfold movedB;rw [h1];simp⟩,rfl⟩
    ·obtain ⟨o,ho⟩:=Option.isSome_iff_exists.1 M.is;exact List.mem_map.2 ⟨(k,o),mem_mov.2 ⟨findA_mem ho,by unfold movedB;simp⟩,rfl⟩
   ·intro hk;obtain ⟨x,hx,rfl⟩:=List.mem_map.1 hk;obtain ⟨h1,h2⟩:=mem_mov.1 hx;unfold movedB at h2;simp only [Bool.or_eq_true,decide_eq_true_eq] at h2;rcases h2 with h2 | h2
    ·exact .inr h2
    ·exact .inl ⟨h2,List.mem_map.2 ⟨x,h1,rfl⟩⟩
 have h2:=h1.map fun k=>(k,(findA l k).getD nd0);refine h2.trans ?_;rw [List.map_map]
 have:(movL l a).map ((fun k=>(k,(findA l k).getD nd0)) ∘ (·.1))=(movL l a).map id:=by
  refine List.map_congr_left fun x hx=>?_;have:=findA_of_mem hn (mem_mov.1 hx).1;simp only [Function.comp,this,Option.getD_some,id]
 rw [this,List.map_id]
def MovedTo (l:Nodes) (a b:ByteArray) (k:Nat) (cur:Nodes):Prop:=cur.Perm (((pairsM l a).take k).map (newX a b)++((pairsM l a).drop k++restL l a b))
theorem moved_start {l:Nodes} {room:Nat} {a b:ByteArray} (M:MoveOk l room a b):MovedTo l a b 0 (dropA l b):=by
 unfold MovedTo;simp only [List.take_zero,List.map_nil,List.nil_append,List.drop_zero];refine List.Perm.trans ?_ ((pairsM_perm M).symm.append_right _);have h:=List.filter_append_perm (fun x:ByteArray×Nd=>movedB a x.1) (dropA l b)
 have:(dropA l b).filter (fun x=>movedB a x.1)=movL l a:=by
  unfold dropA movL;rw [List.filter_filter];refine List.filter_congr fun x hx=>?_
  cases hm:movedB a x.1 with
  | false=>rfl
  | true =>
   have:x.1≠b:=fun e=>by rw [e,M.notb] at hm;cases hm
   simpa using this
 rw [this] at h;exact h.symm
theorem moved_step {l:Nodes} {room:Nat} {a b:ByteArray} (M:MoveOk l room a b) {k:Nat} {p:ByteArray} {cur:Nodes} (hp:(orderM l a)[k]?=some p) (h:MovedTo l a b k cur) :
  ∃ n,findA cur p=some n/\findA l p=some n/\MovedTo l a b (k+1) (stepM a b cur p):=by
 have hx:(pairsM l a)[k]?=some (p,(findA l p).getD nd0):=by unfold pairsM;rw [List.getElem?_map,hp];rfl
 have hd:(pairsM l a).drop k=(p,(findA l p).getD nd0)::(pairsM l a).drop (k+1):=by
  obtain ⟨h1,h2⟩:=List.getElem?_eq_some_iff.1 hx;rw [List.drop_eq_getElem_cons h1,h2]
 have ht:(pairsM l a).take (k+1)=(pairsM l a).take k++[(p,(findA l p).getD nd0)]:=by rw [List.take_add_one,hx];rfl
 unfold MovedTo at h ⊢;rw [hd] at h;have hs:=M.step (P:=(pairsM l a).take k) (x:=(p,(findA l p).getD nd0)) (R:=(pairsM l a).drop (k+1)) (by rw [<-hd,List.take_append_drop];exact pairsM_perm M) h;rw [ht];have hm:(p,(findA l p).getD nd0)∈movL l a:=(pairsM_perm M).mem_iff.1 (List.mem_of_getElem? hx);refine ⟨_,hs.1,?_,hs.2⟩;exact findA_of_mem M.tree.sorted.nodup (mem_mov.1 hm).1
theorem moved_end {l:Nodes} {room:Nat} {a b:ByteArray} (M:MoveOk l room a b) {cur:Nodes} {k:Nat} (hk:k=(orderM l a).length) (h:MovedTo l a b k cur):cur.Perm (moveL l a b):=by
 have hl:(pairsM l a).length=k:=by unfold pairsM;rw [List.length_map,hk]
 unfold MovedTo at h;rw [<-hl,List.take_length,List.drop_length,List.nil_append] at h;exact (h.trans (((pairsM_perm M).map _).append_right _)).trans M.perm.symm
theorem moved_used {l:Nodes} {room:Nat} {a b:ByteArray} (M:MoveOk l room a b) {cur:Nodes} {k:Nat} (h:MovedTo l a b k cur):usedL cur=usedL (dropA l b):=by
 have h0:=moved_start M;unfold MovedTo at h h0;rw [usedL_perm h,usedL_perm h0];simp only [usedL_append,usedL_map,List.take_zero,List.map_nil,List.drop_zero];have:usedL ((pairsM l a).take k)+usedL ((pairsM l a).drop k)=usedL (pairsM l a):=by rw [<-usedL_append,List.take_append_drop]
 show _=0+_
 omega
theorem moved_keys {l:Nodes} {room:Nat} {a b:ByteArray} (M:MoveOk l room a b) {cur:Nodes} {k:Nat} (h:MovedTo l a b k cur):cur.length<=l.length:=by
 have h0:=(moved_start M).length_eq;have h1:=h.length_eq
 have:cur.length=(dropA l b).length:=by
  rw [h0,h1];simp only [List.length_append,List.length_map,List.length_take,List.length_drop];omega
 rw [this];exact List.length_filter_le _ _
theorem all_within {l:Nodes} {a b:ByteArray}:(l.all fun x=>!withinB x.1 a||mayB (newP a b x.1))=(withinsS l a).all fun k=>mayB (newP a b k):=by
 rw [Bool.eq_iff_iff,List.all_eq_true,List.all_eq_true];constructor
 ·intro h k hk;obtain ⟨h1,h2⟩:=withinsS_mem.1 hk;obtain ⟨x,hx,rfl⟩:=List.mem_map.1 h2;have:=h x hx;rw [h1] at this
  simpa using this
 ·intro h x hx
  cases hw:withinB x.1 a with
  | false=>rfl
  | true=>simpa using h x.1 (withinsS_mem.2 ⟨hw,List.mem_map.2 ⟨x,hx,rfl⟩⟩)
theorem within_size {k a:ByteArray} (ha:mayB a=true) (h:withinB k a=true):a.size<=k.size/\k.size<=160:=by
 obtain ⟨r,hr⟩:=within_form ha h;have h1:=congrArg List.length hr;rw [len_toList,List.length_append,len_toList] at h1;refine ⟨by omega,mayB_size ?_⟩;unfold withinB at h;simp only [Bool.and_eq_true] at h;exact h.1
end
section
theorem own_slice {w:World} {base n:Nat} {v:Value} {xs:List Value} (h:w.ownsRow base 9 1 v n xs):∃ (a:Option Addr) (cap:Nat),v=.slice a n cap/\n<=9223372036854775807/\xs.length=n/\∀ (k:Nat) x,xs[k]?=some x->∃ g,a=some ⟨g,0,none⟩/\base<=g/\w.cell? ⟨g,k,none⟩=some x:=by
 have hl:=h.1;rcases h.2 with ⟨rfl,h0⟩ | ⟨g,cap,cur,rfl,hb,hh,h1,h2,h3,h4⟩
 ·subst h0;exact ⟨none,0,rfl,Nat.zero_le _,by simpa using hl,fun k x hx=>by have:=(List.getElem?_eq_some_iff.1 hx).1;simp at hl;rw [hl] at this;simp at this⟩
 ·refine ⟨_,cap,rfl,by unfold maxLen at h2;omega,by simpa using hl,fun k x hx=>⟨g,rfl,hb,?_⟩⟩;have:=h.cells (g:=g) rfl k x hx
  rwa [append_kw.add_off,Nat.zero_add] at this
theorem owns_chg {F:List Nat} {w w':World} {base k:Nat} {e:TypeId} {v:Value} {n:Nat} {xs:List Value} (h:w.ownsRow base e k v n xs) (x:Chg F w w') (hF:∀ b∈F,b<base):w'.ownsRow base e k v n xs:=by
 refine ⟨h.1,?_⟩;rcases h.2 with h1 | ⟨g,cap,cur,hv,hg,hh,hr⟩
 ·exact .inl h1
 ·exact .inr ⟨g,cap,cur,hv,hg,(x.block g (ltB hh) (fun hm=>by have:=hF g hm;omega)).trans hh,hr⟩
theorem own_ge {w:World} {base n k:Nat} {e:TypeId} {v:Value} {xs:List Value} (h:w.ownsRow base e k v n xs):∀ b,v.ownBlock=some b->base<=b:=by
 intro b hb;rcases h.2 with ⟨rfl,_⟩ | ⟨g,cap,cur,rfl,hg,_⟩
 ·simp [Value.ownBlock] at hb
 ·simp [Value.ownBlock] at hb;omega
def MovAt (w:World) (t m:Nat) (l:Nodes) (room:Nat) (a b:ByteArray) (base:Nat) (v:Value) (N:Nat) (wr:World) (k:Nat):Prop :=
 ∃ cur,MovedTo l a b k cur/\TreeAt wr t m cur room/\wr.ownsRow base 9 1 v N ((orderM l a).map Value.string)/\Chg [t,m] w wr
theorem mov_start {w w4 w5 w6:World} {o:Obj} {t m:Nat} {l:Nodes} {room:Nat} {a b:ByteArray} {base:Nat} {v v':Value} (M:MoveOk l room a b) (T5:TreeAt w5 t m (dropA l b) room) (c5:Chg [t,m] w4 w5) (x4:Ext w w4) (ht:t<base) (hm:m<base) (hown:w5.ownsRow base 9 1 v (withinsS l a).length ((withinsS l a).map Value.string))
  (hown6:w6.ownsRow base 9 1 v' ((withinsS l a).length+1) ((withinsS l a).map Value.string++[.string a])) (hg6:(w5.alloc o).grownBy w6 v.ownBlock) (hbw:w.heap.size<=base):MovAt w t m l room a b base v' ((withinsS l a).length+1) w6 0:=by
 have hge:=own_ge hown;refine ⟨_,moved_start M,?_,?_,?_⟩
 ·have T5':=T5.ext ((Ext.refl w5).alloc o);have hlt:=lt_of_tree T5';exact T5'.kept (hg6.block t hlt.1 (fun e=>by have:=hge t e.symm;omega)) (hg6.block m hlt.2 (fun e=>by have:=hge m e.symm;omega))
 ·unfold orderM;rw [List.map_append];exact hown6
 ·have h1:Chg [t,m] w w5:=Chg.from_ext x4 c5;have h2:Chg [t,m] w (w5.alloc o):=h1.alloc o;have h3:Chg (match v.ownBlock with | some b=>[b] | none=>[]) (w5.alloc o) w6:=Chg.grownO hg6 (fun b hb=>.inl (by rw [hb];simp))
  exact h2.trans h3 (fun x hx=>.inr (by
   cases hv:v.ownBlock with
   | none=>rw [hv] at hx;cases hx
   | some b'=>rw [hv] at hx;simp at hx;subst hx;have:=hge x hv;omega))
theorem mov_step {w wr w7 w8 w9:World} {t m:Nat} {l cur:Nodes} {room:Nat} {a b p:ByteArray} {base:Nat} {v:Value} {N k:Nat} {n:Nd} (M:MoveOk l room a b) (hc:MovedTo l a b k cur) (hp:(orderM l a)[k]?=some p) (hf:findA cur p=some n) (T:TreeAt wr t m cur room) (hown:wr.ownsRow base 9 1 v N ((orderM l a).map Value.string)) (c:Chg [t,m] w wr) (x7:Ext wr w7)
  (h8:w7.mapTurned w8 m) (hm9:MapL w9 m (dropA ((newP a b p,n)::dropA cur (newP a b p)) p)) (h9:w8.mapTurned w9 m) (ht:t<base) (hm:m<base):MovAt w t m l room a b base v N w9 (k+1):=by
 obtain ⟨_,hf',_,hs⟩:=moved_step M hp hc;have hst:stepM a b cur p=dropA ((newP a b p,n)::dropA cur (newP a b p)) p:=by unfold stepM;rw [hf];rfl
 have hlt:=lt_of_tree T;have hne:=T.ne;have c8:Chg [t,m] w7 w9:=(Chg.grown (F:=[t,m]) h8.grown (by simp)).trans (Chg.grown (F:=[t,m]) h9.grown (by simp)) (fun x hx=>.inl hx)
 have ct:w9.heap[t]?=wr.heap[t]?:=by
  have e7:=x7.block hlt.1;have e8:=h8.grown.block t (Nat.lt_of_lt_of_le hlt.1 x7.size) (fun e=>hne (Option.some.inj e));have e9:=h9.grown.block t (Nat.lt_of_lt_of_le hlt.1 (Nat.le_trans x7.size h8.grown.size)) (fun e=>hne (Option.some.inj e));exact e9.trans (e8.trans e7)
 refine ⟨_,hs,⟨?_,hst▸hm9⟩,?_,?_⟩
 ·rw [ct,moved_used M hs,<-moved_used M hc];exact T.blk
 ·exact owns_chg (owns_ext hown x7) c8 (fun b hb=>by simp at hb;omega)
 ·exact (c.trans_ext x7).trans c8 (fun x hx=>.inl hx)
theorem mov_end {w wr:World} {t m:Nat} {l:Nodes} {room:Nat} {a b:ByteArray} {base:Nat} {v:Value} {N:Nat} {R:Int×Nodes} (M:MoveOk l room a b) (h:MovAt w t m l room a b base v N wr N) (hN:N=(orderM l a).length) (hR:R=(0,moveL l a b)) :
  Ending.returned (.int .i64 0)=.returned (.int .i64 R.1)/\TreeAt wr t m R.2 room/\Chg [t,m] w wr:=by
 subst hR;obtain ⟨cur,h1,h2,_,h4⟩:=h;exact ⟨rfl,h2.perm (moved_end M hN h1),h4⟩
set_option maxRecDepth 100000 in
set_option maxHeartbeats 8000000 in
theorem drename_any (t m:Nat) (l:Nodes) (room:Nat) (a b:ByteArray) (w:World) (E:Env w) (T:TreeAt w t m l room) (O:TreeOk l room) (hr:room<=1048576) (ha:mayB a=true) (hb:mayB b=true) (hrt:(Eff.rename a b).right=true) :
  Calls prog 131 #[.pointer (some ⟨t,0,none⟩),.string a,.string b] w
   fun e w'=>e=.returned (.int .i64 (renameE l a b).1)/\TreeAt w' t m (renameE l a b).2 room/\Chg [t,m] w w':=by
 have haz:=mayB_size ha;have hbz:=mayB_size hb;have ha2:a.size<=maxLen:=by unfold maxLen;omega
 have hb2:b.size<=maxLen:=by unfold maxLen;omega
 have hu:=O.used;have hlen:=len_used l;have L:=T.map.look_ok a ha2;have c0:w.cell? ⟨t,0,none⟩=some (.map (some m)):=cellB T.blk
 have HE:=lh (show renameE l a b=if (findA l a).isSome then
  (if homeE l b=0 then (if dirsB l a b then (12,l) else if l.all fun x=>!withinB x.1 a||mayB (newP a b x.1) then (0,moveL l a b) else (10,l)) else (homeE l b,l))
 else (5,l) from rfl)
 have HMv:=fun h1 h2 h3 h4=>lh (rename_ok O ha hb hrt h1 h2 h3 h4);have HT:=lh T
 cases hf:findA l a with
 | none =>
  rw [hf] at L;have L2:(Instr.lookup 142 (.map (some m)) (.string a) true).run prog w=.ok (.tuple #[.agg #[.int .i64 0,.string ⟨#[]⟩,.string ⟨#[]⟩,.int .i64 0],.bool false]) w:=L;have HR:=lh (show renameE l a b=(5,l) from by rw [HE.out,hf];rfl);clear L HE hf T HMv O;generalize renameE l a b=R at *;go_enter func131,ntmps131;go_wp2_with fail;go_ret;rw [HR.out];have x:Ext w (w.alloc (.cells #[.int .i64 0,.string ⟨#[]⟩,.string ⟨#[]⟩,.int .i64 0] 57)):=(Ext.refl w).alloc _;exact ⟨rfl,HT.out.ext x,x.chg _⟩
 | some n =>
  have hsome:(findA l a).isSome=true:=by rw [hf];rfl
  have HEa:=lh (HE.out.trans (if_pos hsome));clear HE;have HD:=lh (show dirsB l a b=match findA l b with | some o=>decide (o.kind=2)||decide (n.kind=2) | none=>false from by unfold dirsB;rw [hf];rfl);obtain ⟨k,d,g,tm⟩:=n;rw [hf] at L;have L2:(Instr.lookup 142 (.map (some m)) (.string a) true).run prog w=.ok (.tuple #[.agg #[.int .i64 k,.string d,.string g,.int .i64 tm],.bool true]) w:=L;obtain ⟨W1,hW1⟩:∃ W1,W1=w.alloc (.cells #[.int .i64 k,.string d,.string g,.int .i64 tm] 57 (0,0)):=⟨_,rfl⟩;have X1:Ext w W1:=hW1▸(Ext.refl w).alloc _;have HB:=lh (show W1.heap[w.heap.size]?=some (.cells #[.int .i64 k,.string d,.string g,.int .i64 tm] 57 (0,0)) by rw [hW1];exact block_alloc_new _ _);have H1:=lh (dhome_any t m l room b W1 (E.ext X1) (T.ext X1) (by omega) O.nz);have H5:=fun w E T=>lh (dwithin_any t m l room a w E T (by omega) (by omega) fun x hx=>mayB_size (O.may x hx));have H6:=fun w T=>lh (ddrop_any t m l room b w T O.sorted hb2 (by omega));have HM:=fun s w h E=>lh (may_any s w h E);have HT1:=lh (T.ext X1);have HX1:=lh X1;have HEn:=lh E;have hlt:=lt_of_tree T;clear L hf O T X1 E hrt;subst hW1;generalize renameE l a b=R at *;generalize hh:homeE l b=h at *;by_cases hh0:h=0
  ·have HEb:=lh (HEa.out.trans (if_pos hh0));have HMw:=fun h3 h4=>lh ((HMv hsome hh0 h3 h4).out);clear HEa HMv;subst hh0;clear hh
   cases ho:findA l b with
   | none =>
    have HD:=lh (show dirsB l a b=false from by rw [HD.out,ho]);have HE:=lh (HEb.out.trans (if_neg (by rw [HD.out];decide)));clear HEb;go_enter func131,ntmps131;go_wp2_with fail;refine H1.out.mono ?_;rintro e W2 ⟨rfl,x2⟩;have T2:=HT1.out.ext x2;have L:=T2.map.look_ok b hb2;rw [ho] at L;have L3:(Instr.lookup 142 (.map (some m)) (.string b) true).run prog W2=.ok (.tuple #[.agg #[.int .i64 0,.string ⟨#[]⟩,.string ⟨#[]⟩,.int .i64 0],.bool false]) W2:=L;have c2:W2.cell? ⟨t,0,none⟩=some (.map (some m)):=cellB T2.blk;have x3:=(Ext.refl W2).alloc (.cells #[.int .i64 0,.string ⟨#[]⟩,.string ⟨#[]⟩,.int .i64 0] 57 (0,0));have HX3:=lh ((HX1.out.trans x2).trans x3);have HT3:=lh (T2.ext x3);clear L x2 x3 T2 ho H1;go_wp2_with fail;refine (H5 _ (HEn.out.ext HX3.out) HT3.out).out.mono ?_;rintro e W4 ⟨v,rfl,hown,x4⟩;have HT4:=lh (HT3.out.ext x4);have HX4:=lh (HX3.out.trans x4);have hz3:=HX3.out.size;have hz4:=x4.size;rw [size_alloc] at hown hz3 hz4;have HO4:=lh hown;have hb3:t<(W2.heap.size+1)/\m<(W2.heap.size+1):=⟨by omega,by omega⟩;have hb4:(W2.heap.size+1)<=W4.heap.size:=hz4;have hb5:w.heap.size<=(W2.heap.size+1):=hz3;clear hz3 hz4;generalize (W2.heap.size+1)=base at *;obtain ⟨ad,cap,rfl,hn,hxl,hcl⟩:=own_slice hown;have HCL:=lh hcl;have HWS:=lh (fun k (hk:k∈withinsS l a)=>(withinsS_mem.1 hk).1);have HAll:=lh (all_within (l:=l) (a:=a) (b:=b))
    have hwl:(withinsS l a).length<=1048576:=by
     have:=(withinsS_perm l a).length_eq;have h2:=List.length_filter_le (fun x:ByteArray×Nd=>withinB x.1 a) l;simp at this;omega
    clear hown x4 hcl H5 HX3 HT3 hxl hn;obtain ⟨ws,hws⟩:∃ ws,ws=withinsS l a:=⟨_,rfl⟩;rw [<-hws] at HO4 HCL HWS HAll hwl ⊢;have HW:=lh hws;clear hws
    cases hall:ws.all fun k=>mayB (newP a b k) with
    | false =>
     have HR:=lh (show R=(10,l) from HE.out.trans (if_neg (by rw [HAll.out,hall];decide)));have HAL:=lh hall;clear hall HAll HE HMw;go_wp2_with fail;go_loopw [59] (fun iv wr=>Hid (∃ k:Nat,k<=ws.length/\iv=.int .i64 k/\(∀ x∈ws.take k,mayB (newP a b x)=true)/\Ext W4 wr)) (fun iv _=>ws.length - (intOf iv).toNat)
     case atStart=>exact ⟨0,Nat.zero_le _,rfl,by simp,Ext.refl _⟩
     case round =>
      obtain ⟨k,hk,rfl,hak,hx⟩:=hrel.out;clear hrel;have HAK:=lh hak;have HX:=lh hx;by_cases hlt2:k<ws.length
      ·obtain ⟨p,hp⟩:∃ p,ws[k]?=some p:=⟨_,List.getElem?_eq_getElem hlt2⟩;obtain ⟨gb,rfl,_,hc⟩:=HCL.out k (.string p) (by rw [List.getElem?_map,hp];rfl);have ck:=(hx.cell (lt_of_cell hc)).trans hc;have hpz:=within_size ha (HWS.out p (List.mem_of_getElem? hp));obtain ⟨hp1,hp2⟩:=hpz;have hqs:(newP a b p).size<=400:=by unfold newP;simp;omega
       have hm:=lh (HM (newP a b p) wr (by omega) (HEn.out.ext (HX4.out.trans hx))).out;have HTK:=lh (show ws.take (k+1)=ws.take k++[p] from by rw [List.take_add_one,hp];rfl);obtain ⟨q,hq⟩:∃ q,b++p.extract a.size p.size=q:=⟨_,rfl⟩;have HQ:=lh (show newP a b p=q from hq);have hez:(p.extract a.size p.size).size<=160:=by simp;omega
       rw [HQ.out] at hm hqs;clear hak hx hc hp
       cases hmq:mayB q with
       | true =>
        rw [hmq] at hm;have HMQ:=lh hmq;clear hmq;go_wp2_with fail;refine hm.out.mono ?_;rintro e w5 ⟨rfl,x5⟩;have HX5:=lh (HX.out.trans x5);clear x5;go_wp2_with fail;go_roundw
        case rel=>exact ⟨k+1,by omega,by go_num,fun x hx=>by
         rw [HTK.out] at hx;rcases List.mem_append.1 hx with h | h
         ·exact HAK.out x h
         ·simp at h;subst h;rw [HQ.out];exact HMQ.out,HX5.out⟩
        case measure=>simp [intOf];omega
       | false =>
        rw [hmq] at hm;clear hmq;go_wp2_with fail;refine hm.out.mono ?_;rintro e w5 ⟨rfl,x5⟩;have HX5:=lh (HX.out.trans x5);clear x5;go_wp2_with fail;go_ret;rw [HR.out];exact ⟨rfl,HT4.out.ext HX5.out,(HX4.out.trans HX5.out).chg _⟩
      ·exfalso;rw [List.take_of_length_le (by omega)] at hak;have:=List.all_eq_true.2 hak;rw [HAL.out] at this
       cases this
    | true =>
     have HR:=lh (show R=(0,moveL l a b) from HE.out.trans (if_pos (by rw [HAll.out,hall])));have HMV:=HMw HD.out (by rw [HAll.out,hall]);have HAL:=lh (List.all_eq_true.1 hall);clear hall HAll HE HMw;go_wp2_with fail;go_loopw [59] (fun iv wr=>Hid (∃ k:Nat,k<=ws.length/\iv=.int .i64 k/\Ext W4 wr)) (fun iv _=>ws.length - (intOf iv).toNat)
     case atStart=>exact ⟨0,Nat.zero_le _,rfl,Ext.refl _⟩
     case round =>
      obtain ⟨k,hk,rfl,hx⟩:=hrel.out;clear hrel;have HX:=lh hx;by_cases hlt2:k<ws.length
      ·obtain ⟨p,hp⟩:∃ p,ws[k]?=some p:=⟨_,List.getElem?_eq_getElem hlt2⟩;obtain ⟨gb,rfl,_,hc⟩:=HCL.out k (.string p) (by rw [List.getElem?_map,hp];rfl);have ck:=(hx.cell (lt_of_cell hc)).trans hc;have hpz:=within_size ha (HWS.out p (List.mem_of_getElem? hp));obtain ⟨hp1,hp2⟩:=hpz;have hqs:(newP a b p).size<=400:=by unfold newP;simp;omega
       have hm:=lh (HM (newP a b p) wr (by omega) (HEn.out.ext (HX4.out.trans hx))).out;rw [HAL.out p (List.mem_of_getElem? hp)] at hm;obtain ⟨q,hq⟩:∃ q,b++p.extract a.size p.size=q:=⟨_,rfl⟩;have HQ:=lh (show newP a b p=q from hq);have hez:(p.extract a.size p.size).size<=160:=by simp;omega
       rw [HQ.out] at hm hqs;clear hx hc hp;go_wp2_with fail;refine hm.out.mono ?_;rintro e w5 ⟨rfl,x5⟩;have HX5:=lh (HX.out.trans x5);clear x5;go_wp2_with fail;go_roundw
       case rel=>exact ⟨k+1,by omega,by go_num,HX5.out⟩
       case measure=>simp [intOf];omega
      ·obtain rfl:k=ws.length:=by omega
       have nlt:decide ((ws.length:Int)<(ws.length:Int))=false:=by simp
       clear hx hk hlt2;go_wp2_with fail;refine (H6 _ (HT4.out.ext HX.out)).out.mono ?_;rintro e w5 ⟨rfl,t5,c5⟩;have HO5:=lh (owns_chg (owns_ext HO4.out HX.out) c5 (fun x hx=>by simp at hx;omega));have hsz5:base<=w5.heap.size:=Nat.le_trans hb4 (Nat.le_trans HX.out.size c5.size);have HT5:=lh t5;have HC5:=lh c5;clear t5 c5 nlt;go_wp2_with (at_builtin;refine append_one el_string base _ _ _ (HO5.out.alloc _) w5.heap.size (.string a) (.tmp 75) (.tmp 77) rfl rfl rfl rfl (by rw [cell_alloc_new rfl];rfl) rfl (by omega) (by simp;omega) ?_);intro v6 w6 hown6 hg6 hv6;obtain ⟨g6,cap6,rfl,hg6b,hg6l,hcap1,hcap2⟩:=hv6;have HS:=lh (mov_start HMV.out HT5.out HC5.out (HX4.out.trans HX.out) hb3.1 hb3.2 (HW.out▸HO5.out) (HW.out▸hown6) hg6 hb5);rw [<-HW.out] at HS;have HN:=lh (show ws.length+1=(orderM l a).length from by unfold orderM;rw [HW.out];simp);clear hown6 hg6;unfold maxLen at hcap2;generalize hNN:ws.length+1=N at *;have hN2:N<=1048577:=by omega
       clear hNN hwl HAL HCL;go_wp2_with fail;go_loopw [80] (fun iv wr=>Hid (∃ k:Nat,k<=N/\iv=.int .i64 k/\MovAt w t m l room a b base (.slice (some ⟨g6,0,none⟩) N cap6) N wr k)) (fun iv _=>N - (intOf iv).toNat)
       case atStart=>exact ⟨0,Nat.zero_le _,rfl,HS.out⟩
       case round =>
        obtain ⟨k,hk,rfl,cur,hcu,tc,hoc,cc⟩:=hrel.out;clear hrel HS;by_cases hlt3:k<N
        ·obtain ⟨p,hp⟩:∃ p,(orderM l a)[k]?=some p:=⟨_,List.getElem?_eq_getElem (by rw [<-HN.out];exact hlt3)⟩;obtain ⟨n,hn1,hn2,_⟩:=moved_step HMV.out hp hcu;have ck:=hoc.cells (g:=g6) rfl k (.string p) (by rw [List.getElem?_map,hp];rfl);rw [append_kw.add_off,Nat.zero_add] at ck
         obtain ⟨hp1,hp2⟩:a.size<=p.size/\p.size<=160:=by
          have hm:=List.mem_of_getElem? hp;unfold orderM at hm;rcases List.mem_append.1 hm with h | h
          ·exact within_size ha (withinsS_mem.1 h).1
          ·simp at h;subst h;exact ⟨Nat.le_refl _,haz⟩
         have hqs:(newP a b p).size<=400:=by unfold newP;simp;omega
         have hcl:=moved_keys HMV.out hcu;have hcl2:cur.length<1048576:=by omega
         have ct:=After.at (k:=0) tc.blk
         have L4:∀ x:After wr,(Instr.lookup 142 (.map (some m)) (.string p) false).run prog x.v=.ok (.agg #[.int .i64 n.kind,.string n.data,.string n.target,.int .i64 n.time]) x.v:=fun x=>by
          have h:=(tc.ext x.x).map.look p (by unfold maxLen;omega);rw [hn1] at h;exact h
         obtain ⟨q,hq⟩:∃ q,b++p.extract a.size p.size=q:=⟨_,rfl⟩;have HQ:=lh (show newP a b p=q from hq);have hez:(p.extract a.size p.size).size<=160:=by simp;omega
         rw [HQ.out] at hqs;have HF:=fun w7 w8 w9 x7 h8 hm9 h9=>lh (mov_step (w:=w) (base:=base) (v:=.slice (some ⟨g6,0,none⟩) N cap6) (N:=N) HMV.out hcu hp hn1 tc hoc cc (w7:=w7) (w8:=w8) (w9:=w9) x7 h8 hm9 h9 hb3.1 hb3.2);rw [HQ.out] at HF;have HTC:=lh tc;have hpm:p.size<=maxLen:=by unfold maxLen;omega
         have hqm:q.size<=maxLen:=by unfold maxLen;omega
         clear hcu tc hoc cc hp hn1 hn2 hcl;obtain ⟨k7,d7,g7,tm7⟩:=n;go_wp2_with fail;refine wp_region_after_tail 16 (by kernel_rfl) (by kernel_rfl) ?_;simp only [List.take_succ_cons,List.take_zero,List.drop_succ_cons,List.drop_zero]
         repeat (go_big_quiet_step (fail))
         refine wpQuiet_nil ?_;rintro w7 ⟨⟨_,x7⟩,rfl⟩;have t7:=HTC.out.ext x7;obtain ⟨w8,hr8,hm8,ht8⟩:=t7.map.store hcl2 q hqm ⟨k7,d7,g7,tm7⟩;have hr8':(Instr.mapUpdate 142 (.map (some m)) (.string q) (.agg #[.int .i64 k7,.string d7,.string g7,.int .i64 tm7])).run prog w7=.ok () w8:=hr8;have c8:w8.cell? ⟨t,0,none⟩=some (.map (some m)):=cellB ((ht8.grown.block t (lt_of_tree t7).1 (fun e=>t7.ne (Option.some.inj e))).trans t7.blk);obtain ⟨w9,hr9,hm9,ht9⟩:=hm8.drop p hpm 0;have HF9:=HF w7 w8 w9 x7 ht8 hm9 ht9;clear L4 ct HF t7 hr8 hm8 ht8 hm9 ht9 x7 HTC;go_wp2_with fail;go_roundw
         case rel=>exact ⟨k+1,by omega,by go_num,HF9.out⟩
         case measure=>simp [intOf];omega
        ·obtain rfl:k=N:=by omega
         have nlt:decide ((k:Int)<(k:Int))=false:=by simp
         have HS:=lh (show MovAt w t m l room a b base (.slice (some ⟨g6,0,none⟩) k cap6) k wr k from ⟨cur,hcu,tc,hoc,cc⟩);clear hcu tc hoc cc;go_wp2_with fail;go_ret;exact mov_end HMV.out HS.out HN.out HR.out
   | some o =>
    obtain ⟨k1,d1,g1,tm1⟩:=o;have HD:=lh (show dirsB l a b=(decide (k1=2)||decide (k=2)) from by rw [HD.out,ho]);by_cases e1:k1=2
    ·have HE:=lh (HEb.out.trans (if_pos (by rw [HD.out];simp [e1])));clear HEb;subst e1;go_enter func131,ntmps131;go_wp2_with fail;refine H1.out.mono ?_;rintro e W2 ⟨rfl,x2⟩;have T2:=HT1.out.ext x2;have L:=T2.map.look_ok b hb2;rw [ho] at L;have L3:(Instr.lookup 142 (.map (some m)) (.string b) true).run prog W2=.ok (.tuple #[.agg #[.int .i64 2,.string d1,.string g1,.int .i64 tm1],.bool true]) W2:=L;have c2:W2.cell? ⟨t,0,none⟩=some (.map (some m)):=cellB T2.blk;have x3:=(Ext.refl W2).alloc (.cells #[.int .i64 2,.string d1,.string g1,.int .i64 tm1] 57 (0,0));have HX3:=lh ((HX1.out.trans x2).trans x3);have HT3:=lh (T2.ext x3);clear L x2 x3 T2 ho H1;go_wp2_with fail;go_ret;rw [HE.out];exact ⟨rfl,HT3.out,HX3.out.chg _⟩
    ·have e1':(k1==2)=false:=by simpa using e1
     by_cases e2:k=2
     ·have HE:=lh (HEb.out.trans (if_pos (by rw [HD.out];simp [e2])));clear HEb;subst e2;go_enter func131,ntmps131;go_wp2_with fail;refine H1.out.mono ?_;rintro e W2 ⟨rfl,x2⟩;have T2:=HT1.out.ext x2;have L:=T2.map.look_ok b hb2;rw [ho] at L;have L3:(Instr.lookup 142 (.map (some m)) (.string b) true).run prog W2=.ok (.tuple #[.agg #[.int .i64 k1,.string d1,.string g1,.int .i64 tm1],.bool true]) W2:=L;have c2:W2.cell? ⟨t,0,none⟩=some (.map (some m)):=cellB T2.blk;have b2:W2.cell? ⟨w.heap.size,0,none⟩=some (.int .i64 2):=cellB ((x2.block (ltB HB.out)).trans HB.out);have bl:w.heap.size<W2.heap.size:=ltB ((x2.block (ltB HB.out)).trans HB.out);have x3:=(Ext.refl W2).alloc (.cells #[.int .i64 k1,.string d1,.string g1,.int .i64 tm1] 57 (0,0));have HX3:=lh ((HX1.out.trans x2).trans x3);have HT3:=lh (T2.ext x3);clear L x2 x3 T2 ho H1;go_wp2_with fail;go_ret;rw [HE.out];exact ⟨rfl,HT3.out,HX3.out.chg _⟩
     ·have e2':(k==2)=false:=by simpa using e2
      have HD:=lh (show dirsB l a b=false from by rw [HD.out];simp [e1,e2]);have HE:=lh (HEb.out.trans (if_neg (by rw [HD.out];decide)));clear HEb;clear e1 e2;go_enter func131,ntmps131;go_wp2_with fail;refine H1.out.mono ?_;rintro e W2 ⟨rfl,x2⟩;have T2:=HT1.out.ext x2;have L:=T2.map.look_ok b hb2;rw [ho] at L;have L3:(Instr.lookup 142 (.map (some m)) (.string b) true).run prog W2=.ok (.tuple #[.agg #[.int .i64 k1,.string d1,.string g1,.int .i64 tm1],.bool true]) W2:=L;have c2:W2.cell? ⟨t,0,none⟩=some (.map (some m)):=cellB T2.blk;have b2:W2.cell? ⟨w.heap.size,0,none⟩=some (.int .i64 k):=cellB ((x2.block (ltB HB.out)).trans HB.out);have bl:w.heap.size<W2.heap.size:=ltB ((x2.block (ltB HB.out)).trans HB.out);have x3:=(Ext.refl W2).alloc (.cells #[.int .i64 k1,.string d1,.string g1,.int .i64 tm1] 57 (0,0));have HX3:=lh ((HX1.out.trans x2).trans x3);have HT3:=lh (T2.ext x3);clear L x2 x3 T2 ho H1;go_wp2_with fail;refine (H5 _ (HEn.out.ext HX3.out) HT3.out).out.mono ?_;rintro e W4 ⟨v,rfl,hown,x4⟩;have HT4:=lh (HT3.out.ext x4);have HX4:=lh (HX3.out.trans x4);have hz3:=HX3.out.size;have hz4:=x4.size;rw [size_alloc] at hown hz3 hz4;have HO4:=lh hown;have hb3:t<(W2.heap.size+1)/\m<(W2.heap.size+1):=⟨by omega,by omega⟩;have hb4:(W2.heap.size+1)<=W4.heap.size:=hz4;have hb5:w.heap.size<=(W2.heap.size+1):=hz3;clear hz3 hz4;generalize (W2.heap.size+1)=base at *;obtain ⟨ad,cap,rfl,hn,hxl,hcl⟩:=own_slice hown;have HCL:=lh hcl;have HWS:=lh (fun k (hk:k∈withinsS l a)=>(withinsS_mem.1 hk).1);have HAll:=lh (all_within (l:=l) (a:=a) (b:=b))
      have hwl:(withinsS l a).length<=1048576:=by
       have:=(withinsS_perm l a).length_eq;have h2:=List.length_filter_le (fun x:ByteArray×Nd=>withinB x.1 a) l;simp at this;omega
      clear hown x4 hcl H5 HX3 HT3 hxl hn;obtain ⟨ws,hws⟩:∃ ws,ws=withinsS l a:=⟨_,rfl⟩;rw [<-hws] at HO4 HCL HWS HAll hwl ⊢;have HW:=lh hws;clear hws
      cases hall:ws.all fun k=>mayB (newP a b k) with
      | false =>
       have HR:=lh (show R=(10,l) from HE.out.trans (if_neg (by rw [HAll.out,hall];decide)));have HAL:=lh hall;clear hall HAll HE HMw;go_wp2_with fail;go_loopw [59] (fun iv wr=>Hid (∃ k:Nat,k<=ws.length/\iv=.int .i64 k/\(∀ x∈ws.take k,mayB (newP a b x)=true)/\Ext W4 wr)) (fun iv _=>ws.length - (intOf iv).toNat)
       case atStart=>exact ⟨0,Nat.zero_le _,rfl,by simp,Ext.refl _⟩
       case round =>
        obtain ⟨k,hk,rfl,hak,hx⟩:=hrel.out;clear hrel;have HAK:=lh hak;have HX:=lh hx;by_cases hlt2:k<ws.length
        ·obtain ⟨p,hp⟩:∃ p,ws[k]?=some p:=⟨_,List.getElem?_eq_getElem hlt2⟩;obtain ⟨gb,rfl,_,hc⟩:=HCL.out k (.string p) (by rw [List.getElem?_map,hp];rfl);have ck:=(hx.cell (lt_of_cell hc)).trans hc;have hpz:=within_size ha (HWS.out p (List.mem_of_getElem? hp));obtain ⟨hp1,hp2⟩:=hpz;have hqs:(newP a b p).size<=400:=by unfold newP;simp;omega
         have hm:=lh (HM (newP a b p) wr (by omega) (HEn.out.ext (HX4.out.trans hx))).out;have HTK:=lh (show ws.take (k+1)=ws.take k++[p] from by rw [List.take_add_one,hp];rfl);obtain ⟨q,hq⟩:∃ q,b++p.extract a.size p.size=q:=⟨_,rfl⟩;have HQ:=lh (show newP a b p=q from hq);have hez:(p.extract a.size p.size).size<=160:=by simp;omega
         rw [HQ.out] at hm hqs;clear hak hx hc hp
         cases hmq:mayB q with
         | true =>
          rw [hmq] at hm;have HMQ:=lh hmq;clear hmq;go_wp2_with fail;refine hm.out.mono ?_;rintro e w5 ⟨rfl,x5⟩;have HX5:=lh (HX.out.trans x5);clear x5;go_wp2_with fail;go_roundw
          case rel=>exact ⟨k+1,by omega,by go_num,fun x hx=>by
           rw [HTK.out] at hx;rcases List.mem_append.1 hx with h | h
           ·exact HAK.out x h
           ·simp at h;subst h;rw [HQ.out];exact HMQ.out,HX5.out⟩
          case measure=>simp [intOf];omega
         | false =>
          rw [hmq] at hm;clear hmq;go_wp2_with fail;refine hm.out.mono ?_;rintro e w5 ⟨rfl,x5⟩;have HX5:=lh (HX.out.trans x5);clear x5;go_wp2_with fail;go_ret;rw [HR.out];exact ⟨rfl,HT4.out.ext HX5.out,(HX4.out.trans HX5.out).chg _⟩
        ·exfalso;rw [List.take_of_length_le (by omega)] at hak;have:=List.all_eq_true.2 hak;rw [HAL.out] at this
         cases this
      | true =>
       have HR:=lh (show R=(0,moveL l a b) from HE.out.trans (if_pos (by rw [HAll.out,hall])));have HMV:=HMw HD.out (by rw [HAll.out,hall]);have HAL:=lh (List.all_eq_true.1 hall);clear hall HAll HE HMw;go_wp2_with fail;go_loopw [59] (fun iv wr=>Hid (∃ k:Nat,k<=ws.length/\iv=.int .i64 k/\Ext W4 wr)) (fun iv _=>ws.length - (intOf iv).toNat)
       case atStart=>exact ⟨0,Nat.zero_le _,rfl,Ext.refl _⟩
       case round =>
        obtain ⟨k,hk,rfl,hx⟩:=hrel.out;clear hrel;have HX:=lh hx;by_cases hlt2:k<ws.length
        ·obtain ⟨p,hp⟩:∃ p,ws[k]?=some p:=⟨_,List.getElem?_eq_getElem hlt2⟩;obtain ⟨gb,rfl,_,hc⟩:=HCL.out k (.string p) (by rw [List.getElem?_map,hp];rfl);have ck:=(hx.cell (lt_of_cell hc)).trans hc;have hpz:=within_size ha (HWS.out p (List.mem_of_getElem? hp));obtain ⟨hp1,hp2⟩:=hpz;have hqs:(newP a b p).size<=400:=by unfold newP;simp;omega
         have hm:=lh (HM (newP a b p) wr (by omega) (HEn.out.ext (HX4.out.trans hx))).out;rw [HAL.out p (List.mem_of_getElem? hp)] at hm;obtain ⟨q,hq⟩:∃ q,b++p.extract a.size p.size=q:=⟨_,rfl⟩;have HQ:=lh (show newP a b p=q from hq);have hez:(p.extract a.size p.size).size<=160:=by simp;omega
         rw [HQ.out] at hm hqs;clear hx hc hp;go_wp2_with fail;refine hm.out.mono ?_;rintro e w5 ⟨rfl,x5⟩;have HX5:=lh (HX.out.trans x5);clear x5;go_wp2_with fail;go_roundw
         case rel=>exact ⟨k+1,by omega,by go_num,HX5.out⟩
         case measure=>simp [intOf];omega
        ·obtain rfl:k=ws.length:=by omega
         have nlt:decide ((ws.length:Int)<(ws.length:Int))=false:=by simp
         clear hx hk hlt2;go_wp2_with fail;refine (H6 _ (HT4.out.ext HX.out)).out.mono ?_;rintro e w5 ⟨rfl,t5,c5⟩;have HO5:=lh (owns_chg (owns_ext HO4.out HX.out) c5 (fun x hx=>by simp at hx;omega));have hsz5:base<=w5.heap.size:=Nat.le_trans hb4 (Nat.le_trans HX.out.size c5.size);have HT5:=lh t5;have HC5:=lh c5;clear t5 c5 nlt;go_wp2_with (at_builtin;refine append_one el_string base _ _ _ (HO5.out.alloc _) w5.heap.size (.string a) (.tmp 75) (.tmp 77) rfl rfl rfl rfl (by rw [cell_alloc_new rfl];rfl) rfl (by omega) (by simp;omega) ?_);intro v6 w6 hown6 hg6 hv6;obtain ⟨g6,cap6,rfl,hg6b,hg6l,hcap1,hcap2⟩:=hv6;have HS:=lh (mov_start HMV.out HT5.out HC5.out (HX4.out.trans HX.out) hb3.1 hb3.2 (HW.out▸HO5.out) (HW.out▸hown6) hg6 hb5);rw [<-HW.out] at HS;have HN:=lh (show ws.length+1=(orderM l a).length from by unfold orderM;rw [HW.out];simp);clear hown6 hg6;unfold maxLen at hcap2;generalize hNN:ws.length+1=N at *;have hN2:N<=1048577:=by omega
         clear hNN hwl HAL HCL;go_wp2_with fail;go_loopw [80] (fun iv wr=>Hid (∃ k:Nat,k<=N/\iv=.int .i64 k/\MovAt w t m l room a b base (.slice (some ⟨g6,0,none⟩) N cap6) N wr k)) (fun iv _=>N - (intOf iv).toNat)
         case atStart=>exact ⟨0,Nat.zero_le _,rfl,HS.out⟩
         case round =>
          obtain ⟨k,hk,rfl,cur,hcu,tc,hoc,cc⟩:=hrel.out;clear hrel HS;by_cases hlt3:k<N
          ·obtain ⟨p,hp⟩:∃ p,(orderM l a)[k]?=some p:=⟨_,List.getElem?_eq_getElem (by rw [<-HN.out];exact hlt3)⟩;obtain ⟨n,hn1,hn2,_⟩:=moved_step HMV.out hp hcu;have ck:=hoc.cells (g:=g6) rfl k (.string p) (by rw [List.getElem?_map,hp];rfl);rw [append_kw.add_off,Nat.zero_add] at ck
           obtain ⟨hp1,hp2⟩:a.size<=p.size/\p.size<=160:=by
            have hm:=List.mem_of_getElem? hp;unfold orderM at hm;rcases List.mem_append.1 hm with h | h
            ·exact within_size ha (withinsS_mem.1 h).1
            ·simp at h;subst h;exact ⟨Nat.le_refl _,haz⟩
           have hqs:(newP a b p).size<=400:=by unfold newP;simp;omega
           have hcl:=moved_keys HMV.out hcu;have hcl2:cur.length<1048576:=by omega
           have ct:=After.at (k:=0) tc.blk
           have L4:∀ x:After wr,(Instr.lookup 142 (.map (some m)) (.string p) false).run prog x.v=.ok (.agg #[.int .i64 n.kind,.string n.data,.string n.target,.int .i64 n.time]) x.v:=fun x=>by
            have h:=(tc.ext x.x).map.look p (by unfold maxLen;omega);rw [hn1] at h;exact h
           obtain ⟨q,hq⟩:∃ q,b++p.extract a.size p.size=q:=⟨_,rfl⟩;have HQ:=lh (show newP a b p=q from hq);have hez:(p.extract a.size p.size).size<=160:=by simp;omega
           rw [HQ.out] at hqs;have HF:=fun w7 w8 w9 x7 h8 hm9 h9=>lh (mov_step (w:=w) (base:=base) (v:=.slice (some ⟨g6,0,none⟩) N cap6) (N:=N) HMV.out hcu hp hn1 tc hoc cc (w7:=w7) (w8:=w8) (w9:=w9) x7 h8 hm9 h9 hb3.1 hb3.2);rw [HQ.out] at HF;have HTC:=lh tc;have hpm:p.size<=maxLen:=by unfold maxLen;omega
           have hqm:q.size<=maxLen:=by unfold maxLen;omega
           clear hcu tc hoc cc hp hn1 hn2 hcl;obtain ⟨k7,d7,g7,tm7⟩:=n;go_wp2_with fail;refine wp_region_after_tail 16 (by kernel_rfl) (by kernel_rfl) ?_;simp only [List.take_succ_cons,List.take_zero,List.drop_succ_cons,List.drop_zero]
           repeat (go_big_quiet_step (fail))
           refine wpQuiet_nil ?_;rintro w7 ⟨⟨_,x7⟩,rfl⟩;have t7:=HTC.out.ext x7;obtain ⟨w8,hr8,hm8,ht8⟩:=t7.map.store hcl2 q hqm ⟨k7,d7,g7,tm7⟩;have hr8':(Instr.mapUpdate 142 (.map (some m)) (.string q) (.agg #[.int .i64 k7,.string d7,.string g7,.int .i64 tm7])).run prog w7=.ok () w8:=hr8;have c8:w8.cell? ⟨t,0,none⟩=some (.map (some m)):=cellB ((ht8.grown.block t (lt_of_tree t7).1 (fun e=>t7.ne (Option.some.inj e))).trans t7.blk);obtain ⟨w9,hr9,hm9,ht9⟩:=hm8.drop p hpm 0;have HF9:=HF w7 w8 w9 x7 ht8 hm9 ht9;clear L4 ct HF t7 hr8 hm8 ht8 hm9 ht9 x7 HTC;go_wp2_with fail;go_roundw
           case rel=>exact ⟨k+1,by omega,by go_num,HF9.out⟩
           case measure=>simp [intOf];omega
          ·obtain rfl:k=N:=by omega
           have nlt:decide ((k:Int)<(k:Int))=false:=by simp
           have HS:=lh (show MovAt w t m l room a b base (.slice (some ⟨g6,0,none⟩) k cap6) k wr k from ⟨cur,hcu,tc,hoc,cc⟩);clear hcu tc hoc cc;go_wp2_with fail;go_ret;exact mov_end HMV.out HS.out HN.out HR.out
  ·have HR:=lh (HEa.out.trans (if_neg hh0));have h1:(h==0)=false:=by simpa using hh0
   have h2:(h != 0)=true:=by simpa using hh0
   clear hh0 HMv hh;go_enter func131,ntmps131;go_wp2_with fail;refine H1.out.mono ?_;rintro e W2 ⟨rfl,x2⟩;have HT2:=lh (HT1.out.ext x2);have HX2:=lh (HX1.out.trans x2);clear x2;go_wp2_with fail;go_ret;rw [HR.out];exact ⟨rfl,HT2.out,HX2.out.chg _⟩
end
section
theorem clone_end {w:World} {es:Array MapEntry} {clock U room:Nat} {l:Nodes} (HM:∀ w2:World,w2.heap[w.heap.size]?=some (.map es clock)->MapL w2 w.heap.size l) (hU:usedL l=U) :
  TreeAt (((w.alloc (.map es clock)).alloc (.cells #[.map (some w.heap.size),.int .i64 (U:Nat),.int .i64 (room:Nat)] 144 (0,0))).drew) (w.heap.size+1) w.heap.size l room /\
  Ext w (((w.alloc (.map es clock)).alloc (.cells #[.map (some w.heap.size),.int .i64 (U:Nat),.int .i64 (room:Nat)] 144 (0,0))).drew):=by
 subst hU;refine ⟨⟨?_,HM _ ?_⟩,(((Ext.refl w).alloc _).alloc _).drew⟩
 ·have:=block_alloc_new (w.alloc (.map es clock)) (.cells #[.map (some w.heap.size),.int .i64 (usedL l:Nat),.int .i64 (room:Nat)] 144 (0,0));rw [size_alloc] at this;exact this
 ·show ((w.alloc (.map es clock)).alloc _).heap[w.heap.size]?=_
  rw [block_alloc_old (by rw [size_alloc];omega)];exact block_alloc_new _ _
set_option maxRecDepth 100000 in
set_option maxHeartbeats 2000000 in
theorem dclone_any (t m:Nat) (l:Nodes) (room:Nat) (w:World) (T:TreeAt w t m l room) :
  Calls prog 94 #[.pointer (some ⟨t,0,none⟩)] w
   fun e w'=>e=.returned (.pointer (some ⟨w.heap.size+1,0,none⟩))/\TreeAt w' (w.heap.size+1) w.heap.size l room/\Ext w w':=by
 obtain ⟨hnd,hsm,D,⟨es,clock,hb,hrest⟩,hread⟩:=T.map;have HC:=lh (AnyW.maps_Clone Tryz.mapsClone m es clock w.drew hb);have HM:=lh (show ∀ w2,w2.heap[w.heap.size]?=some (.map es clock)->MapL w2 w.heap.size l from fun w2 h=>⟨hnd,hsm,D,⟨es,clock,h,hrest⟩,hread⟩);have c0:w.cell? ⟨t,0,none⟩=some (.map (some m)):=cellB T.blk;have c1:w.cell? ⟨t,1,none⟩=some (.int .i64 (usedL l:Nat)):=cellB T.blk;have c2:w.cell? ⟨t,2,none⟩=some (.int .i64 (room:Nat)):=cellB T.blk;have hlt:=(lt_of_tree T).1;have HT:=lh T;clear T hnd hsm hrest hread hb;obtain ⟨U,hU⟩:∃ U,usedL l=U:=⟨_,rfl⟩;rw [hU] at c1;have HU:=lh hU;clear hU;go_enter func94,ntmps94;go_wp2_with fail;go_region_held (fun w'=>w'.cell? ⟨t,0,none⟩=some (.map (some m))/\w'.cell? ⟨t,1,none⟩=some (.int .i64 (U:Nat))/\w'.cell? ⟨t,2,none⟩=some (.int .i64 (room:Nat))) (go_keep) ((go_at_call 160;refine (HC.out).mono ?_;rintro e w1 ⟨rfl,rfl⟩));go_wp2_with fail;go_ret;exact ⟨rfl,clone_end HM.out HU.out⟩
set_option maxHeartbeats 800000 in
theorem TreeAt.fresh (w:World) (room:Nat):TreeAt ((w.alloc (.map #[] 0)).alloc (.cells #[.map (some w.heap.size),.int .i64 0,.int .i64 (room:Nat)] 144 (0,0))) (w.heap.size+1) w.heap.size [] room:=by
 refine ⟨?_,(MapL.made w).ext ((Ext.refl _).alloc _)⟩;have:=block_alloc_new (w.alloc (.map #[] 0)) (.cells #[.map (some w.heap.size),.int .i64 0,.int .i64 (room:Nat)] 144 (0,0));rw [size_alloc] at this;exact this
end
end Go.Proofs.YtldppmjjgljinaaGreatDoor
