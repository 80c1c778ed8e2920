import Derived.Test.YtodickpibbbiiaaGreatDoorWkD1
import Derived.Test.YtodickpibbbiiaaGreatDoorWkA1
import Derived.Deep.RegionHeld
import Derived.Deep.RegionHeldLaw
import Derived.KernelRfl
import Derived.Deep.MidRow
open Go.Proofs.Tryz
namespace Go.Proofs.YtodickpibbbiiaaGreatDoor
open Go.RowKit
section
theorem new_end {w W2 w3:World} {room:Nat} (h2:W2=(w.alloc (.map #[] 0)).alloc (.cells #[.map (some w.heap.size),.int .i64 0,.int .i64 (room:Nat)] 174 (0,0))) (t3:TreeAt w3 (W2.heap.size+1) W2.heap.size [] room) (x3:Ext W2 w3) :
  ∃ M,DkAt (w3.alloc (.cells #[.pointer (some ⟨w.heap.size+1,0,none⟩),.pointer (some ⟨w.heap.size+2+1,0,none⟩),.slice none 0 0,.bool false,.int .i64 0] 178 (0,0))) w3.heap.size M [] (Dk.made room) /\
   Ext w (w3.alloc (.cells #[.pointer (some ⟨w.heap.size+1,0,none⟩),.pointer (some ⟨w.heap.size+2+1,0,none⟩),.slice none 0 0,.bool false,.int .i64 0] 178 (0,0)))/\∀ b∈M,w.heap.size<=b:=by
 have hs:W2.heap.size=w.heap.size+2:=by rw [h2,size_alloc,size_alloc]
 have x2:Ext w W2:=by rw [h2];exact ((Ext.refl w).alloc _).alloc _
 have t2:TreeAt W2 (w.heap.size+1) w.heap.size [] room:=by rw [h2];exact TreeAt.fresh w room
 have hx:=x3.size;have l3:=lt_of_tree t3;rw [hs] at t3 l3;refine ⟨_,⟨w.heap.size+1,w.heap.size,w.heap.size+2+1,w.heap.size+2,.slice none 0 0,[],⟨block_alloc_new _ _,(t2.ext x3).ext ((Ext.refl _).alloc _),t3.ext ((Ext.refl _).alloc _),World.ownsRow_nil _ _ _ _,fun k v x h=>(by simp at h),?_,fun b hb=>(by simp [Value.ownBlock] at hb),fun b hb=>(by cases hb)⟩,rfl⟩,(x2.trans x3).alloc _,?_⟩
 ·simp only [List.nodup_cons,List.mem_cons,List.not_mem_nil,not_or,or_false,not_false_eq_true,List.nodup_nil,and_true];omega
 ·intro b hb;rcases List.mem_append.1 hb with hb | hb
  ·simp only [List.mem_cons,List.not_mem_nil,or_false] at hb;omega
  ·have:=mem_rowB.1 hb;simp [Value.ownBlock] at this
set_option maxRecDepth 100000 in
set_option maxHeartbeats 2000000 in
theorem New_ok (room:Nat) (w:World) (h1:1024<=room) (h2:room<=1048576) :
  Calls prog 47 #[.int .i64 (room:Nat)] w fun e w'=>∃ d M,e=.returned (.tuple #[.pointer (some ⟨d,0,none⟩),.int .i64 0])/\DkAt w' d M [] (Dk.made room)/\Ext w w'/\∀ b∈M,w.heap.size<=b:=by
 have hmm:=@run_makeMap prog;obtain ⟨W2,hW2⟩:∃ W2,W2=(w.alloc (.map #[] 0)).alloc (.cells #[.map (some w.heap.size),.int .i64 0,.int .i64 (room:Nat)] 174 (0,0)):=⟨_,rfl⟩;have HC:=lh (dclone_any (w.heap.size+1) w.heap.size [] room W2 (hW2▸TreeAt.fresh w room));have HEnd:=fun w3 t3 x3=>lh (new_end (w:=w) (W2:=W2) (w3:=w3) (room:=room) hW2 t3 x3);have hs:W2.heap.size=w.heap.size+2:=by rw [hW2,size_alloc,size_alloc]
 rw [hs] at HC;clear hs;subst hW2;go_enter func47,ntmps47;go_wp2_with fail;refine HC.out.mono ?_;rintro e w3 ⟨rfl,t3,x3⟩;have HE:=HEnd w3 (by rw [size_alloc,size_alloc];exact t3) x3;clear t3 x3 HEnd hmm;go_wp2_with fail;go_ret2;obtain ⟨M,h1,h2,h3⟩:=HE.out;exact ⟨_,M,rfl,h1,h2,h3⟩
end
section
open Go.Sort (Holds)
open Go.Maps (has_true_of_atKey)
def readE (l:Nodes) (p:ByteArray):Nd×Int:=if mayB p then (match findA l p with | some n=>(n,0) | none=>(nd0,5)) else (nd0,10)
theorem ret_node {w:World} {fn:Func} {p u:Tmp} (h:fn.results=#[.cell p 84,.tmp u]) (tmps:Array Value) (g:Nat) (k tm:Int) (d e:ByteArray) (hp:tmps.getD p undef=.pointer (some ⟨g,0,none⟩)) (hg:w.heap[g]?=some (.cells #[.int .i64 k,.string d,.string e,.int .i64 tm] 84 (0,0))) :
  (results fn tmps).run prog w=.ok (.tuple #[.agg #[.int .i64 k,.string d,.string e,.int .i64 tm],tmps.getD u undef]) w :=
 results_row1 h tmps w g 84 _ (0,0) _ hp hg underlying84 rfl (by kernel_rfl)
theorem set4 {w:World} {g:Nat} {a b c d a' b' c' d':Value} {t:TypeId} (h:w.heap[g]?=some (.cells #[a,b,c,d] t (0,0))) :
  ((((w.setCell ⟨g,0,none⟩ a').setCell ⟨g,1,none⟩ b').setCell ⟨g,2,none⟩ c').setCell ⟨g,3,none⟩ d').heap[g]?=some (.cells #[a',b',c',d'] t (0,0)):=by
 rw [setCellB (setCellB (setCellB (setCellB h)))];rfl
theorem set4_alloc {w:World} {o:Obj} {g:Nat} {a b c d a' b' c' d':Value} {t:TypeId} (h:w.heap[g]?=some (.cells #[a,b,c,d] t (0,0))) :
  (((((w.setCell ⟨g,0,none⟩ a').setCell ⟨g,1,none⟩ b').setCell ⟨g,2,none⟩ c').setCell ⟨g,3,none⟩ d').alloc o).heap[g]?=some (.cells #[a',b',c',d'] t (0,0)) :=
 (block_alloc_old (ltB (set4 h))).trans (set4 h)
theorem set4_ext {w0 w:World} {g:Nat} {a' b' c' d':Value} (x:Ext w0 w) (h:w0.heap.size<=g):Ext w0 ((((w.setCell ⟨g,0,none⟩ a').setCell ⟨g,1,none⟩ b').setCell ⟨g,2,none⟩ c').setCell ⟨g,3,none⟩ d') :=
 (((x.setCell h _).setCell h _).setCell h _).setCell h _
set_option maxRecDepth 100000 in
set_option maxHeartbeats 2000000 in
theorem Read_any {w:World} {d:Nat} {M I:List Nat} {D:Dk} (h:DkAt w d M I D) (E:Env w) (p:ByteArray) (hp:p.size<4294967281) :
  Calls prog 54 #[.pointer (some ⟨d,0,none⟩),.string p] w fun e w'=>e=.returned (.tuple #[nv (readE D.live p).1,.int .i64 (readE D.live p).2])/\Ext w w':=by
 have HR:=lh (show readE D.live p=if mayB p then (match findA D.live p with | some n=>(n,(0:Int)) | none=>(nd0,5)) else (nd0,10) from rfl);obtain ⟨lt,lm,st,sm,lg,vs,h,hM⟩:=h;obtain ⟨W1,hW1⟩:∃ W1,W1=w.alloc (.cells #[.int .i64 0,.string ⟨#[]⟩,.string ⟨#[]⟩,.int .i64 0] 84 (0,0)):=⟨_,rfl⟩;have x1:Ext w W1:=hW1▸(Ext.refl w).alloc _;have hb1:=(x1.block (ltB h.blk)).trans h.blk;have c0:W1.cell? ⟨d,0,none⟩=some (.pointer (some ⟨lt,0,none⟩)):=cellB hb1;have H1:=lh (dis_any d _ W1 c0);have H2:=lh (may_any p W1 hp (E.ext x1));have HX:=lh x1;have HI:=lh h;have HB:=lh (show W1.heap[w.heap.size]?=some (.cells #[.int .i64 0,.string ⟨#[]⟩,.string ⟨#[]⟩,.int .i64 0] 84 (0,0)) from by rw [hW1];exact block_alloc_new _ _);have hp2:p.size<=maxLen:=by unfold maxLen;omega
 have hdl:=ltB h.blk;clear h hM x1 hb1 c0 E;subst hW1;generalize readE D.live p=R at *
 cases hm:mayB p with
 | false =>
  have HR2:=lh (show R=(nd0,10) from by rw [HR.out,hm];rfl);rw [hm] at H2;go_enter func54,ntmps54;go_wp2_with fail;refine H1.out.mono ?_;rintro e w1 ⟨rfl,hw1⟩;obtain rfl:=hw1.symm;clear hw1;go_wp2_with fail;refine H2.out.mono ?_;rintro e w2 ⟨rfl,x2⟩;have hb2:=(x2.block (ltB HB.out)).trans HB.out;have b0:w2.cell? ⟨w.heap.size,0,none⟩=some (.int .i64 0):=cellB hb2;have b1:w2.cell? ⟨w.heap.size,1,none⟩=some (.string ⟨#[]⟩):=cellB hb2;have b2:w2.cell? ⟨w.heap.size,2,none⟩=some (.string ⟨#[]⟩):=cellB hb2;have b3:w2.cell? ⟨w.heap.size,3,none⟩=some (.int .i64 0):=cellB hb2;have g0:∀ k,w2.frozen? ⟨w.heap.size,k,none⟩=false:=fun k=>frozenB hb2;have HX2:=lh (HX.out.trans x2);have HB2:=lh hb2;clear x2 hb2;go_wp2_with fail;rw [HR2.out];exact bodyPost_ret (ret_node rfl _ w.heap.size 0 0 ⟨#[]⟩ ⟨#[]⟩ rfl (set4 HB2.out)) rfl ⟨rfl,set4_ext HX2.out (Nat.le_refl _)⟩
 | true =>
  rw [hm] at H2
  cases hf:findA D.live p with
  | none =>
   have HR2:=lh (show R=(nd0,5) from by rw [HR.out,hm,hf];rfl);go_enter func54,ntmps54;go_wp2_with fail;refine H1.out.mono ?_;rintro e w1 ⟨rfl,hw1⟩;obtain rfl:=hw1.symm;clear hw1;go_wp2_with fail;refine H2.out.mono ?_;rintro e w2 ⟨rfl,x2⟩;have hb2:=(x2.block (ltB HB.out)).trans HB.out;have x02:=HX.out.trans x2;have t2:=HI.out.live.ext x02;have bd:=(x02.block hdl).trans HI.out.blk;have a0:w2.cell? ⟨d,0,none⟩=some (.pointer (some ⟨lt,0,none⟩)):=cellB bd;have a1:w2.cell? ⟨lt,0,none⟩=some (.map (some lm)):=cellB t2.blk;have L:=t2.map.look_ok p hp2;rw [hf] at L;have L2:(Instr.lookup 172 (.map (some lm)) (.string p) true).run prog w2=.ok (.tuple #[.agg #[.int .i64 0,.string ⟨#[]⟩,.string ⟨#[]⟩,.int .i64 0],.bool false]) w2:=L;have b0:w2.cell? ⟨w.heap.size,0,none⟩=some (.int .i64 0):=cellB hb2;have b1:w2.cell? ⟨w.heap.size,1,none⟩=some (.string ⟨#[]⟩):=cellB hb2;have b2:w2.cell? ⟨w.heap.size,2,none⟩=some (.string ⟨#[]⟩):=cellB hb2;have b3:w2.cell? ⟨w.heap.size,3,none⟩=some (.int .i64 0):=cellB hb2;have g0:∀ k,w2.frozen? ⟨w.heap.size,k,none⟩=false:=fun k=>frozenB hb2;have hlt:w.heap.size<w2.heap.size:=ltB hb2;have HX3:=lh x02;have HB3:=lh hb2;clear L x2 hb2 x02 t2 bd hf;go_wp2_with fail;rw [HR2.out];exact bodyPost_ret (ret_node rfl _ w.heap.size 0 0 ⟨#[]⟩ ⟨#[]⟩ rfl (set4_alloc HB3.out)) rfl ⟨rfl,(set4_ext HX3.out (Nat.le_refl _)).alloc _⟩
  | some n =>
   obtain ⟨k7,d7,g7,t7⟩:=n;have HR2:=lh (show R=(⟨k7,d7,g7,t7⟩,0) from by rw [HR.out,hm,hf];rfl);go_enter func54,ntmps54;go_wp2_with fail;refine H1.out.mono ?_;rintro e w1 ⟨rfl,hw1⟩;obtain rfl:=hw1.symm;clear hw1;go_wp2_with fail;refine H2.out.mono ?_;rintro e w2 ⟨rfl,x2⟩;have hb2:=(x2.block (ltB HB.out)).trans HB.out;have x02:=HX.out.trans x2;have t2:=HI.out.live.ext x02;have bd:=(x02.block hdl).trans HI.out.blk;have a0:w2.cell? ⟨d,0,none⟩=some (.pointer (some ⟨lt,0,none⟩)):=cellB bd;have a1:w2.cell? ⟨lt,0,none⟩=some (.map (some lm)):=cellB t2.blk;have L:=t2.map.look_ok p hp2;rw [hf] at L;have L2:(Instr.lookup 172 (.map (some lm)) (.string p) true).run prog w2=.ok (.tuple #[.agg #[.int .i64 k7,.string d7,.string g7,.int .i64 t7],.bool true]) w2:=L;have b0:w2.cell? ⟨w.heap.size,0,none⟩=some (.int .i64 0):=cellB hb2;have b1:w2.cell? ⟨w.heap.size,1,none⟩=some (.string ⟨#[]⟩):=cellB hb2;have b2:w2.cell? ⟨w.heap.size,2,none⟩=some (.string ⟨#[]⟩):=cellB hb2;have b3:w2.cell? ⟨w.heap.size,3,none⟩=some (.int .i64 0):=cellB hb2;have g0:∀ k,w2.frozen? ⟨w.heap.size,k,none⟩=false:=fun k=>frozenB hb2;have hlt:w.heap.size<w2.heap.size:=ltB hb2;have HX3:=lh x02;have HB3:=lh hb2;clear L x2 hb2 x02 t2 bd hf;go_wp2_with fail;rw [HR2.out];exact bodyPost_ret (ret_node rfl _ w.heap.size k7 t7 d7 g7 rfl (set4_alloc HB3.out)) rfl ⟨rfl,(set4_ext HX3.out (Nat.le_refl _)).alloc _⟩
end
section
open Go.Sort (Holds)
open Go.Maps (has_true_of_atKey)
def namesL (p:ByteArray) (ks:List (List UInt8)):List (List UInt8):=(ks.filter fun k=>decide (parentR (bsL k)=p)).map fun k=>(baseR (bsL k)).data.toList
def listS (l:Nodes) (p:ByteArray):List ByteArray:=((namesL p (keysD l)).mergeSort fun x y=>decide (x<=y)).map bsL
def listE (l:Nodes) (p:ByteArray):List ByteArray×Int:=if p.toList.isEmpty||mayB p then (if dirE l p=0 then (listS l p,0) else ([],dirE l p)) else ([],10)
theorem names_snoc (p:ByteArray) (ks:List (List UInt8)) (k:List UInt8):namesL p (ks++[k])=namesL p ks++(if decide (parentR (bsL k)=p) then [(baseR (bsL k)).data.toList] else []):=by
 unfold namesL;rw [List.filter_append,List.map_append,List.filter_cons]
 cases decide (parentR (bsL k)=p) <;> rfl
theorem names_len (p:ByteArray) (ks:List (List UInt8)):(namesL p ks).length<=ks.length:=by
 unfold namesL;rw [List.length_map];exact List.length_filter_le _ _
theorem sort_names {l:Nodes} {p:ByteArray} {ss:List (List UInt8)} (h:ss.Perm (keysD l)):((namesL p ss).mergeSort fun x y=>decide (x<=y)).map bsL=listS l p:=by
 unfold listS;rw [show ((namesL p ss).mergeSort fun x y=>decide (x<=y))=(namesL p (keysD l)).mergeSort fun x y=>decide (x<=y) from mergeSort_of_perm ((h.filter _).map _)]
def NmAt (w0 wr:World) (m n:Nat) (D:DataW Value) (p:ByteArray) (v:Value):Prop :=
 ∃ (left:Lit->Bool) (cnt:Nat) (ss:List (List UInt8)),wr.ranges prog 9 RN m w0.heap.size n D left cnt/\ss.length+cnt<=Maps.size D/\wr.ownsRow w0.heap.size 9 1 v (namesL p ss).length ((namesL p ss).map encStr)/\Collected D left ss/\Ext w0 wr
theorem nm_skip {w0 w2 w3:World} {m n:Nat} {D:DataW Value} {p:ByteArray} {v:Value} {left:Lit->Bool} {cnt:Nat} {ss:List (List UInt8)} {x:List UInt8} (hrg:w2.ranges prog 9 RN m w0.heap.size n D left cnt) (x3:Ext w2 w3) (hc:ss.length+cnt+1<=Maps.size D)
  (hrow:w2.ownsRow w0.heap.size 9 1 v (namesL p ss).length ((namesL p ss).map encStr)) (hC:Collected D left (ss++[x])) (hs:namesL p (ss++[x])=namesL p ss) (hx0:Ext w0 w2):NmAt w0 w3 m n D p v :=
 ⟨left,cnt,ss++[x],hrg.kept x3.grownBy (by simp) (by simp),by simp;omega,by rw [hs];exact owns_ext hrow x3,hC,hx0.trans x3⟩
theorem nm_add {w0 w2 w3 w4:World} {o:Obj} {m n:Nat} {D:DataW Value} {p b:ByteArray} {v v':Value} {left:Lit->Bool} {cnt:Nat} {ss:List (List UInt8)} {x:List UInt8} (hrg:w2.ranges prog 9 RN m w0.heap.size n D left cnt) (x3:Ext w2 w3) (hc:ss.length+cnt+1<=Maps.size D)
  (hrow:w3.ownsRow w0.heap.size 9 1 v (namesL p ss).length ((namesL p ss).map encStr)) (hown:w4.ownsRow w0.heap.size 9 1 v' ((namesL p ss).length+1) ((namesL p ss).map encStr++[.string b])) (hg:(w3.alloc o).grownBy w4 v.ownBlock)
  (hC:Collected D left (ss++[x])) (hs:namesL p (ss++[x])=namesL p ss++[b.data.toList]) (hx0:Ext w0 w2) (hm:m<w0.heap.size):NmAt w0 w4 m n D p v'/\w4.rangeLeft m w0.heap.size=cnt:=by
 have h3:=hrg.kept x3.grownBy (by simp) (by simp);have hge:=own_block_ge hrow;have h4:=(h3.alloc o).kept hg (fun e=>by have:=hge _ e.symm;omega) (row_ne_iter hrow h3);have z0:=Below.grown ((hx0.trans x3).alloc o) hg ((hx0.trans x3).alloc o).size (fun j hj=>hge j hj);refine ⟨⟨left,cnt,ss++[x],h4,by simp;omega,?_,hC,z0⟩,h4.left_eq⟩
 ·rw [hs];simp only [List.length_append,List.length_singleton,List.map_append,List.map_cons,List.map_nil];exact hown
theorem names_end {w0 wr:World} {l:Nodes} {p:ByteArray} {ss:List (List UInt8)} {g cap n:Nat} {cur:Array Value} {os:Array Obj} (hx:Ext w0 wr) (hp:ss.Perm (keysD l)) (hbase:w0.heap.size<=g) (hb:wr.heap[g]?=some (.cells cur 9 (0,0))) (h1:(namesL p ss).length<=cap) (h2:cap<=maxLen) (h3:cur.size=cap*1) :
  (Go.Sort.grow (Go.Sort.putRow encStr (Go.Sort.ahead wr n) g 0 ((namesL p ss).mergeSort fun x y=>decide (x<=y)).toArray) os).ownsRow w0.heap.size 9 1 (.slice (some ⟨g,0,none⟩) (namesL p ss).length cap) (listS l p).length ((listS l p).map Value.string) /\
  Ext w0 (Go.Sort.grow (Go.Sort.putRow encStr (Go.Sort.ahead wr n) g 0 ((namesL p ss).mergeSort fun x y=>decide (x<=y)).toArray) os):=by
 have hs:=ownsRow_sorted (ss:=namesL p ss) (ts:=(namesL p ss).mergeSort fun x y=>decide (x<=y)) (os:=os) (n:=n) (by simp) hbase hb h1 h2 h3;refine ⟨?_,?_⟩
 ·rw [<-sort_names hp,<-enc_map];simp only [List.length_map,List.length_mergeSort];exact hs
 ·exact Below.grown hx (grownBy_sorted _) hx.size (fun j hj=>by cases hj;exact hbase)
theorem owns_base {W:World} {base base':Nat} {e:TypeId} {size:Nat} {v:Value} {k:Nat} {xs:List Value} (h:W.ownsRow base e size v k xs) (hb:base'<=base):W.ownsRow base' e size v k xs:=by
 refine ⟨h.1,?_⟩;rcases h.2 with h1 | ⟨g,cap,cur,hv,hg,hh,hr⟩
 ·exact .inl h1
 ·exact .inr ⟨g,cap,cur,hv,Nat.le_trans hb hg,hh,hr⟩
def ListPost (w:World) (R:List ByteArray×Int) (e:Ending) (w':World):Prop:=∃ v,e=.returned (.tuple #[v,.int .i64 R.2])/\w'.ownsRow w.heap.size 9 1 v R.1.length (R.1.map Value.string)/\Ext w w'
theorem ListPost.none {w w':World} {R:List ByteArray×Int} {n:Int} (hR:R=([],n)) (x:Ext w w'):ListPost w R (.returned (.tuple #[.slice none 0 0,.int .i64 n])) w':=by
 subst hR;exact ⟨_,rfl,World.ownsRow_nil _ _ _ _,x⟩
theorem keyW {D:DataW Value} {l:Nodes} (hread:∀ s:ByteArray,Maps.has D (.string s.data.toList)=(findA l s).isSome/\∀ z,D.atKey (.string s.data.toList) z=(match findA l s with | some n=>.held (nv n) | none=>z)) (hk:∀ x∈l,x.1.size<=160) :
  ∀ x:List UInt8,Maps.has D (.string x)=true->(bsL x).size<=160:=fun x hx=>by
 have:=(hread (bsL x)).1;rw [show (bsL x).data.toList=x from rfl,hx] at this;obtain ⟨y,hy,e⟩:=List.mem_map.1 (findA_isSome.1 this.symm);rw [<-e];exact hk y hy
set_option maxHeartbeats 8000000 in
set_option maxRecDepth 100000 in
theorem List_any {w:World} {d:Nat} {M I:List Nat} {D:Dk} (h:DkAt w d M I D) (O:DkOk D) (E:Env w) (p:ByteArray) (hp:p.size<4294967281) :
  Calls prog 109 #[.pointer (some ⟨d,0,none⟩),.string p] w (ListPost w (listE D.live p)):=by
 have HR:=lh (show listE D.live p=if p.toList.isEmpty||mayB p then (if dirE D.live p=0 then (listS D.live p,0) else ([],dirE D.live p)) else ([],10) from rfl);obtain ⟨lt,lm,st,sm,lg,vs,h,hM⟩:=h;have c0:w.cell? ⟨d,0,none⟩=some (.pointer (some ⟨lt,0,none⟩)):=cellB h.blk;have H1:=lh (dis_any d _ w c0);have H2:=lh (may_any p w hp E);have H3:=fun w x=>lh (ddir_any lt lm D.live D.room p w x (by unfold maxLen;omega) (O.live.nz p));have H4:=fun k w hk E=>lh (parent_any (bsL k) w hk E);have H5:=fun k w hk E=>lh (base_any (bsL k) w hk E);have SS:=fun blk off cap ss w h1 h2 h3=>lh (Tryz.slices_Sort_string blk off cap ss w h1 h2 h3);have SN:=fun p cap w=>lh (Tryz.slices_Sort_string_none p cap w);have HT:=lh h.live;have HD:=lh h.blk;have hu:=O.live.used;have hr2:=O.r2;have hlen:=len_used D.live;have hl2:D.live.length<=1048576:=by omega
 have HK:=lh (show ∀ x∈D.live,x.1.size<=160 from fun x hx=>mayB_size (O.live.may x hx));have HE:=lh E;have hdl:=ltB h.blk;clear h hM O E hu hr2 hlen;generalize D.live=l at *;generalize D.room=room at *;generalize hRR:listE l p=R at *;generalize hEE:dirE l p=ed at *;clear hRR hEE
 cases hpe:(p.toList.isEmpty||mayB p) with
 | false =>
  have HR2:=lh (HR.out.trans (if_neg (by rw [hpe];decide)));obtain ⟨q1,q2⟩:=Bool.or_eq_false_iff.1 hpe;rw [q2] at H2;have q3:p.toList≠[]:=by intro e;rw [e] at q1;cases q1
  have q4:(!p.toList.isEmpty)=true:=by rw [q1];rfl
  clear hpe HR q2;go_enter func109,ntmps109;go_wp2_with fail;refine H1.out.mono ?_;rintro e w1 ⟨rfl,hw1⟩;obtain rfl:=hw1.symm;clear hw1;go_wp2_with fail;refine H2.out.mono ?_;rintro e w2 ⟨rfl,x2⟩;have HX2:=lh x2;clear x2;go_wp2_with fail;go_ret2;exact ListPost.none HR2.out HX2.out
 | true =>
  have HR2:=lh (HR.out.trans (if_pos hpe));by_cases hed:ed=0
  ·have HR3:=lh (HR2.out.trans (if_pos hed));subst hed;clear HR HR2
   cases hem:p.toList.isEmpty with
   | true =>
    have q3:p.toList=[]:=empty_of.1 hem;clear hpe;go_enter func109,ntmps109;go_wp2_with fail;refine H1.out.mono ?_;rintro e w1 ⟨rfl,hw1⟩;obtain rfl:=hw1.symm;clear hw1;go_wp2_with fail;refine (H3 _ HT.out).out.mono ?_;rintro e w3 ⟨rfl,x3⟩;have HX3:=lh x3;have HT3:=lh (HT.out.ext x3);clear x3 c0 H1 H2 H3;have t3:=HT3.out;have d3:w3.cell? ⟨d,0,none⟩=some (.pointer (some ⟨lt,0,none⟩)):=cellB ((HX3.out.block hdl).trans HD.out);have l3:w3.cell? ⟨lt,0,none⟩=some (.map (some lm)):=cellB t3.blk;obtain ⟨hnd,_,D,hown,hread⟩:=t3.map;have HP:=lh (strKeys_of hown hnd fun s=>(hread s).1);have hsz:Maps.size D=l.length:=size_of hown hnd fun s=>(hread s).1;have HKD:=lh (keyW hread HK.out);have hm:lm<w3.heap.size:=t3.map.lt;clear hread hnd t3;go_wp2_with (at_range;refine wpList_range_own _ rfl _ 172 rfl 9 84 keyedN underlying172 RN lm l.length D rfl hown ?_;intro w0 hrg0 hg0 hs0);go_frame;have H0:=lh (show NmAt w3 w0 lm l.length D p (.slice none 0 0) from ⟨_,_,[],hrg0,by simp,World.ownsRow_nil _ _ _ _,Collected.start D,Below.grown (Below.refl _ _) hg0 (Nat.le_refl _) (fun j hj=>by cases hj)⟩);clear hg0 hs0 hrg0 d3 l3;go_loopw [7] (fun v wr=>Hid (NmAt w3 wr lm l.length D p v)) (fun _ wr=>wr.rangeLeft lm w3.heap.size)
    case atStart=>exact H0
    case round =>
     obtain ⟨left,cnt,ss,hrg,hcs,hrow,hC,hx⟩:=hrel.out;clear hrel H0;go_wp2_with (at_next;refine wpList_next_ranges _ rfl _ rfl 9 keyedN RN encStr id str_inv RN_inv lm w3.heap.size l.length D left cnt rfl hrg ?_ ?_)
     ·intro hc0 hl0;have hperm:ss.Perm (keysD l):=(hC.perm hrg.owns keyedN underlying9 hl0).trans HP.out.symm;have HX:=lh hx;have hil:=names_len p ss;have hcs2:ss.length<=l.length:=by omega
      rcases hrow.2 with ⟨rfl,hnil⟩ | ⟨g,cap,cur,rfl,hbase,hb,h1,h2,h3,h4⟩
      ·have HN:=lh (show listS l p=[] from by
        have h0:namesL p ss=[]:=by simpa using hnil
        rw [<-sort_names hperm,h0];simp)
       clear hC hrg hrow hnil hl0 hperm hx hcs hc0;go_wp2_with fail;refine (SN _ _ _).out.mono ?_;rintro e w9 ⟨rfl,rfl⟩;go_wp2_with fail;go_ret2;rw [HR3.out];exact ⟨_,rfl,by rw [HN.out];exact World.ownsRow_nil _ _ _ _,HX3.out.trans HX.out⟩
      ·have hH:Holds encStr wr g 0 (namesL p ss).toArray:=holds_of_block hb (by simpa using h4);have hgl:g<wr.heap.size:=(Array.getElem?_eq_some_iff.1 hb).1;have HS:=lh (SS g 0 cap (namesL p ss) wr hH hgl (by omega)).out;have HEnd:=fun n os=>lh (names_end (n:=n) (os:=os) hx hperm hbase hb h1 h2 h3);clear hC hrg hrow hl0 hperm hx hcs hc0 h4 hH h3 hb SS SN;go_wp2_with fail;refine HS.out.mono ?_;rintro e w9 ⟨rfl,n9,os9,rfl⟩;have HE9:=HEnd n9 os9;clear HEnd HS;go_wp2_with fail;go_ret2;rw [HR3.out];exact ⟨_,rfl,owns_base HE9.out.1 HX3.out.size,HX3.out.trans HE9.out.2⟩
     ·intro x c kl yd yp w2 cnt2 hkey hlk hv hat hrg2 hlt hg2 hs2 hen;obtain ⟨x',ex,rfl,_⟩:=Maps.keyOf_str underlying9 hkey;obtain rfl:x=x':=encStr_inj ex;have hen2:(Instr.entry (.pointer (some ⟨w3.heap.size,0,none⟩))).run prog w2=.ok (.tuple #[.string (bsL x),c]) w2:=hen;have hC2:=hC.step hlk hat;have hxs:=HKD.out x (has_true_of_atKey hat);have hx2:Ext w3 w2:=Below.grown hx hg2 hx.size (fun j hj=>by cases hj;exact Nat.le_refl _);have hrow2:=hrow.kept hg2 (.inr (fun e=>row_ne_iter hrow hrg e.symm));have HW:=lh (H4 x w2 (by omega) (HE.out.ext (HX3.out.trans hx2))).out;have HW5:=fun w E=>lh (H5 x w (by omega) E).out;have HX2:=lh hx2;have HR2:=lh hrow2;have HG2:=lh hrg2;have HC2:=lh hC2;have hil:=names_len p ss;have HSn:=lh (names_snoc p ss x);have hcnt:ss.length+1+cnt2<=l.length:=by omega
      have HSZ:=lh hsz;have HLT:=lh (show cnt2<cnt from hlt);have HG:=lh hrg
      have hbz:(baseR (bsL x)).size<=160:=by
       have:(baseR (bsL x)).size<=(bsL x).size:=by
        unfold baseR;split
        ·exact base_lt _
        ·exact Nat.zero_le _
       omega
      clear hen hs2 hg2 hrg2 hv hkey ex hC hC2 hx hx2 hrow hrow2 hrg hlk hat hcs hlt HK SS SN H4 H5;generalize parentR (bsL x)=up at *;obtain ⟨bb,hbb⟩:∃ bb,baseR (bsL x)=bb:=⟨_,rfl⟩;rw [hbb] at HSn HW5 hbz;by_cases hup:up=p
      ·have u1:(up.toList==p.toList)=true:=by rw [hup];simp
       have HSn2:=lh (show namesL p (ss++[x])=namesL p ss++[bb.data.toList] from by rw [HSn.out,hup];simp);subst hup;clear hbb;go_wp2_with fail;refine HW.out.mono ?_;rintro e w4 ⟨rfl,x4⟩;have HX4:=lh x4;clear x4 HW;go_wp2_with fail;refine (HW5 _ (HE.out.ext ((HX3.out.trans HX2.out).trans HX4.out))).out.mono ?_;rintro e w5 ⟨rfl,x5⟩;have HX5:=lh (HX4.out.trans x5);have HO3:=lh (owns_ext HR2.out HX5.out);clear x5 HX4;go_wp2_with (at_builtin;refine append_one el_string w3.heap.size _ _ _ (HO3.out.alloc _) w5.heap.size (.string bb) (.tmp 52) (.tmp 55) rfl rfl rfl rfl (by rw [cell_alloc_new rfl];rfl) rfl (by omega) (by have:=(HX2.out.trans HX5.out).size;simp;omega) ?_);intro v' w6 hown4 hg4 hv4;have HF:=lh (nm_add HG2.out HX5.out (by rw [Nat.add_right_comm] at hcnt;rw [HSZ.out];exact hcnt) HO3.out hown4 hg4 HC2.out HSn2.out HX2.out hm);clear hown4 hg4 hv4;go_wp2_with fail;go_roundw
       case rel=>exact HF.out.1
       case measure =>
        have h2:=HG.out.left_eq;rw [HF.out.2,h2];exact HLT.out
      ·have u1:(up.toList==p.toList)=false:=by simpa using fun e=>hup (ba_ext e)
       have u4:¬ up.toList=[]:=fun e=>hup (ba_ext (e.trans q3.symm));have u5:up.toList.isEmpty=false:=by cases e:up.toList with | nil=>exact absurd e u4 | cons _ _=>rfl
       have u6:(!up.toList.isEmpty)=true:=by rw [u5];rfl
       have HSn2:=lh (show namesL p (ss++[x])=namesL p ss from by rw [HSn.out];simp [hup]);clear hbb;go_wp2_with fail;refine HW.out.mono ?_;rintro e w4 ⟨rfl,x4⟩;have HX4:=lh x4;clear x4 HW;go_wp2_with fail;go_roundw
       case rel=>exact nm_skip HG2.out HX4.out (by rw [Nat.add_right_comm] at hcnt;rw [HSZ.out];exact hcnt) HR2.out HC2.out HSn2.out HX2.out
       case measure =>
        have h1:=(HG2.out.kept HX4.out.grownBy (by simp) (by simp)).left_eq;have h2:=HG.out.left_eq;rw [h1,h2];exact HLT.out
   | false =>
    rw [hem,Bool.false_or] at hpe;rw [hpe] at H2;have q3:p.toList≠[]:=by intro e;rw [e] at hem;cases hem
    have q4:(!p.toList.isEmpty)=true:=by rw [hem];rfl
    clear hpe hem;go_enter func109,ntmps109;go_wp2_with fail;refine H1.out.mono ?_;rintro e w1 ⟨rfl,hw1⟩;obtain rfl:=hw1.symm;clear hw1;go_wp2_with fail;refine H2.out.mono ?_;rintro e w2 ⟨rfl,x2⟩;have c2:w2.cell? ⟨d,0,none⟩=some (.pointer (some ⟨lt,0,none⟩)):=cellB ((x2.block hdl).trans HD.out);have HX2:=lh x2;clear x2;go_wp2_with fail;refine (H3 _ (HT.out.ext HX2.out)).out.mono ?_;rintro e w3 ⟨rfl,x3⟩;have HX3:=lh (HX2.out.trans x3);have HT3:=lh ((HT.out.ext HX2.out).ext x3);clear x3 c0 c2 HX2 H1 H2 H3;have t3:=HT3.out;have d3:w3.cell? ⟨d,0,none⟩=some (.pointer (some ⟨lt,0,none⟩)):=cellB ((HX3.out.block hdl).trans HD.out);have l3:w3.cell? ⟨lt,0,none⟩=some (.map (some lm)):=cellB t3.blk;obtain ⟨hnd,_,D,hown,hread⟩:=t3.map;have HP:=lh (strKeys_of hown hnd fun s=>(hread s).1);have hsz:Maps.size D=l.length:=size_of hown hnd fun s=>(hread s).1;have HKD:=lh (keyW hread HK.out);have hm:lm<w3.heap.size:=t3.map.lt;clear hread hnd t3;go_wp2_with (at_range;refine wpList_range_own _ rfl _ 172 rfl 9 84 keyedN underlying172 RN lm l.length D rfl hown ?_;intro w0 hrg0 hg0 hs0);go_frame;have H0:=lh (show NmAt w3 w0 lm l.length D p (.slice none 0 0) from ⟨_,_,[],hrg0,by simp,World.ownsRow_nil _ _ _ _,Collected.start D,Below.grown (Below.refl _ _) hg0 (Nat.le_refl _) (fun j hj=>by cases hj)⟩);clear hg0 hs0 hrg0 d3 l3;go_loopw [7] (fun v wr=>Hid (NmAt w3 wr lm l.length D p v)) (fun _ wr=>wr.rangeLeft lm w3.heap.size)
    case atStart=>exact H0
    case round =>
     obtain ⟨left,cnt,ss,hrg,hcs,hrow,hC,hx⟩:=hrel.out;clear hrel H0;go_wp2_with (at_next;refine wpList_next_ranges _ rfl _ rfl 9 keyedN RN encStr id str_inv RN_inv lm w3.heap.size l.length D left cnt rfl hrg ?_ ?_)
     ·intro hc0 hl0;have hperm:ss.Perm (keysD l):=(hC.perm hrg.owns keyedN underlying9 hl0).trans HP.out.symm;have HX:=lh hx;have hil:=names_len p ss;have hcs2:ss.length<=l.length:=by omega
      rcases hrow.2 with ⟨rfl,hnil⟩ | ⟨g,cap,cur,rfl,hbase,hb,h1,h2,h3,h4⟩
      ·have HN:=lh (show listS l p=[] from by
        have h0:namesL p ss=[]:=by simpa using hnil
        rw [<-sort_names hperm,h0];simp)
       clear hC hrg hrow hnil hl0 hperm hx hcs hc0;go_wp2_with fail;refine (SN _ _ _).out.mono ?_;rintro e w9 ⟨rfl,rfl⟩;go_wp2_with fail;go_ret2;rw [HR3.out];exact ⟨_,rfl,by rw [HN.out];exact World.ownsRow_nil _ _ _ _,HX3.out.trans HX.out⟩
      ·have hH:Holds encStr wr g 0 (namesL p ss).toArray:=holds_of_block hb (by simpa using h4);have hgl:g<wr.heap.size:=(Array.getElem?_eq_some_iff.1 hb).1;have HS:=lh (SS g 0 cap (namesL p ss) wr hH hgl (by omega)).out;have HEnd:=fun n os=>lh (names_end (n:=n) (os:=os) hx hperm hbase hb h1 h2 h3);clear hC hrg hrow hl0 hperm hx hcs hc0 h4 hH h3 hb SS SN;go_wp2_with fail;refine HS.out.mono ?_;rintro e w9 ⟨rfl,n9,os9,rfl⟩;have HE9:=HEnd n9 os9;clear HEnd HS;go_wp2_with fail;go_ret2;rw [HR3.out];exact ⟨_,rfl,owns_base HE9.out.1 HX3.out.size,HX3.out.trans HE9.out.2⟩
     ·intro x c kl yd yp w2 cnt2 hkey hlk hv hat hrg2 hlt hg2 hs2 hen;obtain ⟨x',ex,rfl,_⟩:=Maps.keyOf_str underlying9 hkey;obtain rfl:x=x':=encStr_inj ex;have hen2:(Instr.entry (.pointer (some ⟨w3.heap.size,0,none⟩))).run prog w2=.ok (.tuple #[.string (bsL x),c]) w2:=hen;have hC2:=hC.step hlk hat;have hxs:=HKD.out x (has_true_of_atKey hat);have hx2:Ext w3 w2:=Below.grown hx hg2 hx.size (fun j hj=>by cases hj;exact Nat.le_refl _);have hrow2:=hrow.kept hg2 (.inr (fun e=>row_ne_iter hrow hrg e.symm));have HW:=lh (H4 x w2 (by omega) (HE.out.ext (HX3.out.trans hx2))).out;have HW5:=fun w E=>lh (H5 x w (by omega) E).out;have HX2:=lh hx2;have HR2:=lh hrow2;have HG2:=lh hrg2;have HC2:=lh hC2;have hil:=names_len p ss;have HSn:=lh (names_snoc p ss x);have hcnt:ss.length+1+cnt2<=l.length:=by omega
      have HSZ:=lh hsz;have HLT:=lh (show cnt2<cnt from hlt);have HG:=lh hrg
      have hbz:(baseR (bsL x)).size<=160:=by
       have:(baseR (bsL x)).size<=(bsL x).size:=by
        unfold baseR;split
        ·exact base_lt _
        ·exact Nat.zero_le _
       omega
      clear hen hs2 hg2 hrg2 hv hkey ex hC hC2 hx hx2 hrow hrow2 hrg hlk hat hcs hlt HK SS SN H4 H5;generalize parentR (bsL x)=up at *;obtain ⟨bb,hbb⟩:∃ bb,baseR (bsL x)=bb:=⟨_,rfl⟩;rw [hbb] at HSn HW5 hbz;by_cases hup:up=p
      ·have u1:(up.toList==p.toList)=true:=by rw [hup];simp
       have HSn2:=lh (show namesL p (ss++[x])=namesL p ss++[bb.data.toList] from by rw [HSn.out,hup];simp);subst hup;clear hbb;go_wp2_with fail;refine HW.out.mono ?_;rintro e w4 ⟨rfl,x4⟩;have HX4:=lh x4;clear x4 HW;go_wp2_with fail;refine (HW5 _ (HE.out.ext ((HX3.out.trans HX2.out).trans HX4.out))).out.mono ?_;rintro e w5 ⟨rfl,x5⟩;have HX5:=lh (HX4.out.trans x5);have HO3:=lh (owns_ext HR2.out HX5.out);clear x5 HX4;go_wp2_with (at_builtin;refine append_one el_string w3.heap.size _ _ _ (HO3.out.alloc _) w5.heap.size (.string bb) (.tmp 52) (.tmp 55) rfl rfl rfl rfl (by rw [cell_alloc_new rfl];rfl) rfl (by omega) (by have:=(HX2.out.trans HX5.out).size;simp;omega) ?_);intro v' w6 hown4 hg4 hv4;have HF:=lh (nm_add HG2.out HX5.out (by rw [Nat.add_right_comm] at hcnt;rw [HSZ.out];exact hcnt) HO3.out hown4 hg4 HC2.out HSn2.out HX2.out hm);clear hown4 hg4 hv4;go_wp2_with fail;go_roundw
       case rel=>exact HF.out.1
       case measure =>
        have h2:=HG.out.left_eq;rw [HF.out.2,h2];exact HLT.out
      ·have u1:(up.toList==p.toList)=false:=by simpa using fun e=>hup (ba_ext e)
       have HSn2:=lh (show namesL p (ss++[x])=namesL p ss from by rw [HSn.out];simp [hup]);clear hbb;go_wp2_with fail;refine HW.out.mono ?_;rintro e w4 ⟨rfl,x4⟩;have HX4:=lh x4;clear x4 HW;go_wp2_with fail;go_roundw
       case rel=>exact nm_skip HG2.out HX4.out (by rw [Nat.add_right_comm] at hcnt;rw [HSZ.out];exact hcnt) HR2.out HC2.out HSn2.out HX2.out
       case measure =>
        have h1:=(HG2.out.kept HX4.out.grownBy (by simp) (by simp)).left_eq;have h2:=HG.out.left_eq;rw [h1,h2];exact HLT.out
  ·have HR3:=lh (HR2.out.trans (if_neg hed));have n1:(ed==0)=false:=by simpa using hed
   have n2:(ed != 0)=true:=by simpa using hed
   cases hem:p.toList.isEmpty with
   | true =>
    have q3:p.toList=[]:=empty_of.1 hem;clear hpe HR HR2;go_enter func109,ntmps109;go_wp2_with fail;refine H1.out.mono ?_;rintro e w1 ⟨rfl,hw1⟩;obtain rfl:=hw1.symm;clear hw1;go_wp2_with fail;refine (H3 _ HT.out).out.mono ?_;rintro e w3 ⟨rfl,x3⟩;have HX3:=lh x3;clear x3;go_wp2_with fail;go_ret2;exact ListPost.none HR3.out HX3.out
   | false =>
    rw [hem,Bool.false_or] at hpe;rw [hpe] at H2;have q3:p.toList≠[]:=by intro e;rw [e] at hem;cases hem
    have q4:(!p.toList.isEmpty)=true:=by rw [hem];rfl
    clear hpe HR HR2 hem;go_enter func109,ntmps109;go_wp2_with fail;refine H1.out.mono ?_;rintro e w1 ⟨rfl,hw1⟩;obtain rfl:=hw1.symm;clear hw1;go_wp2_with fail;refine H2.out.mono ?_;rintro e w2 ⟨rfl,x2⟩;have c2:w2.cell? ⟨d,0,none⟩=some (.pointer (some ⟨lt,0,none⟩)):=cellB ((x2.block hdl).trans HD.out);have HX2:=lh x2;clear x2;go_wp2_with fail;refine (H3 _ (HT.out.ext HX2.out)).out.mono ?_;rintro e w3 ⟨rfl,x3⟩;have HX3:=lh (HX2.out.trans x3);clear x3;go_wp2_with fail;go_ret2;exact ListPost.none HR3.out HX3.out
end
section
open Go.Sort (Holds SWO)
open Go.Maps (has_true_of_atKey)
theorem enters_keys:∀ args w,(callFunc 217 args).run prog w=.ok (.enter 217 args) w :=
 enters_of func217 (by kernel_rfl) rfl
theorem enters_cmp:∀ args w,(callFunc 147 args).run prog w=.ok (.enter 147 args) w:=enters_of func147 (by kernel_rfl) rfl
theorem keys_calls (mb:Option Nat) (w:World) :
  Calls prog 146 #[.map mb] w fun e w'=>e=.returned (.func (.func 217) #[] #[.pointer (some ⟨w.heap.size,0,none⟩)])/\w'=w.alloc (.cells #[.map mb] 172) :=
 callsIn_wide.1 (AnyZ.keys_in Tryz.mapsKeys Fence.wide 5 trivial rfl mb w)
theorem collect_calls {b n:Nat} {D:DataW Value} {w:World} (hown:w.ownsMap prog 9 RN b n D) (hmax:Maps.size D<=1048576) :
  Calls prog 215 #[.func (.func 217) #[] #[.pointer (some ⟨w.heap.size,0,none⟩)]] (w.alloc (.cells #[.map (some b)] 172)) fun e w' =>
   ∃ (v:Value) (ss:List (List UInt8)),e=.returned v/\ss.Perm (strKeys D)/\w'.ownsRow (w.heap.size+1) 9 1 v ss.length (ss.map encStr)/\Ext w w':=by
 have hbl:=hown.lt
 have hseq:SeqGives Fence.wide 3 prog 217 #[.pointer (some ⟨w.heap.size,0,none⟩)] encStr (fun ss=>ss.Perm (strKeys D)) (Maps.size D) (w.alloc (.cells #[.map (some b)] 172)) :=
  AnyZ.keys_gives (ρ:=Tryz.mapsKeys_ren) { Tryz.mapsKeys with } Fence.wide _ trivial rfl (by omega) w.heap.size b n D _ (by rw [size_alloc];omega) cell1 (by
   obtain ⟨es,clock,hb,Ft,hs,hD⟩:=hown
   exact ⟨es,clock,(block_alloc_old hbl).trans hb,Ft,hs,hD⟩)
 refine (callsIn_wide.1 (AnyZ.collect_in Tryz.collect Fence.wide 5 trivial trivial rfl (by omega) _ _ trivial enters_keys _ _ (by unfold maxLen;omega) (by omega) _ hseq)).mono ?_;rintro e w' ⟨v,ss,h1,h2,h3,h4,h5⟩;rw [size_alloc] at h3;exact ⟨v,ss,h1,h2,h3,Ext.trans ((Ext.refl w).alloc _) h5⟩
abbrev Txt160:={ l:List UInt8 // l.length<=160 }
instance:Inhabited Txt160:=⟨⟨[],Nat.zero_le _⟩⟩
def encT (x:Txt160):Value:=encStr x.1
def cmpT (x y:Txt160):Int:=cmpL x.1 y.1
theorem swoT:SWO (ltOf cmpT):=by
 have val:∀ x y:Txt160,ltOf cmpT x y=true↔cmpL x.1 y.1=-1:=fun x y=>by
  unfold ltOf cmpT;rw [decide_eq_true_eq];rcases cmpL_vals x.1 y.1 with h | h | h <;> rw [h] <;> simp
 have nval:∀ x y:Txt160,ltOf cmpT x y=false↔cmpL x.1 y.1≠-1:=fun x y=>by
  constructor
  ·intro h e;rw [(val x y).2 e] at h
   cases h
  ·intro h
   cases hb:ltOf cmpT x y with
   | false=>rfl
   | true=>exact absurd ((val x y).1 hb) h
 refine ⟨fun x=>?_,fun x y z h1 h2=>?_,fun x y z h1 h2=>?_⟩
 ·rw [nval,cmpL_self];decide
 ·rw [val] at *;exact cmpL_trans _ _ _ h1 h2
 ·rw [nval] at *;intro h3;have e1:cmpL z.1 x.1=1:=by rw [cmpL_anti,h3];rfl
  rcases cmpL_vals x.1 y.1 with h | h | h
  ·exact h1 h
  ·have:=cmpL_zero _ _ h;rw [this] at h3;exact h2 h3
  ·rcases cmpL_vals y.1 z.1 with k | k | k
   ·exact h2 k
   ·have:=cmpL_zero _ _ k;rw [<-this] at h3;exact h1 h3
   ·have a1:cmpL y.1 x.1=-1:=by rw [cmpL_anti,h]
    have a2:cmpL z.1 y.1=-1:=by rw [cmpL_anti,k]
    have:=cmpL_trans _ _ _ a2 a1;rw [e1] at this
    cases this
theorem totT (x y:Txt160) (h1:ltOf cmpT x y=false) (h2:ltOf cmpT y x=false):x=y:=by
 unfold ltOf cmpT at h1 h2;rw [decide_eq_false_iff_not] at h1 h2;rcases cmpL_vals x.1 y.1 with h | h | h
 ·rw [h] at h1;exact absurd (by decide) h1
 ·exact Subtype.ext (cmpL_zero _ _ h)
 ·have:cmpL y.1 x.1=-1:=by rw [cmpL_anti,h]
  rw [this] at h2;exact absurd (by decide) h2
theorem putRowT (w:World) (blk off:Nat) (d:Array Txt160):Go.Sort.putRow encT w blk off d=Go.Sort.putRow encStr w blk off (d.map (·.1)):=by
 unfold Go.Sort.putRow
 congr 1
 funext c
 unfold Go.Sort.putCells;refine Array.ext (by simp) fun i h1 h2=>?_;simp only [Array.getElem_mapIdx,Array.size_map];split
 ·rename_i h;have hi:i - off<d.size:=by omega
  rw [getElem!_pos d (i - off) hi,getElem!_pos (d.map (·.1)) (i - off) (by simpa using hi),Array.getElem_map];rfl
 ·rfl
theorem sort_live {l:Nodes} (hs:Sorted l) {d:List Txt160} (hp:(d.map (·.1)).Perm (keysD l)):(d.mergeSort fun x y=>!(ltOf cmpT) y x).map (·.1)=keysD l:=by
 have tr:∀ a b c:Txt160,(!(ltOf cmpT) b a)=true->(!(ltOf cmpT) c b)=true->(!(ltOf cmpT) c a)=true:=fun a b c h1 h2=>by
  simp only [Bool.not_eq_true'] at *;exact swoT.ntrans _ _ _ h2 h1
 have tot:∀ a b:Txt160,((!(ltOf cmpT) b a)||(!(ltOf cmpT) a b))=true:=fun a b=>by
  cases h1:ltOf cmpT b a with
  | false=>rfl
  | true =>
   cases h2:ltOf cmpT a b with
   | false=>rfl
   | true=>have:=swoT.trans _ _ _ h1 h2;rw [swoT.irrefl] at this;cases this
 have h1:=List.pairwise_mergeSort tr tot d;refine List.Perm.eq_of_pairwise (le:=fun a b=>cmpL b a≠-1) (fun a b _ _ k1 k2=>?_) ?_ ?_ (((List.mergeSort_perm d _).map (·.1)).trans hp)
 ·rcases cmpL_vals a b with h | h | h
  ·exact absurd h k2
  ·exact cmpL_zero _ _ h
  ·exact absurd (by rw [cmpL_anti,h]) k1
 ·refine List.pairwise_map.2 (h1.imp fun {x y} h e=>?_);simp only [Bool.not_eq_true'] at h;unfold ltOf cmpT at h;rw [e] at h
  cases h
 ·unfold keysD;refine List.pairwise_map.2 (hs.imp fun {x y} h e=>?_);rw [<-Lib.toList_data,<-Lib.toList_data] at e;rw [cmpL_anti,h] at e
  cases e
theorem paths_end {w2:World} {l:Nodes} {base g cap n:Nat} {cur:Array Value} {os:Array Obj} {ss:List (List UInt8)} {d:List Txt160} (hs:Sorted l) (hp:ss.Perm (keysD l)) (hd:d.map (·.1)=ss) (hbase:base<=g) (hb:w2.heap[g]?=some (.cells cur 9 (0,0))) (h1:ss.length<=cap) (h2:cap<=maxLen) (h3:cur.size=cap*1) :
  (sortWorld encT w2 g 0 n (d.toArray.toList.mergeSort fun x y=>!(ltOf cmpT) y x).toArray os).ownsRow base 9 1 (.slice (some ⟨g,0,none⟩) ss.length cap) l.length ((l.map (·.1)).map Value.string) /\
  w2.grownBy (sortWorld encT w2 g 0 n (d.toArray.toList.mergeSort fun x y=>!(ltOf cmpT) y x).toArray os) (some g):=by
 have e:((d.toArray.toList.mergeSort fun x y=>!(ltOf cmpT) y x).toArray.map (·.1))=(keysD l).toArray:=by
  rw [List.map_toArray]
  congr 1
  exact sort_live hs (by rw [hd];exact hp)
 unfold sortWorld;rw [putRowT,e];have hl:l.length=ss.length:=by rw [hp.length_eq];unfold keysD;simp
 have hk:(l.map (·.1)).map Value.string=(keysD l).map encStr:=by unfold keysD;rw [List.map_map,List.map_map];rfl
 rw [hk];refine ⟨?_,grownBy_sorted _⟩;have:=ownsRow_sorted (ss:=ss) (ts:=keysD l) (os:=os) (n:=n) hp.length_eq.symm hbase hb h1 h2 h3;rw [hl];exact this
set_option maxHeartbeats 2000000 in
set_option maxRecDepth 100000 in
theorem sortedFunc_any {b n:Nat} {D:DataW Value} {l:Nodes} {w:World} (hown:w.ownsMap prog 9 RN b n D) (hp:(keysD l).Perm (strKeys D)) (hsz:Maps.size D=l.length) (hs:Sorted l) (hk:∀ x∈l,x.1.size<=160) (hl:l.length<=1048576) :
  Calls prog 145 #[.func (.func 217) #[] #[.pointer (some ⟨w.heap.size,0,none⟩)],.func (.func 147) #[] #[]] (w.alloc (.cells #[.map (some b)] 172)) fun e w' =>
   ∃ v,e=.returned v/\w'.ownsRow w.heap.size 9 1 v l.length ((l.map (·.1)).map Value.string)/\Ext w w':=by
 have HC:=lh (collect_calls hown (by omega));have SN:=fun p cap fv w=>lh (Tryz.slices_SortFunc_none (α:=Txt160) p cap fv w)
 have SS:=fun blk cap (d:Array Txt160) w hH hblk hsz=>lh (Tryz.slices_SortFunc_total encT (fun _=>rfl) cmpT swoT 147 #[] blk 0 cap d w enters_cmp
  (CmpReads.lays fun m os dk _ x y=>(cmp_draws (bsL x.1) (bsL y.1) _ (by have:=x.2;unfold bsL maxLen;rw [size_mk];simp;omega) (by have:=y.2;unfold bsL maxLen;rw [size_mk];simp;omega)).mono fun _ _ ⟨he,hw⟩=>⟨by rw [he,bsL_toList,bsL_toList];rfl,hw⟩) hH hblk hsz totT)
 clear hown;go_enter func145,ntmps145;go_wp2_with fail;refine HC.out.mono ?_;rintro e w2 ⟨v,ss,rfl,hss,hrow,x2⟩;have hpk:ss.Perm (keysD l):=hss.trans hp.symm;have hlen:ss.length=l.length:=by rw [hpk.length_eq];unfold keysD;simp
 have hall:∀ k∈ss,k.length<=160:=fun k hk'=>by
  obtain ⟨x,hx,rfl⟩:=List.mem_map.1 (hpk.mem_iff.1 hk');have:=hk x hx;rw [<-Lib.toList_data,len_toList];exact this
 obtain ⟨d,hd⟩:∃ d:List Txt160,d.map (·.1)=ss:=⟨ss.pmap (fun k h=>⟨k,h⟩) hall,by rw [List.map_pmap];simp⟩;have HX2:=lh x2;rcases hrow.2 with ⟨rfl,hnil⟩ | ⟨g,cap,cur,rfl,hbase,hb,h1,h2,h3,h4⟩
 ·have h0:ss=[]:=by simpa using hnil
  have hl0:l=[]:=by rw [h0] at hlen;exact List.length_eq_zero_iff.1 (by simpa using hlen.symm)
  subst hl0;clear hrow hnil hpk hss hp hd x2 HC SS;go_wp2_with fail;refine (SN _ _ _ _).out.mono ?_;rintro e w3 ⟨rfl,hw3⟩;obtain rfl:=hw3.symm;clear hw3;go_wp2_with fail;go_ret;exact ⟨_,rfl,World.ownsRow_nil _ _ _ _,HX2.out⟩
 ·have hdl:d.length=ss.length:=by rw [<-hd];simp
  have hH:Holds encT w2 g 0 d.toArray:=by
   have h0:=holds_of_block (ss:=ss) hb (by simpa using h4);intro j hj;have hj':j<d.length:=by simpa using hj
   obtain ⟨q1,q2⟩:=h0 j (by simpa using (by omega:j<ss.length));refine ⟨q1.trans ?_,q2⟩;rw [getElem!_pos ss.toArray j (by simpa using (by omega:j<ss.length)),getElem!_pos d.toArray j hj];simp only [List.getElem_toArray];subst hd;rw [List.getElem_map];rfl
  have hgl:g<w2.heap.size:=ltB hb;have HS:=lh (SS g cap d.toArray w2 hH hgl (by simp;omega)).out;have hda:d.toArray.size=ss.length:=by simpa using hdl
  rw [hda] at HS;have HEnd:=fun n os=>lh (paths_end (n:=n) (os:=os) hs hpk hd (Nat.le_of_succ_le hbase) hb h1 h2 h3);clear hrow hpk hss hp hd x2 HC SN SS hH h4 hb h3 hall hda hlen hdl h1 h2 hs hk hsz hl;go_wp2_with fail;refine HS.out.mono ?_;rintro e w3 ⟨rfl,n3,os3,rfl⟩;have HE3:=HEnd n3 os3;clear HEnd HS;go_wp2_with fail;go_ret;exact ⟨_,rfl,HE3.out.1,Below.grown HX2.out HE3.out.2 HX2.out.size (fun j hj=>by cases hj;omega)⟩
def PathsPost (w:World) (l:Nodes) (e:Ending) (w':World):Prop:=∃ v,e=.returned v/\w'.ownsRow w.heap.size 9 1 v l.length ((l.map (·.1)).map Value.string)/\Ext w w'
set_option maxHeartbeats 2000000 in
set_option maxRecDepth 100000 in
theorem Paths_any {w:World} {d:Nat} {M I:List Nat} {D:Dk} (h:DkAt w d M I D) (O:DkOk D) :
  Calls prog 81 #[.pointer (some ⟨d,0,none⟩)] w (PathsPost w D.live):=by
 obtain ⟨lt,lm,st,sm,lg,vs,h,hM⟩:=h;have c0:w.cell? ⟨d,0,none⟩=some (.pointer (some ⟨lt,0,none⟩)):=cellB h.blk;have c1:w.cell? ⟨lt,0,none⟩=some (.map (some lm)):=cellB h.live.blk;have H1:=lh (dis_any d _ w c0);have H2:=lh (keys_calls (some lm) w);obtain ⟨hnd,_,Dm,hown,hread⟩:=h.live.map;have hu:=O.live.used;have hr2:=O.r2;have hlen:=len_used D.live;have H3:=lh (sortedFunc_any hown (strKeys_of hown hnd fun s=>(hread s).1) (size_of hown hnd fun s=>(hread s).1) O.live.sorted (fun x hx=>mayB_size (O.live.may x hx)) (by omega));clear h hM hnd hown hread O hu hr2 hlen;generalize D.live=l at *;go_enter func81,ntmps81;go_wp2_with fail;refine H1.out.mono ?_;rintro e w1 ⟨rfl,hw1⟩;obtain rfl:=hw1.symm;clear hw1;go_wp2_with fail;refine H2.out.mono ?_;rintro e w2 ⟨rfl,hw2⟩;obtain rfl:=hw2.symm;clear hw2;go_wp2_with fail;refine H3.out.mono ?_;rintro e w3 ⟨v,rfl,h3,x3⟩;have HF:=lh (And.intro h3 x3);clear h3 x3;go_wp2_with fail;go_ret;exact ⟨v,rfl,HF.out⟩
end
section
theorem cloneLog_any (lg:Value) (n:Nat) (vs:List Value) (w:World) (h:w.ownsRow 0 238 1 lg n vs) (hn:n<=1073741824) (h1:∀ u∈vs,u.oneCell'=true) :
  Calls prog 144 #[lg] w fun e w'=>∃ a cap,e=.returned (.slice a n cap)/\w'.ownsRow w.heap.size 238 1 (.slice a n cap) n vs/\Ext w w':=by
 have hl:=h.1;rcases h.2 with ⟨rfl,rfl⟩ | ⟨g,cap,cur,rfl,hb,hh,k1,k2,k3,k4⟩
 ·obtain rfl:vs=[]:=List.length_eq_zero_iff.1 (by simpa using hl);exact (AnyE.slices_Clone_nil Tryz.cloneEffects 0 0 w).mono fun _ _ ⟨he,hw⟩=>⟨none,0,he,hw▸World.ownsRow_nil _ _ _ _,hw▸Ext.refl w⟩
 ·obtain ⟨i0,hi,hz0,hz1,hz2⟩:=info_parts el_effect.info;refine (AnyE.slices_Clone Tryz.cloneEffects i0 .nilFunc 1 8 hi hz0 hz1 hz2 rfl (by decide) (fun w=>by kernel_rfl) g 0 n cap vs w (by omega) (by unfold maxLen;omega) (by omega) (fun j u hj=>?_) h1).mono ?_
  ·have:=h.cells (g:=g) rfl j u hj
   rwa [append_kw.add_off] at this
  ·rintro e w' ⟨v',he,ho,hne,hx⟩;rcases ho.2 with ⟨hv,_⟩ | ⟨g',cap',cur',hv,_⟩
   ·exact absurd hv hne
   ·subst hv;exact ⟨_,_,he,ho,hx⟩
theorem copy_end {w W1 w2 w3 w4:World} {d lt lm st sm:Nat} {lg:Value} {vs:List Value} {I:List Nat} {D:Dk} {a:Option Addr} {cap:Nat} (h:DkIn w d lt lm st sm lg vs I D)
  (hW:W1=w.alloc (.cells #[.pointer (some ⟨lt,0,none⟩),.pointer (some ⟨st,0,none⟩),lg,.bool D.fused,.int .i64 D.left] 178 (0,0))) (t2:TreeAt w2 (W1.heap.size+1) W1.heap.size D.live D.room) (x2:Ext W1 w2)
  (t3:TreeAt w3 (w2.heap.size+1) w2.heap.size D.lasts D.room) (x3:Ext w2 w3) (ho:w4.ownsRow w3.heap.size 238 1 (.slice a D.log.length cap) D.log.length vs) (x4:Ext w3 w4) :
  ∃ M',DkAt (((w4.setCell ⟨w.heap.size,0,none⟩ (.pointer (some ⟨W1.heap.size+1,0,none⟩))).setCell ⟨w.heap.size,1,none⟩ (.pointer (some ⟨w2.heap.size+1,0,none⟩))).setCell ⟨w.heap.size,2,none⟩ (.slice a D.log.length cap)) w.heap.size M' I D /\
   Ext w (((w4.setCell ⟨w.heap.size,0,none⟩ (.pointer (some ⟨W1.heap.size+1,0,none⟩))).setCell ⟨w.heap.size,1,none⟩ (.pointer (some ⟨w2.heap.size+1,0,none⟩))).setCell ⟨w.heap.size,2,none⟩ (.slice a D.log.length cap))/\∀ b∈M',w.heap.size<=b:=by
 have hs1:W1.heap.size=w.heap.size+1:=by rw [hW,size_alloc]
 have x1:Ext w W1:=hW▸(Ext.refl w).alloc _;have b1:W1.heap[w.heap.size]?=some (.cells #[.pointer (some ⟨lt,0,none⟩),.pointer (some ⟨st,0,none⟩),lg,.bool D.fused,.int .i64 D.left] 178 (0,0)):=hW▸block_alloc_new _ _;have x24:Ext W1 w4:=(x2.trans x3).trans x4;have b4:=(x24.block (by omega)).trans b1;have s2:=x2.size;have s3:=x3.size;have s4:=x4.size;have l2:=lt_of_tree t2;have l3:=lt_of_tree t3;have hge:=own_ge ho;have keyN:∀ b,b≠w.heap.size->(((w4.setCell ⟨w.heap.size,0,none⟩ (.pointer (some ⟨W1.heap.size+1,0,none⟩))).setCell ⟨w.heap.size,1,none⟩ (.pointer (some ⟨w2.heap.size+1,0,none⟩))).setCell ⟨w.heap.size,2,none⟩ (.slice a D.log.length cap)).heap[b]?=w4.heap[b]?:=fun b hb=>((setCellO hb).trans (setCellO hb)).trans (setCellO hb)
 have xN:Ext w (((w4.setCell ⟨w.heap.size,0,none⟩ (.pointer (some ⟨W1.heap.size+1,0,none⟩))).setCell ⟨w.heap.size,1,none⟩ (.pointer (some ⟨w2.heap.size+1,0,none⟩))).setCell ⟨w.heap.size,2,none⟩ (.slice a D.log.length cap)) :=
  (((x1.trans x24).setCell (Nat.le_refl _) _).setCell (Nat.le_refl _) _).setCell (Nat.le_refl _) _
 have hn:∀ b∈[w.heap.size,W1.heap.size+1,W1.heap.size,w2.heap.size+1,w2.heap.size],w.heap.size<=b/\b<w3.heap.size:=fun b hb=>by
  simp only [List.mem_cons,List.not_mem_nil,or_false] at hb;omega
 refine ⟨[w.heap.size,W1.heap.size+1,W1.heap.size,w2.heap.size+1,w2.heap.size]++rowB (.slice a D.log.length cap),⟨W1.heap.size+1,W1.heap.size,w2.heap.size+1,w2.heap.size,.slice a D.log.length cap,vs,⟨?_,?_,?_,?_,fun k v y h1 h2=>?_,?_,fun b hb hm=>?_,fun b hb=>?_⟩,rfl⟩,xN,fun b hb=>?_⟩
 ·rw [setCellB (setCellB (setCellB b4))];rfl
 ·exact (t2.ext (x3.trans x4)).kept (keyN _ (by omega)) (keyN _ (by omega))
 ·exact (t3.ext x4).kept (keyN _ (by omega)) (keyN _ (by omega))
 ·exact owns_base (owns_blocks ho fun b hb=>keyN b (by have:=hge b hb;omega)) (Nat.zero_le _)
 ·obtain ⟨h3,h4⟩:=h.effs k v y h1 h2;exact ⟨h3.turn (fun _ hb=>hb) fun b hb hl=>xN.block hl,h4⟩
 ·simp only [List.nodup_cons,List.mem_cons,List.not_mem_nil,not_or,or_false,not_false_eq_true,List.nodup_nil,and_true];omega
 ·have:=(hn b hm).2;have:=hge b hb;omega
 ·have hb2:=(h.imm b hb).2.2;refine ⟨fun hm=>by have:=(hn b hm).1;omega,fun e=>by have:=hge b e;omega,Nat.lt_of_lt_of_le hb2 xN.size⟩
 ·rcases List.mem_append.1 hb with hb | hb
  ·exact (hn b hb).1
  ·have:=hge b (mem_rowB.1 hb);omega
set_option maxRecDepth 100000 in
set_option maxHeartbeats 4000000 in
theorem Copy_any {w:World} {d:Nat} {M I:List Nat} {D:Dk} (h:DkAt w d M I D) (O:DkFit D) :
  Calls prog 80 #[.pointer (some ⟨d,0,none⟩)] w fun e w'=>∃ c M',e=.returned (.pointer (some ⟨c,0,none⟩))/\DkAt w' c M' I D/\Ext w w'/\∀ b∈M',w.heap.size<=b:=by
 obtain ⟨lt,lm,st,sm,lg,vs,h,hM⟩:=h;have hb:=h.blk;have hdl:=ltB hb;have c0:w.cell? ⟨d,0,none⟩=some (.pointer (some ⟨lt,0,none⟩)):=cellB hb;have c1:w.cell? ⟨d,1,none⟩=some (.pointer (some ⟨st,0,none⟩)):=cellB hb
 obtain ⟨ad,cp,hlg⟩:∃ ad cap,lg=.slice ad D.log.length cap:=by
  rcases h.log.2 with ⟨h1,h2⟩ | ⟨g,cap,cur,h1,_⟩
  ·exact ⟨none,0,by rw [h1,h2]⟩
  ·exact ⟨_,cap,h1⟩
 subst hlg;have c2:w.cell? ⟨d,2,none⟩=some (.slice ad D.log.length cp):=cellB hb;have c3:w.cell? ⟨d,3,none⟩=some (.bool D.fused):=cellB hb;have c4:w.cell? ⟨d,4,none⟩=some (.int .i64 D.left):=cellB hb;have H1:=lh (dis_any d _ w c0);obtain ⟨W1,hW1⟩:∃ W1,W1=w.alloc (.cells #[.pointer (some ⟨lt,0,none⟩),.pointer (some ⟨st,0,none⟩),.slice ad D.log.length cp,.bool D.fused,.int .i64 D.left] 178 (0,0)):=⟨_,rfl⟩;have x1:Ext w W1.drew:=(hW1▸(Ext.refl w).alloc _:Ext w W1).drew
 have HS:=lh (show ∀ w',Ext W1.drew w'->w'.cell? ⟨d,0,none⟩=some (.pointer (some ⟨lt,0,none⟩))/\w'.cell? ⟨d,1,none⟩=some (.pointer (some ⟨st,0,none⟩))/\w'.cell? ⟨d,2,none⟩=some (.slice ad D.log.length cp) from fun w' x=>by
  have hb':=((x1.trans x).block hdl).trans hb
  exact ⟨cellB hb',cellB hb',cellB hb'⟩)
 have HC1:=lh (dclone_any lt lm D.live D.room W1.drew (h.live.ext x1));have HC2:=fun w' (x:Ext W1.drew w')=>lh (dclone_any st sm D.lasts D.room w' (h.lasts.ext (x1.trans x)))
 have HC3:=fun w' (x:Ext W1.drew w')=>lh (cloneLog_any (.slice ad D.log.length cp) D.log.length vs w' (owns_ext h.log (x1.trans x)) O.len fun u hu=>by
  obtain ⟨k,hk1,hk2⟩:=List.getElem_of_mem hu;have hlen:vs.length=D.log.length:=by have:=h.log.1;omega
  obtain ⟨y,hy⟩:∃ y,D.log[k]?=some y:=⟨_,List.getElem?_eq_getElem (by omega)⟩;obtain ⟨F,cap,hv⟩:=eff_shape (h.effs k u y (by rw [<-hk2];exact List.getElem?_eq_getElem hk1) hy).1
  rw [hv];rfl)
 have HX:=lh (fun w' (x:Ext W1.drew w')=>x);have HEnd:=fun (w2 w3 w4:World) (a:Option Addr) (cap:Nat) t2 (x2:Ext W1.drew w2) t3 x3 ho x4=>lh (copy_end (w2:=w2) (w3:=w3) (w4:=w4) (a:=a) (cap:=cap) h hW1 t2 (Ext.trans (Ext.refl W1).drew x2) t3 x3 ho x4)
 have HB:=lh (show ∀ w',Ext W1.drew w'->w'.heap[w.heap.size]?=some (.cells #[.pointer (some ⟨lt,0,none⟩),.pointer (some ⟨st,0,none⟩),.slice ad D.log.length cp,.bool D.fused,.int .i64 D.left] 178 (0,0)) from fun w' x=>by
  have hb1:W1.drew.heap[w.heap.size]?=some (.cells #[.pointer (some ⟨lt,0,none⟩),.pointer (some ⟨st,0,none⟩),.slice ad D.log.length cp,.bool D.fused,.int .i64 D.left] 178 (0,0)):=by rw [hW1];exact block_alloc_new _ _
  exact (x.block (ltB hb1)).trans hb1)
 have hne:d≠w.heap.size:=by omega
 have hne2:w.heap.size≠d:=by omega
 have hs1:W1.drew.heap.size=w.heap.size+1:=by show W1.heap.size=_;rw [hW1,size_alloc]
 have hs2:W1.heap.size=w.heap.size+1:=hs1;rw [hs1] at HC1;rw [hs2] at HEnd;clear h hM hb x1 O hs1 hs2;generalize D.log.length=n at *;subst hW1;go_enter func80,ntmps80;go_wp2_with fail;refine H1.out.mono ?_;rintro e w1 ⟨rfl,hw1⟩;obtain rfl:=hw1.symm;clear hw1;go_wp2_with fail
 go_region_held (fun w'=>w'.cell? ⟨d,0,none⟩=some (.pointer (some ⟨lt,0,none⟩))/\w'.cell? ⟨d,1,none⟩=some (.pointer (some ⟨st,0,none⟩))/\w'.cell? ⟨d,2,none⟩=some (.slice ad n cp)) (first | go_keep | exact HS.out _ (by assumption)) (first
  | (go_at_call_of 105 (Value.pointer (some ⟨lt,0,none⟩));refine HC1.out.mono ?_;rintro e w2 ⟨rfl,t2,x2⟩)
  | (go_at_call_of 105 (Value.pointer (some ⟨st,0,none⟩));refine (HC2 _ (by assumption)).out.mono ?_;rintro e w3 ⟨rfl,t3,x3⟩;have x3':=HX.out _ (Ext.trans (by assumption) x3))
  | (go_at_call 144;refine (HC3 _ (by assumption)).out.mono ?_;rintro e w4 ⟨a4,cap4,rfl,ho,x4⟩;have x4':=HX.out _ (Ext.trans (by assumption) x4);have hb4:=HB.out _ x4';have k0:=cellB (k:=0) hb4;have k1:=cellB (k:=1) hb4;have k2:=cellB (k:=2) hb4;have kf:=fun k=>frozenB (k:=k) hb4;have HF:=HEnd _ _ _ a4 cap4 (by assumption) (by assumption) (by assumption) (by assumption) ho x4;clear hb4))
 go_wp2_with fail;go_ret;obtain ⟨M',q1,q2,q3⟩:=HF.out;exact ⟨_,M',rfl,q1,q2,q3⟩
end
section
end
section
end
section
set_option maxRecDepth 100000 in
set_option maxHeartbeats 8000000 in
theorem Link_any {w:World} {d:Nat} {M I:List Nat} {D:Dk} (h:DkAt w d M I D) (O:DkFit D) (E:Env w) (p g:ByteArray) (tm:Int) (hp:p.size<4294967281) (hg:g.size<=4611686018427387904) :
  Calls prog 61 #[.pointer (some ⟨d,0,none⟩),.string p,.string g,.int .i64 tm] w (ActPost w d M I (D.act (.link p g tm))):=by
 obtain ⟨W1,hW1⟩:∃ W1,W1=(w.alloc (.cells #[.string p] 9)).alloc (.cells #[.int .i64 3,.string ⟨#[]⟩,.string g,.int .i64 tm] 84):=⟨_,rfl⟩;have x1:Ext w W1:=hW1▸((Ext.refl w).alloc _).alloc _;have hsz:W1.heap.size=w.heap.size+2:=by rw [hW1,size_alloc,size_alloc]
 have cp:W1.cell? ⟨w.heap.size,0,none⟩=some (.string p):=hW1▸cell_up cell1
 have cn:W1.heap[w.heap.size+1]?=some (.cells #[.int .i64 3,.string ⟨#[]⟩,.string g,.int .i64 tm] 84 (0,0)):=by
  have:=block_alloc_new (w.alloc (.cells #[.string p] 9)) (.cells #[.int .i64 3,.string ⟨#[]⟩,.string g,.int .i64 tm] 84 (0,0));rw [size_alloc] at this;rw [hW1];exact this
 have HM:=h.lt.1;have x2:Ext w (W1.alloc (.cells #[.string p] 9)).drew:=(x1.alloc _).drew
 have HD:=fun r hr=>lh (do_any (x:=.link p g tm) h x2 O E (B:=[w.heap.size,w.heap.size+1]) (F:=121) (cap:=#[.pointer (some ⟨w.heap.size,0,none⟩),.pointer (some ⟨w.heap.size+1,0,none⟩)])
  ⟨w.heap.size,w.heap.size+1,rfl,by simp,by simp,cell_up (o:=.cells #[.string p] 9) cp,cell_up (o:=.cells #[.string p] 9) (cellB cn),cell_up (o:=.cells #[.string p] 9) (cellB cn),cell_up (o:=.cells #[.string p] 9) (cellB cn),cell_up (o:=.cells #[.string p] 9) (cellB cn)⟩ (fun b hb=>by show _/\b<(W1.alloc _).heap.size;rw [size_alloc];simp at hb;omega) trivial r hr W1.heap.size 1 rfl (by decide)
  (fun k q hk=>by
   match k,hk with
   | 0,hk=>simp [Eff.paths] at hk;subst hk;exact cell1 (w:=W1) (v:=.string p) (t:=9))
  (fun q hq=>by simp [Eff.paths] at hq;subst hq;exact hp))
 have HS:=lh (show ∀ w',Chg M (W1.alloc (.cells #[.string p] 9)).drew w'->w'.cell? ⟨w.heap.size,0,none⟩=some (.string p) from fun w' c=>by
  have nm:∀ b,w.heap.size<=b->b∉M:=fun b hb hm=>by have:=HM b hm;omega
  exact (c.cell (by show _<(W1.alloc _).heap.size;rw [size_alloc];omega) (nm _ (by omega))).trans (cell_up (o:=.cells #[.string p] 9) cp))
 have HCk:=fun w=>lh (dclock_any tm w);have HRt:=lh (show (Eff.link p g tm).right=(clockB tm&&decide (0<g.size)&&decide (g.size<=160)) from rfl);rw [hsz] at HD;clear x1 x2 h O E cn HM;subst hW1;generalize D.act (.link p g tm)=R at *;generalize (Eff.link p g tm).right=rt at *
 cases hcb:clockB tm with
 | false =>
  rw [hcb] at HCk;have HDr:=HD false (by rw [HRt.out,hcb];rfl);clear HD HRt hcb;go_enter func61,ntmps61;go_wp2_with fail;refine wp_region_held_drew (S:=(fun w'=>w'.cell? ⟨w.heap.size,0,none⟩=some (.string p))) (by kernel_rfl) ?_ (fun hHeld=>?_)
  ·(try dsimp only);(first | go_keep | exact HS.out _ (by assumption))
  refine wpAnyH_take (i:=0) (v:=?vz1_1) rfl (by kernel_rfl) (by kernel_rfl) (by kernel_rfl) (fun _ _ _ h=>h) (Or.inl ⟨by kernel_rfl,?yz1_1⟩) (by assumption) ?rz1_1
  case yz1_1=>(intro w hSw;(try dsimp only at hSw);go_simp;try with_reducible rfl)
  simp only [Act.put,List.setIfInBounds_toArray];refine wpAnyH_take (i:=1) (v:=?vz1_3) rfl (by kernel_rfl) (by kernel_rfl) (by kernel_rfl) (fun _ _ _ h=>h) (Or.inl ⟨by kernel_rfl,?yz1_3⟩) (by assumption) ?rz1_3
  case yz1_3=>(intro w hSw;(try dsimp only at hSw);go_simp;try with_reducible rfl)
  simp only [Act.put];refine wpAnyH_take (i:=2) (v:=?vz1_5) rfl (by kernel_rfl) (by kernel_rfl) (by kernel_rfl) (fun _ _ _ h=>h) (Or.inl ⟨by kernel_rfl,?yz1_5⟩) (by assumption) ?rz1_5
  case yz1_5=>(intro w hSw;(try dsimp only at hSw);go_simp;try with_reducible rfl)
  simp only [Act.put];refine wpAnyH_take (i:=14) (v:=?vz1_7) rfl (by kernel_rfl) (by kernel_rfl) (by kernel_rfl) (fun _ _ _ h=>h) (Or.inl ⟨by kernel_rfl,?yz1_7⟩) (by assumption) ?rz1_7
  case yz1_7=>(intro w hSw;(try dsimp only at hSw);go_simp;try with_reducible rfl)
  simp only [Act.put];refine wpAnyH_ready (rs:=[3,15]) (by kernel_rfl) (by simp) ?_;refine AllReadyH.cons rfl (fun K hK=>?_) ?_
  ·go_simp;go_wp2_with (go_at_call 116;refine (HCk _).out.mono ?_;rintro e w1 ⟨rfl,rfl⟩);refine hK.out _ _ ?_ (fun hHeld=>?_)
   ·(try dsimp only);(first | go_keep | exact HS.out _ (by assumption))
   clear hK K;refine wpAnyH_take (i:=4) (v:=?vz1_9) rfl (by kernel_rfl) (by kernel_rfl) (by kernel_rfl) (fun _ _ _ h=>h) (Or.inl ⟨by kernel_rfl,?yz1_9⟩) (by assumption) ?rz1_9
   case yz1_9=>(intro w hSw;(try dsimp only at hSw);go_simp;try with_reducible rfl)
   simp only [Act.put,List.setIfInBounds_toArray];refine wpAnyH_take (i:=5) (v:=undef) rfl (by kernel_rfl) (by kernel_rfl) (by kernel_rfl) (fun _ _ _ h=>h) (Or.inr ⟨by kernel_rfl,rfl⟩) (by assumption) ?_;simp only [Act.put];refine wpAnyH_take (i:=6) (v:=undef) rfl (by kernel_rfl) (by kernel_rfl) (by kernel_rfl) (fun _ _ _ h=>h) (Or.inr ⟨by kernel_rfl,rfl⟩) (by assumption) ?_;simp only [Act.put];refine wpAnyH_take (i:=7) (v:=undef) rfl (by kernel_rfl) (by kernel_rfl) (by kernel_rfl) (fun _ _ _ h=>h) (Or.inr ⟨by kernel_rfl,rfl⟩) (by assumption) ?_;simp only [Act.put];refine wpAnyH_take (i:=8) (v:=?vz1_11) rfl (by kernel_rfl) (by kernel_rfl) (by kernel_rfl) (fun _ _ _ h=>h) (Or.inl ⟨by kernel_rfl,?yz1_11⟩) (by assumption) ?rz1_11
   case yz1_11=>(intro w hSw;(try dsimp only at hSw);go_simp;try with_reducible rfl)
   simp only [Act.put];refine wpAnyH_take (i:=9) (v:=?vz1_13) rfl (by kernel_rfl) (by kernel_rfl) (by kernel_rfl) (fun _ _ _ h=>h) (Or.inl ⟨by kernel_rfl,?yz1_13⟩) (by assumption) ?rz1_13
   case yz1_13=>(intro w hSw;(try dsimp only at hSw);go_simp;try with_reducible rfl)
   simp only [Act.put];refine wpAnyH_take (i:=10) (v:=undef) rfl (by kernel_rfl) (by kernel_rfl) (by kernel_rfl) (fun _ _ _ h=>h) (Or.inr ⟨by kernel_rfl,rfl⟩) (by assumption) ?_;simp only [Act.put];refine wpAnyH_take (i:=11) (v:=undef) rfl (by kernel_rfl) (by kernel_rfl) (by kernel_rfl) (fun _ _ _ h=>h) (Or.inr ⟨by kernel_rfl,rfl⟩) (by assumption) ?_;simp only [Act.put];refine wpAnyH_take (i:=12) (v:=undef) rfl (by kernel_rfl) (by kernel_rfl) (by kernel_rfl) (fun _ _ _ h=>h) (Or.inr ⟨by kernel_rfl,rfl⟩) (by assumption) ?_;simp only [Act.put];refine wpAnyH_take (i:=13) (v:=?vz1_15) rfl (by kernel_rfl) (by kernel_rfl) (by kernel_rfl) (fun _ _ _ h=>h) (Or.inl ⟨by kernel_rfl,?yz1_15⟩) (by assumption) ?rz1_15
   case yz1_15=>(intro w hSw;(try dsimp only at hSw);go_simp;try with_reducible rfl)
   simp only [Act.put];refine wpAnyH_ready (rs:=[15]) (by kernel_rfl) (by simp) ?_;refine AllReadyH.cons rfl (fun K hK=>?_) ?_
   ·go_simp;refine hK.out _ _ ?_ (fun hHeld=>?_)
    ·(try dsimp only);(first | go_keep | exact HS.out _ (by assumption))
    clear hK K;refine wpAnyH_ready (rs:=[16]) (by kernel_rfl) (by simp) ?_;refine AllReadyH.cons rfl (fun K hK=>?_) ?_
    ·go_simp;go_wp2_with (go_at_call 113;refine HDr.out.mono ?_;rintro e w9 ⟨⟨rfl,h1⟩,h2⟩);refine hK.out _ _ ?_ (fun hHeld=>?_)
     ·(try dsimp only);(first | go_keep | exact HS.out _ (by assumption))
     clear hK K;refine wpAnyH_ready (rs:=[17]) (by kernel_rfl) (by simp) ?_;refine AllReadyH.cons rfl (fun K hK=>?_) ?_
     ·go_simp;refine hK.out _ _ ?_ (fun hHeld=>?_)
      ·(try dsimp only);(first | go_keep | exact HS.out _ (by assumption))
      clear hK K;refine wpAnyH_done (by kernel_rfl) ?_ _;go_wp2_with fail;go_ret;exact ⟨rfl,h1⟩
     exact AllReadyH.nil
    exact AllReadyH.nil
   exact AllReadyH.nil
  refine AllReadyH.cons rfl (fun K hK=>?_) ?_
  ·go_simp;refine hK.out _ _ ?_ (fun hHeld=>?_)
   ·(try dsimp only);(first | go_keep | exact HS.out _ (by assumption))
   clear hK K;refine wpAnyH_ready (rs:=[3]) (by kernel_rfl) (by simp) ?_;refine AllReadyH.cons rfl (fun K hK=>?_) ?_
   ·go_simp;go_wp2_with (go_at_call 116;refine (HCk _).out.mono ?_;rintro e w1 ⟨rfl,rfl⟩);refine hK.out _ _ ?_ (fun hHeld=>?_)
    ·(try dsimp only);(first | go_keep | exact HS.out _ (by assumption))
    clear hK K;refine wpAnyH_take (i:=4) (v:=?vz1_17) rfl (by kernel_rfl) (by kernel_rfl) (by kernel_rfl) (fun _ _ _ h=>h) (Or.inl ⟨by kernel_rfl,?yz1_17⟩) (by assumption) ?rz1_17
    case yz1_17=>(intro w hSw;(try dsimp only at hSw);go_simp;try with_reducible rfl)
    simp only [Act.put,List.setIfInBounds_toArray];refine wpAnyH_take (i:=5) (v:=undef) rfl (by kernel_rfl) (by kernel_rfl) (by kernel_rfl) (fun _ _ _ h=>h) (Or.inr ⟨by kernel_rfl,rfl⟩) (by assumption) ?_;simp only [Act.put];refine wpAnyH_take (i:=6) (v:=undef) rfl (by kernel_rfl) (by kernel_rfl) (by kernel_rfl) (fun _ _ _ h=>h) (Or.inr ⟨by kernel_rfl,rfl⟩) (by assumption) ?_;simp only [Act.put];refine wpAnyH_take (i:=7) (v:=undef) rfl (by kernel_rfl) (by kernel_rfl) (by kernel_rfl) (fun _ _ _ h=>h) (Or.inr ⟨by kernel_rfl,rfl⟩) (by assumption) ?_;simp only [Act.put];refine wpAnyH_take (i:=8) (v:=?vz1_19) rfl (by kernel_rfl) (by kernel_rfl) (by kernel_rfl) (fun _ _ _ h=>h) (Or.inl ⟨by kernel_rfl,?yz1_19⟩) (by assumption) ?rz1_19
    case yz1_19=>(intro w hSw;(try dsimp only at hSw);go_simp;try with_reducible rfl)
    simp only [Act.put];refine wpAnyH_take (i:=9) (v:=?vz1_21) rfl (by kernel_rfl) (by kernel_rfl) (by kernel_rfl) (fun _ _ _ h=>h) (Or.inl ⟨by kernel_rfl,?yz1_21⟩) (by assumption) ?rz1_21
    case yz1_21=>(intro w hSw;(try dsimp only at hSw);go_simp;try with_reducible rfl)
    simp only [Act.put];refine wpAnyH_take (i:=10) (v:=undef) rfl (by kernel_rfl) (by kernel_rfl) (by kernel_rfl) (fun _ _ _ h=>h) (Or.inr ⟨by kernel_rfl,rfl⟩) (by assumption) ?_;simp only [Act.put];refine wpAnyH_take (i:=11) (v:=undef) rfl (by kernel_rfl) (by kernel_rfl) (by kernel_rfl) (fun _ _ _ h=>h) (Or.inr ⟨by kernel_rfl,rfl⟩) (by assumption) ?_;simp only [Act.put];refine wpAnyH_take (i:=12) (v:=undef) rfl (by kernel_rfl) (by kernel_rfl) (by kernel_rfl) (fun _ _ _ h=>h) (Or.inr ⟨by kernel_rfl,rfl⟩) (by assumption) ?_;simp only [Act.put];refine wpAnyH_take (i:=13) (v:=?vz1_23) rfl (by kernel_rfl) (by kernel_rfl) (by kernel_rfl) (fun _ _ _ h=>h) (Or.inl ⟨by kernel_rfl,?yz1_23⟩) (by assumption) ?rz1_23
    case yz1_23=>(intro w hSw;(try dsimp only at hSw);go_simp;try with_reducible rfl)
    simp only [Act.put];refine wpAnyH_ready (rs:=[16]) (by kernel_rfl) (by simp) ?_;refine AllReadyH.cons rfl (fun K hK=>?_) ?_
    ·go_simp;go_wp2_with (go_at_call 113;refine HDr.out.mono ?_;rintro e w9 ⟨⟨rfl,h1⟩,h2⟩);refine hK.out _ _ ?_ (fun hHeld=>?_)
     ·(try dsimp only);(first | go_keep | exact HS.out _ (by assumption))
     clear hK K;refine wpAnyH_ready (rs:=[17]) (by kernel_rfl) (by simp) ?_;refine AllReadyH.cons rfl (fun K hK=>?_) ?_
     ·go_simp;refine hK.out _ _ ?_ (fun hHeld=>?_)
      ·(try dsimp only);(first | go_keep | exact HS.out _ (by assumption))
      clear hK K;refine wpAnyH_done (by kernel_rfl) ?_ _;go_wp2_with fail;go_ret;exact ⟨rfl,h1⟩
     exact AllReadyH.nil
    exact AllReadyH.nil
   exact AllReadyH.nil
  exact AllReadyH.nil
 | true =>
  rw [hcb] at HCk;by_cases hg0:0<g.size
  ·by_cases hg1:g.size<=160
   ·have HDr:=HD true (by rw [HRt.out,hcb];simp [hg0,hg1]);have g0:decide ((0:Int)<(g.size:Int))=true:=by rw [decide_eq_true_eq];omega
    have g1:decide ((g.size:Int)<=160)=true:=by rw [decide_eq_true_eq];omega
    clear HD HRt hcb;go_enter func61,ntmps61;go_wp2_with fail;refine wp_region_held_drew (S:=(fun w'=>w'.cell? ⟨w.heap.size,0,none⟩=some (.string p))) (by kernel_rfl) ?_ (fun hHeld=>?_)
    ·(try dsimp only);(first | go_keep | exact HS.out _ (by assumption))
    refine wpAnyH_take (i:=0) (v:=?vz2_1) rfl (by kernel_rfl) (by kernel_rfl) (by kernel_rfl) (fun _ _ _ h=>h) (Or.inl ⟨by kernel_rfl,?yz2_1⟩) (by assumption) ?rz2_1
    case yz2_1=>(intro w hSw;(try dsimp only at hSw);go_simp;try with_reducible rfl)
    simp only [Act.put,List.setIfInBounds_toArray];refine wpAnyH_take (i:=1) (v:=?vz2_3) rfl (by kernel_rfl) (by kernel_rfl) (by kernel_rfl) (fun _ _ _ h=>h) (Or.inl ⟨by kernel_rfl,?yz2_3⟩) (by assumption) ?rz2_3
    case yz2_3=>(intro w hSw;(try dsimp only at hSw);go_simp;try with_reducible rfl)
    simp only [Act.put];refine wpAnyH_take (i:=2) (v:=?vz2_5) rfl (by kernel_rfl) (by kernel_rfl) (by kernel_rfl) (fun _ _ _ h=>h) (Or.inl ⟨by kernel_rfl,?yz2_5⟩) (by assumption) ?rz2_5
    case yz2_5=>(intro w hSw;(try dsimp only at hSw);go_simp;try with_reducible rfl)
    simp only [Act.put];refine wpAnyH_take (i:=14) (v:=?vz2_7) rfl (by kernel_rfl) (by kernel_rfl) (by kernel_rfl) (fun _ _ _ h=>h) (Or.inl ⟨by kernel_rfl,?yz2_7⟩) (by assumption) ?rz2_7
    case yz2_7=>(intro w hSw;(try dsimp only at hSw);go_simp;try with_reducible rfl)
    simp only [Act.put];refine wpAnyH_ready (rs:=[3,15]) (by kernel_rfl) (by simp) ?_;refine AllReadyH.cons rfl (fun K hK=>?_) ?_
    ·go_simp;go_wp2_with (go_at_call 116;refine (HCk _).out.mono ?_;rintro e w1 ⟨rfl,rfl⟩);refine hK.out _ _ ?_ (fun hHeld=>?_)
     ·(try dsimp only);(first | go_keep | exact HS.out _ (by assumption))
     clear hK K;refine wpAnyH_take (i:=4) (v:=?vz2_9) rfl (by kernel_rfl) (by kernel_rfl) (by kernel_rfl) (fun _ _ _ h=>h) (Or.inl ⟨by kernel_rfl,?yz2_9⟩) (by assumption) ?rz2_9
     case yz2_9=>(intro w hSw;(try dsimp only at hSw);go_simp;try with_reducible rfl)
     simp only [Act.put,List.setIfInBounds_toArray];refine wpAnyH_take (i:=5) (v:=?vz2_11) rfl (by kernel_rfl) (by kernel_rfl) (by kernel_rfl) (fun _ _ _ h=>h) (Or.inl ⟨by kernel_rfl,?yz2_11⟩) (by assumption) ?rz2_11
     case yz2_11=>(intro w hSw;(try dsimp only at hSw);go_simp;try with_reducible rfl)
     simp only [Act.put];refine wpAnyH_take (i:=6) (v:=?vz2_13) rfl (by kernel_rfl) (by kernel_rfl) (by kernel_rfl) (fun _ _ _ h=>h) (Or.inl ⟨by kernel_rfl,?yz2_13⟩) (by assumption) ?rz2_13
     case yz2_13=>(intro w hSw;(try dsimp only at hSw);go_simp;try with_reducible rfl)
     simp only [Act.put];refine wpAnyH_take (i:=7) (v:=?vz2_15) rfl (by kernel_rfl) (by kernel_rfl) (by kernel_rfl) (fun _ _ _ h=>h) (Or.inl ⟨by kernel_rfl,?yz2_15⟩) (by assumption) ?rz2_15
     case yz2_15=>(intro w hSw;(try dsimp only at hSw);go_simp;try with_reducible rfl)
     simp only [Act.put];refine wpAnyH_take (i:=8) (v:=?vz2_17) rfl (by kernel_rfl) (by kernel_rfl) (by kernel_rfl) (fun _ _ _ h=>h) (Or.inl ⟨by kernel_rfl,?yz2_17⟩) (by assumption) ?rz2_17
     case yz2_17=>(intro w hSw;(try dsimp only at hSw);go_simp;try with_reducible rfl)
     simp only [Act.put];refine wpAnyH_take (i:=9) (v:=?vz2_19) rfl (by kernel_rfl) (by kernel_rfl) (by kernel_rfl) (fun _ _ _ h=>h) (Or.inl ⟨by kernel_rfl,?yz2_19⟩) (by assumption) ?rz2_19
     case yz2_19=>(intro w hSw;(try dsimp only at hSw);go_simp;try with_reducible rfl)
     simp only [Act.put];refine wpAnyH_take (i:=10) (v:=?vz2_21) rfl (by kernel_rfl) (by kernel_rfl) (by kernel_rfl) (fun _ _ _ h=>h) (Or.inl ⟨by kernel_rfl,?yz2_21⟩) (by assumption) ?rz2_21
     case yz2_21=>(intro w hSw;(try dsimp only at hSw);go_simp;try with_reducible rfl)
     simp only [Act.put];refine wpAnyH_take (i:=11) (v:=?vz2_23) rfl (by kernel_rfl) (by kernel_rfl) (by kernel_rfl) (fun _ _ _ h=>h) (Or.inl ⟨by kernel_rfl,?yz2_23⟩) (by assumption) ?rz2_23
     case yz2_23=>(intro w hSw;(try dsimp only at hSw);go_simp;try with_reducible rfl)
     simp only [Act.put];refine wpAnyH_take (i:=12) (v:=?vz2_25) rfl (by kernel_rfl) (by kernel_rfl) (by kernel_rfl) (fun _ _ _ h=>h) (Or.inl ⟨by kernel_rfl,?yz2_25⟩) (by assumption) ?rz2_25
     case yz2_25=>(intro w hSw;(try dsimp only at hSw);go_simp;try with_reducible rfl)
     simp only [Act.put];refine wpAnyH_take (i:=13) (v:=?vz2_27) rfl (by kernel_rfl) (by kernel_rfl) (by kernel_rfl) (fun _ _ _ h=>h) (Or.inl ⟨by kernel_rfl,?yz2_27⟩) (by assumption) ?rz2_27
     case yz2_27=>(intro w hSw;(try dsimp only at hSw);go_simp;try with_reducible rfl)
     simp only [Act.put];refine wpAnyH_ready (rs:=[15]) (by kernel_rfl) (by simp) ?_;refine AllReadyH.cons rfl (fun K hK=>?_) ?_
     ·go_simp;refine hK.out _ _ ?_ (fun hHeld=>?_)
      ·(try dsimp only);(first | go_keep | exact HS.out _ (by assumption))
      clear hK K;refine wpAnyH_ready (rs:=[16]) (by kernel_rfl) (by simp) ?_;refine AllReadyH.cons rfl (fun K hK=>?_) ?_
      ·go_simp;go_wp2_with (go_at_call 113;refine HDr.out.mono ?_;rintro e w9 ⟨⟨rfl,h1⟩,h2⟩);refine hK.out _ _ ?_ (fun hHeld=>?_)
       ·(try dsimp only);(first | go_keep | exact HS.out _ (by assumption))
       clear hK K;refine wpAnyH_ready (rs:=[17]) (by kernel_rfl) (by simp) ?_;refine AllReadyH.cons rfl (fun K hK=>?_) ?_
       ·go_simp;refine hK.out _ _ ?_ (fun hHeld=>?_)
        ·(try dsimp only);(first | go_keep | exact HS.out _ (by assumption))
        clear hK K;refine wpAnyH_done (by kernel_rfl) ?_ _;go_wp2_with fail;go_ret;exact ⟨rfl,h1⟩
       exact AllReadyH.nil
      exact AllReadyH.nil
     exact AllReadyH.nil
    refine AllReadyH.cons rfl (fun K hK=>?_) ?_
    ·go_simp;refine hK.out _ _ ?_ (fun hHeld=>?_)
     ·(try dsimp only);(first | go_keep | exact HS.out _ (by assumption))
     clear hK K;refine wpAnyH_ready (rs:=[3]) (by kernel_rfl) (by simp) ?_;refine AllReadyH.cons rfl (fun K hK=>?_) ?_
     ·go_simp;go_wp2_with (go_at_call 116;refine (HCk _).out.mono ?_;rintro e w1 ⟨rfl,rfl⟩);refine hK.out _ _ ?_ (fun hHeld=>?_)
      ·(try dsimp only);(first | go_keep | exact HS.out _ (by assumption))
      clear hK K;refine wpAnyH_take (i:=4) (v:=?vz2_29) rfl (by kernel_rfl) (by kernel_rfl) (by kernel_rfl) (fun _ _ _ h=>h) (Or.inl ⟨by kernel_rfl,?yz2_29⟩) (by assumption) ?rz2_29
      case yz2_29=>(intro w hSw;(try dsimp only at hSw);go_simp;try with_reducible rfl)
      simp only [Act.put,List.setIfInBounds_toArray];refine wpAnyH_take (i:=5) (v:=?vz2_31) rfl (by kernel_rfl) (by kernel_rfl) (by kernel_rfl) (fun _ _ _ h=>h) (Or.inl ⟨by kernel_rfl,?yz2_31⟩) (by assumption) ?rz2_31
      case yz2_31=>(intro w hSw;(try dsimp only at hSw);go_simp;try with_reducible rfl)
      simp only [Act.put];refine wpAnyH_take (i:=6) (v:=?vz2_33) rfl (by kernel_rfl) (by kernel_rfl) (by kernel_rfl) (fun _ _ _ h=>h) (Or.inl ⟨by kernel_rfl,?yz2_33⟩) (by assumption) ?rz2_33
      case yz2_33=>(intro w hSw;(try dsimp only at hSw);go_simp;try with_reducible rfl)
      simp only [Act.put];refine wpAnyH_take (i:=7) (v:=?vz2_35) rfl (by kernel_rfl) (by kernel_rfl) (by kernel_rfl) (fun _ _ _ h=>h) (Or.inl ⟨by kernel_rfl,?yz2_35⟩) (by assumption) ?rz2_35
      case yz2_35=>(intro w hSw;(try dsimp only at hSw);go_simp;try with_reducible rfl)
      simp only [Act.put];refine wpAnyH_take (i:=8) (v:=?vz2_37) rfl (by kernel_rfl) (by kernel_rfl) (by kernel_rfl) (fun _ _ _ h=>h) (Or.inl ⟨by kernel_rfl,?yz2_37⟩) (by assumption) ?rz2_37
      case yz2_37=>(intro w hSw;(try dsimp only at hSw);go_simp;try with_reducible rfl)
      simp only [Act.put];refine wpAnyH_take (i:=9) (v:=?vz2_39) rfl (by kernel_rfl) (by kernel_rfl) (by kernel_rfl) (fun _ _ _ h=>h) (Or.inl ⟨by kernel_rfl,?yz2_39⟩) (by assumption) ?rz2_39
      case yz2_39=>(intro w hSw;(try dsimp only at hSw);go_simp;try with_reducible rfl)
      simp only [Act.put];refine wpAnyH_take (i:=10) (v:=?vz2_41) rfl (by kernel_rfl) (by kernel_rfl) (by kernel_rfl) (fun _ _ _ h=>h) (Or.inl ⟨by kernel_rfl,?yz2_41⟩) (by assumption) ?rz2_41
      case yz2_41=>(intro w hSw;(try dsimp only at hSw);go_simp;try with_reducible rfl)
      simp only [Act.put];refine wpAnyH_take (i:=11) (v:=?vz2_43) rfl (by kernel_rfl) (by kernel_rfl) (by kernel_rfl) (fun _ _ _ h=>h) (Or.inl ⟨by kernel_rfl,?yz2_43⟩) (by assumption) ?rz2_43
      case yz2_43=>(intro w hSw;(try dsimp only at hSw);go_simp;try with_reducible rfl)
      simp only [Act.put];refine wpAnyH_take (i:=12) (v:=?vz2_45) rfl (by kernel_rfl) (by kernel_rfl) (by kernel_rfl) (fun _ _ _ h=>h) (Or.inl ⟨by kernel_rfl,?yz2_45⟩) (by assumption) ?rz2_45
      case yz2_45=>(intro w hSw;(try dsimp only at hSw);go_simp;try with_reducible rfl)
      simp only [Act.put];refine wpAnyH_take (i:=13) (v:=?vz2_47) rfl (by kernel_rfl) (by kernel_rfl) (by kernel_rfl) (fun _ _ _ h=>h) (Or.inl ⟨by kernel_rfl,?yz2_47⟩) (by assumption) ?rz2_47
      case yz2_47=>(intro w hSw;(try dsimp only at hSw);go_simp;try with_reducible rfl)
      simp only [Act.put];refine wpAnyH_ready (rs:=[16]) (by kernel_rfl) (by simp) ?_;refine AllReadyH.cons rfl (fun K hK=>?_) ?_
      ·go_simp;go_wp2_with (go_at_call 113;refine HDr.out.mono ?_;rintro e w9 ⟨⟨rfl,h1⟩,h2⟩);refine hK.out _ _ ?_ (fun hHeld=>?_)
       ·(try dsimp only);(first | go_keep | exact HS.out _ (by assumption))
       clear hK K;refine wpAnyH_ready (rs:=[17]) (by kernel_rfl) (by simp) ?_;refine AllReadyH.cons rfl (fun K hK=>?_) ?_
       ·go_simp;refine hK.out _ _ ?_ (fun hHeld=>?_)
        ·(try dsimp only);(first | go_keep | exact HS.out _ (by assumption))
        clear hK K;refine wpAnyH_done (by kernel_rfl) ?_ _;go_wp2_with fail;go_ret;exact ⟨rfl,h1⟩
       exact AllReadyH.nil
      exact AllReadyH.nil
     exact AllReadyH.nil
    exact AllReadyH.nil
   ·have HDr:=HD false (by rw [HRt.out,hcb];simp [hg1]);have g0:decide ((0:Int)<(g.size:Int))=true:=by rw [decide_eq_true_eq];omega
    have g1:decide ((g.size:Int)<=160)=false:=by rw [decide_eq_false_iff_not];omega
    clear HD HRt hcb;go_enter func61,ntmps61;go_wp2_with fail;refine wp_region_held_drew (S:=(fun w'=>w'.cell? ⟨w.heap.size,0,none⟩=some (.string p))) (by kernel_rfl) ?_ (fun hHeld=>?_)
    ·(try dsimp only);(first | go_keep | exact HS.out _ (by assumption))
    refine wpAnyH_take (i:=0) (v:=?vz3_1) rfl (by kernel_rfl) (by kernel_rfl) (by kernel_rfl) (fun _ _ _ h=>h) (Or.inl ⟨by kernel_rfl,?yz3_1⟩) (by assumption) ?rz3_1
    case yz3_1=>(intro w hSw;(try dsimp only at hSw);go_simp;try with_reducible rfl)
    simp only [Act.put,List.setIfInBounds_toArray];refine wpAnyH_take (i:=1) (v:=?vz3_3) rfl (by kernel_rfl) (by kernel_rfl) (by kernel_rfl) (fun _ _ _ h=>h) (Or.inl ⟨by kernel_rfl,?yz3_3⟩) (by assumption) ?rz3_3
    case yz3_3=>(intro w hSw;(try dsimp only at hSw);go_simp;try with_reducible rfl)
    simp only [Act.put];refine wpAnyH_take (i:=2) (v:=?vz3_5) rfl (by kernel_rfl) (by kernel_rfl) (by kernel_rfl) (fun _ _ _ h=>h) (Or.inl ⟨by kernel_rfl,?yz3_5⟩) (by assumption) ?rz3_5
    case yz3_5=>(intro w hSw;(try dsimp only at hSw);go_simp;try with_reducible rfl)
    simp only [Act.put];refine wpAnyH_take (i:=14) (v:=?vz3_7) rfl (by kernel_rfl) (by kernel_rfl) (by kernel_rfl) (fun _ _ _ h=>h) (Or.inl ⟨by kernel_rfl,?yz3_7⟩) (by assumption) ?rz3_7
    case yz3_7=>(intro w hSw;(try dsimp only at hSw);go_simp;try with_reducible rfl)
    simp only [Act.put];refine wpAnyH_ready (rs:=[3,15]) (by kernel_rfl) (by simp) ?_;refine AllReadyH.cons rfl (fun K hK=>?_) ?_
    ·go_simp;go_wp2_with (go_at_call 116;refine (HCk _).out.mono ?_;rintro e w1 ⟨rfl,rfl⟩);refine hK.out _ _ ?_ (fun hHeld=>?_)
     ·(try dsimp only);(first | go_keep | exact HS.out _ (by assumption))
     clear hK K;refine wpAnyH_take (i:=4) (v:=?vz3_9) rfl (by kernel_rfl) (by kernel_rfl) (by kernel_rfl) (fun _ _ _ h=>h) (Or.inl ⟨by kernel_rfl,?yz3_9⟩) (by assumption) ?rz3_9
     case yz3_9=>(intro w hSw;(try dsimp only at hSw);go_simp;try with_reducible rfl)
     simp only [Act.put,List.setIfInBounds_toArray];refine wpAnyH_take (i:=5) (v:=?vz3_11) rfl (by kernel_rfl) (by kernel_rfl) (by kernel_rfl) (fun _ _ _ h=>h) (Or.inl ⟨by kernel_rfl,?yz3_11⟩) (by assumption) ?rz3_11
     case yz3_11=>(intro w hSw;(try dsimp only at hSw);go_simp;try with_reducible rfl)
     simp only [Act.put];refine wpAnyH_take (i:=6) (v:=?vz3_13) rfl (by kernel_rfl) (by kernel_rfl) (by kernel_rfl) (fun _ _ _ h=>h) (Or.inl ⟨by kernel_rfl,?yz3_13⟩) (by assumption) ?rz3_13
     case yz3_13=>(intro w hSw;(try dsimp only at hSw);go_simp;try with_reducible rfl)
     simp only [Act.put];refine wpAnyH_take (i:=7) (v:=?vz3_15) rfl (by kernel_rfl) (by kernel_rfl) (by kernel_rfl) (fun _ _ _ h=>h) (Or.inl ⟨by kernel_rfl,?yz3_15⟩) (by assumption) ?rz3_15
     case yz3_15=>(intro w hSw;(try dsimp only at hSw);go_simp;try with_reducible rfl)
     simp only [Act.put];refine wpAnyH_take (i:=8) (v:=?vz3_17) rfl (by kernel_rfl) (by kernel_rfl) (by kernel_rfl) (fun _ _ _ h=>h) (Or.inl ⟨by kernel_rfl,?yz3_17⟩) (by assumption) ?rz3_17
     case yz3_17=>(intro w hSw;(try dsimp only at hSw);go_simp;try with_reducible rfl)
     simp only [Act.put];refine wpAnyH_take (i:=9) (v:=?vz3_19) rfl (by kernel_rfl) (by kernel_rfl) (by kernel_rfl) (fun _ _ _ h=>h) (Or.inl ⟨by kernel_rfl,?yz3_19⟩) (by assumption) ?rz3_19
     case yz3_19=>(intro w hSw;(try dsimp only at hSw);go_simp;try with_reducible rfl)
     simp only [Act.put];refine wpAnyH_take (i:=10) (v:=?vz3_21) rfl (by kernel_rfl) (by kernel_rfl) (by kernel_rfl) (fun _ _ _ h=>h) (Or.inl ⟨by kernel_rfl,?yz3_21⟩) (by assumption) ?rz3_21
     case yz3_21=>(intro w hSw;(try dsimp only at hSw);go_simp;try with_reducible rfl)
     simp only [Act.put];refine wpAnyH_take (i:=11) (v:=?vz3_23) rfl (by kernel_rfl) (by kernel_rfl) (by kernel_rfl) (fun _ _ _ h=>h) (Or.inl ⟨by kernel_rfl,?yz3_23⟩) (by assumption) ?rz3_23
     case yz3_23=>(intro w hSw;(try dsimp only at hSw);go_simp;try with_reducible rfl)
     simp only [Act.put];refine wpAnyH_take (i:=12) (v:=?vz3_25) rfl (by kernel_rfl) (by kernel_rfl) (by kernel_rfl) (fun _ _ _ h=>h) (Or.inl ⟨by kernel_rfl,?yz3_25⟩) (by assumption) ?rz3_25
     case yz3_25=>(intro w hSw;(try dsimp only at hSw);go_simp;try with_reducible rfl)
     simp only [Act.put];refine wpAnyH_take (i:=13) (v:=?vz3_27) rfl (by kernel_rfl) (by kernel_rfl) (by kernel_rfl) (fun _ _ _ h=>h) (Or.inl ⟨by kernel_rfl,?yz3_27⟩) (by assumption) ?rz3_27
     case yz3_27=>(intro w hSw;(try dsimp only at hSw);go_simp;try with_reducible rfl)
     simp only [Act.put];refine wpAnyH_ready (rs:=[15]) (by kernel_rfl) (by simp) ?_;refine AllReadyH.cons rfl (fun K hK=>?_) ?_
     ·go_simp;refine hK.out _ _ ?_ (fun hHeld=>?_)
      ·(try dsimp only);(first | go_keep | exact HS.out _ (by assumption))
      clear hK K;refine wpAnyH_ready (rs:=[16]) (by kernel_rfl) (by simp) ?_;refine AllReadyH.cons rfl (fun K hK=>?_) ?_
      ·go_simp;go_wp2_with (go_at_call 113;refine HDr.out.mono ?_;rintro e w9 ⟨⟨rfl,h1⟩,h2⟩);refine hK.out _ _ ?_ (fun hHeld=>?_)
       ·(try dsimp only);(first | go_keep | exact HS.out _ (by assumption))
       clear hK K;refine wpAnyH_ready (rs:=[17]) (by kernel_rfl) (by simp) ?_;refine AllReadyH.cons rfl (fun K hK=>?_) ?_
       ·go_simp;refine hK.out _ _ ?_ (fun hHeld=>?_)
        ·(try dsimp only);(first | go_keep | exact HS.out _ (by assumption))
        clear hK K;refine wpAnyH_done (by kernel_rfl) ?_ _;go_wp2_with fail;go_ret;exact ⟨rfl,h1⟩
       exact AllReadyH.nil
      exact AllReadyH.nil
     exact AllReadyH.nil
    refine AllReadyH.cons rfl (fun K hK=>?_) ?_
    ·go_simp;refine hK.out _ _ ?_ (fun hHeld=>?_)
     ·(try dsimp only);(first | go_keep | exact HS.out _ (by assumption))
     clear hK K;refine wpAnyH_ready (rs:=[3]) (by kernel_rfl) (by simp) ?_;refine AllReadyH.cons rfl (fun K hK=>?_) ?_
     ·go_simp;go_wp2_with (go_at_call 116;refine (HCk _).out.mono ?_;rintro e w1 ⟨rfl,rfl⟩);refine hK.out _ _ ?_ (fun hHeld=>?_)
      ·(try dsimp only);(first | go_keep | exact HS.out _ (by assumption))
      clear hK K;refine wpAnyH_take (i:=4) (v:=?vz3_29) rfl (by kernel_rfl) (by kernel_rfl) (by kernel_rfl) (fun _ _ _ h=>h) (Or.inl ⟨by kernel_rfl,?yz3_29⟩) (by assumption) ?rz3_29
      case yz3_29=>(intro w hSw;(try dsimp only at hSw);go_simp;try with_reducible rfl)
      simp only [Act.put,List.setIfInBounds_toArray];refine wpAnyH_take (i:=5) (v:=?vz3_31) rfl (by kernel_rfl) (by kernel_rfl) (by kernel_rfl) (fun _ _ _ h=>h) (Or.inl ⟨by kernel_rfl,?yz3_31⟩) (by assumption) ?rz3_31
      case yz3_31=>(intro w hSw;(try dsimp only at hSw);go_simp;try with_reducible rfl)
      simp only [Act.put];refine wpAnyH_take (i:=6) (v:=?vz3_33) rfl (by kernel_rfl) (by kernel_rfl) (by kernel_rfl) (fun _ _ _ h=>h) (Or.inl ⟨by kernel_rfl,?yz3_33⟩) (by assumption) ?rz3_33
      case yz3_33=>(intro w hSw;(try dsimp only at hSw);go_simp;try with_reducible rfl)
      simp only [Act.put];refine wpAnyH_take (i:=7) (v:=?vz3_35) rfl (by kernel_rfl) (by kernel_rfl) (by kernel_rfl) (fun _ _ _ h=>h) (Or.inl ⟨by kernel_rfl,?yz3_35⟩) (by assumption) ?rz3_35
      case yz3_35=>(intro w hSw;(try dsimp only at hSw);go_simp;try with_reducible rfl)
      simp only [Act.put];refine wpAnyH_take (i:=8) (v:=?vz3_37) rfl (by kernel_rfl) (by kernel_rfl) (by kernel_rfl) (fun _ _ _ h=>h) (Or.inl ⟨by kernel_rfl,?yz3_37⟩) (by assumption) ?rz3_37
      case yz3_37=>(intro w hSw;(try dsimp only at hSw);go_simp;try with_reducible rfl)
      simp only [Act.put];refine wpAnyH_take (i:=9) (v:=?vz3_39) rfl (by kernel_rfl) (by kernel_rfl) (by kernel_rfl) (fun _ _ _ h=>h) (Or.inl ⟨by kernel_rfl,?yz3_39⟩) (by assumption) ?rz3_39
      case yz3_39=>(intro w hSw;(try dsimp only at hSw);go_simp;try with_reducible rfl)
      simp only [Act.put];refine wpAnyH_take (i:=10) (v:=?vz3_41) rfl (by kernel_rfl) (by kernel_rfl) (by kernel_rfl) (fun _ _ _ h=>h) (Or.inl ⟨by kernel_rfl,?yz3_41⟩) (by assumption) ?rz3_41
      case yz3_41=>(intro w hSw;(try dsimp only at hSw);go_simp;try with_reducible rfl)
      simp only [Act.put];refine wpAnyH_take (i:=11) (v:=?vz3_43) rfl (by kernel_rfl) (by kernel_rfl) (by kernel_rfl) (fun _ _ _ h=>h) (Or.inl ⟨by kernel_rfl,?yz3_43⟩) (by assumption) ?rz3_43
      case yz3_43=>(intro w hSw;(try dsimp only at hSw);go_simp;try with_reducible rfl)
      simp only [Act.put];refine wpAnyH_take (i:=12) (v:=?vz3_45) rfl (by kernel_rfl) (by kernel_rfl) (by kernel_rfl) (fun _ _ _ h=>h) (Or.inl ⟨by kernel_rfl,?yz3_45⟩) (by assumption) ?rz3_45
      case yz3_45=>(intro w hSw;(try dsimp only at hSw);go_simp;try with_reducible rfl)
      simp only [Act.put];refine wpAnyH_take (i:=13) (v:=?vz3_47) rfl (by kernel_rfl) (by kernel_rfl) (by kernel_rfl) (fun _ _ _ h=>h) (Or.inl ⟨by kernel_rfl,?yz3_47⟩) (by assumption) ?rz3_47
      case yz3_47=>(intro w hSw;(try dsimp only at hSw);go_simp;try with_reducible rfl)
      simp only [Act.put];refine wpAnyH_ready (rs:=[16]) (by kernel_rfl) (by simp) ?_;refine AllReadyH.cons rfl (fun K hK=>?_) ?_
      ·go_simp;go_wp2_with (go_at_call 113;refine HDr.out.mono ?_;rintro e w9 ⟨⟨rfl,h1⟩,h2⟩);refine hK.out _ _ ?_ (fun hHeld=>?_)
       ·(try dsimp only);(first | go_keep | exact HS.out _ (by assumption))
       clear hK K;refine wpAnyH_ready (rs:=[17]) (by kernel_rfl) (by simp) ?_;refine AllReadyH.cons rfl (fun K hK=>?_) ?_
       ·go_simp;refine hK.out _ _ ?_ (fun hHeld=>?_)
        ·(try dsimp only);(first | go_keep | exact HS.out _ (by assumption))
        clear hK K;refine wpAnyH_done (by kernel_rfl) ?_ _;go_wp2_with fail;go_ret;exact ⟨rfl,h1⟩
       exact AllReadyH.nil
      exact AllReadyH.nil
     exact AllReadyH.nil
    exact AllReadyH.nil
  ·have HDr:=HD false (by rw [HRt.out,hcb];simp [hg0]);have g0:decide ((0:Int)<(g.size:Int))=false:=by rw [decide_eq_false_iff_not];omega
   clear HD HRt hcb;go_enter func61,ntmps61;go_wp2_with fail;refine wp_region_held_drew (S:=(fun w'=>w'.cell? ⟨w.heap.size,0,none⟩=some (.string p))) (by kernel_rfl) ?_ (fun hHeld=>?_)
   ·(try dsimp only);(first | go_keep | exact HS.out _ (by assumption))
   refine wpAnyH_take (i:=0) (v:=?vz4_1) rfl (by kernel_rfl) (by kernel_rfl) (by kernel_rfl) (fun _ _ _ h=>h) (Or.inl ⟨by kernel_rfl,?yz4_1⟩) (by assumption) ?rz4_1
   case yz4_1=>(intro w hSw;(try dsimp only at hSw);go_simp;try with_reducible rfl)
   simp only [Act.put,List.setIfInBounds_toArray];refine wpAnyH_take (i:=1) (v:=?vz4_3) rfl (by kernel_rfl) (by kernel_rfl) (by kernel_rfl) (fun _ _ _ h=>h) (Or.inl ⟨by kernel_rfl,?yz4_3⟩) (by assumption) ?rz4_3
   case yz4_3=>(intro w hSw;(try dsimp only at hSw);go_simp;try with_reducible rfl)
   simp only [Act.put];refine wpAnyH_take (i:=2) (v:=?vz4_5) rfl (by kernel_rfl) (by kernel_rfl) (by kernel_rfl) (fun _ _ _ h=>h) (Or.inl ⟨by kernel_rfl,?yz4_5⟩) (by assumption) ?rz4_5
   case yz4_5=>(intro w hSw;(try dsimp only at hSw);go_simp;try with_reducible rfl)
   simp only [Act.put];refine wpAnyH_take (i:=14) (v:=?vz4_7) rfl (by kernel_rfl) (by kernel_rfl) (by kernel_rfl) (fun _ _ _ h=>h) (Or.inl ⟨by kernel_rfl,?yz4_7⟩) (by assumption) ?rz4_7
   case yz4_7=>(intro w hSw;(try dsimp only at hSw);go_simp;try with_reducible rfl)
   simp only [Act.put];refine wpAnyH_ready (rs:=[3,15]) (by kernel_rfl) (by simp) ?_;refine AllReadyH.cons rfl (fun K hK=>?_) ?_
   ·go_simp;go_wp2_with (go_at_call 116;refine (HCk _).out.mono ?_;rintro e w1 ⟨rfl,rfl⟩);refine hK.out _ _ ?_ (fun hHeld=>?_)
    ·(try dsimp only);(first | go_keep | exact HS.out _ (by assumption))
    clear hK K;refine wpAnyH_take (i:=4) (v:=?vz4_9) rfl (by kernel_rfl) (by kernel_rfl) (by kernel_rfl) (fun _ _ _ h=>h) (Or.inl ⟨by kernel_rfl,?yz4_9⟩) (by assumption) ?rz4_9
    case yz4_9=>(intro w hSw;(try dsimp only at hSw);go_simp;try with_reducible rfl)
    simp only [Act.put,List.setIfInBounds_toArray];refine wpAnyH_take (i:=5) (v:=?vz4_11) rfl (by kernel_rfl) (by kernel_rfl) (by kernel_rfl) (fun _ _ _ h=>h) (Or.inl ⟨by kernel_rfl,?yz4_11⟩) (by assumption) ?rz4_11
    case yz4_11=>(intro w hSw;(try dsimp only at hSw);go_simp;try with_reducible rfl)
    simp only [Act.put];refine wpAnyH_take (i:=6) (v:=?vz4_13) rfl (by kernel_rfl) (by kernel_rfl) (by kernel_rfl) (fun _ _ _ h=>h) (Or.inl ⟨by kernel_rfl,?yz4_13⟩) (by assumption) ?rz4_13
    case yz4_13=>(intro w hSw;(try dsimp only at hSw);go_simp;try with_reducible rfl)
    simp only [Act.put];refine wpAnyH_take (i:=7) (v:=?vz4_15) rfl (by kernel_rfl) (by kernel_rfl) (by kernel_rfl) (fun _ _ _ h=>h) (Or.inl ⟨by kernel_rfl,?yz4_15⟩) (by assumption) ?rz4_15
    case yz4_15=>(intro w hSw;(try dsimp only at hSw);go_simp;try with_reducible rfl)
    simp only [Act.put];refine wpAnyH_take (i:=8) (v:=?vz4_17) rfl (by kernel_rfl) (by kernel_rfl) (by kernel_rfl) (fun _ _ _ h=>h) (Or.inl ⟨by kernel_rfl,?yz4_17⟩) (by assumption) ?rz4_17
    case yz4_17=>(intro w hSw;(try dsimp only at hSw);go_simp;try with_reducible rfl)
    simp only [Act.put];refine wpAnyH_take (i:=9) (v:=?vz4_19) rfl (by kernel_rfl) (by kernel_rfl) (by kernel_rfl) (fun _ _ _ h=>h) (Or.inl ⟨by kernel_rfl,?yz4_19⟩) (by assumption) ?rz4_19
    case yz4_19=>(intro w hSw;(try dsimp only at hSw);go_simp;try with_reducible rfl)
    simp only [Act.put];refine wpAnyH_take (i:=10) (v:=undef) rfl (by kernel_rfl) (by kernel_rfl) (by kernel_rfl) (fun _ _ _ h=>h) (Or.inr ⟨by kernel_rfl,rfl⟩) (by assumption) ?_;simp only [Act.put];refine wpAnyH_take (i:=11) (v:=undef) rfl (by kernel_rfl) (by kernel_rfl) (by kernel_rfl) (fun _ _ _ h=>h) (Or.inr ⟨by kernel_rfl,rfl⟩) (by assumption) ?_;simp only [Act.put];refine wpAnyH_take (i:=12) (v:=undef) rfl (by kernel_rfl) (by kernel_rfl) (by kernel_rfl) (fun _ _ _ h=>h) (Or.inr ⟨by kernel_rfl,rfl⟩) (by assumption) ?_;simp only [Act.put];refine wpAnyH_take (i:=13) (v:=?vz4_21) rfl (by kernel_rfl) (by kernel_rfl) (by kernel_rfl) (fun _ _ _ h=>h) (Or.inl ⟨by kernel_rfl,?yz4_21⟩) (by assumption) ?rz4_21
    case yz4_21=>(intro w hSw;(try dsimp only at hSw);go_simp;try with_reducible rfl)
    simp only [Act.put];refine wpAnyH_ready (rs:=[15]) (by kernel_rfl) (by simp) ?_;refine AllReadyH.cons rfl (fun K hK=>?_) ?_
    ·go_simp;refine hK.out _ _ ?_ (fun hHeld=>?_)
     ·(try dsimp only);(first | go_keep | exact HS.out _ (by assumption))
     clear hK K;refine wpAnyH_ready (rs:=[16]) (by kernel_rfl) (by simp) ?_;refine AllReadyH.cons rfl (fun K hK=>?_) ?_
     ·go_simp;go_wp2_with (go_at_call 113;refine HDr.out.mono ?_;rintro e w9 ⟨⟨rfl,h1⟩,h2⟩);refine hK.out _ _ ?_ (fun hHeld=>?_)
      ·(try dsimp only);(first | go_keep | exact HS.out _ (by assumption))
      clear hK K;refine wpAnyH_ready (rs:=[17]) (by kernel_rfl) (by simp) ?_;refine AllReadyH.cons rfl (fun K hK=>?_) ?_
      ·go_simp;refine hK.out _ _ ?_ (fun hHeld=>?_)
       ·(try dsimp only);(first | go_keep | exact HS.out _ (by assumption))
       clear hK K;refine wpAnyH_done (by kernel_rfl) ?_ _;go_wp2_with fail;go_ret;exact ⟨rfl,h1⟩
      exact AllReadyH.nil
     exact AllReadyH.nil
    exact AllReadyH.nil
   refine AllReadyH.cons rfl (fun K hK=>?_) ?_
   ·go_simp;refine hK.out _ _ ?_ (fun hHeld=>?_)
    ·(try dsimp only);(first | go_keep | exact HS.out _ (by assumption))
    clear hK K;refine wpAnyH_ready (rs:=[3]) (by kernel_rfl) (by simp) ?_;refine AllReadyH.cons rfl (fun K hK=>?_) ?_
    ·go_simp;go_wp2_with (go_at_call 116;refine (HCk _).out.mono ?_;rintro e w1 ⟨rfl,rfl⟩);refine hK.out _ _ ?_ (fun hHeld=>?_)
     ·(try dsimp only);(first | go_keep | exact HS.out _ (by assumption))
     clear hK K;refine wpAnyH_take (i:=4) (v:=?vz4_23) rfl (by kernel_rfl) (by kernel_rfl) (by kernel_rfl) (fun _ _ _ h=>h) (Or.inl ⟨by kernel_rfl,?yz4_23⟩) (by assumption) ?rz4_23
     case yz4_23=>(intro w hSw;(try dsimp only at hSw);go_simp;try with_reducible rfl)
     simp only [Act.put,List.setIfInBounds_toArray];refine wpAnyH_take (i:=5) (v:=?vz4_25) rfl (by kernel_rfl) (by kernel_rfl) (by kernel_rfl) (fun _ _ _ h=>h) (Or.inl ⟨by kernel_rfl,?yz4_25⟩) (by assumption) ?rz4_25
     case yz4_25=>(intro w hSw;(try dsimp only at hSw);go_simp;try with_reducible rfl)
     simp only [Act.put];refine wpAnyH_take (i:=6) (v:=?vz4_27) rfl (by kernel_rfl) (by kernel_rfl) (by kernel_rfl) (fun _ _ _ h=>h) (Or.inl ⟨by kernel_rfl,?yz4_27⟩) (by assumption) ?rz4_27
     case yz4_27=>(intro w hSw;(try dsimp only at hSw);go_simp;try with_reducible rfl)
     simp only [Act.put];refine wpAnyH_take (i:=7) (v:=?vz4_29) rfl (by kernel_rfl) (by kernel_rfl) (by kernel_rfl) (fun _ _ _ h=>h) (Or.inl ⟨by kernel_rfl,?yz4_29⟩) (by assumption) ?rz4_29
     case yz4_29=>(intro w hSw;(try dsimp only at hSw);go_simp;try with_reducible rfl)
     simp only [Act.put];refine wpAnyH_take (i:=8) (v:=?vz4_31) rfl (by kernel_rfl) (by kernel_rfl) (by kernel_rfl) (fun _ _ _ h=>h) (Or.inl ⟨by kernel_rfl,?yz4_31⟩) (by assumption) ?rz4_31
     case yz4_31=>(intro w hSw;(try dsimp only at hSw);go_simp;try with_reducible rfl)
     simp only [Act.put];refine wpAnyH_take (i:=9) (v:=?vz4_33) rfl (by kernel_rfl) (by kernel_rfl) (by kernel_rfl) (fun _ _ _ h=>h) (Or.inl ⟨by kernel_rfl,?yz4_33⟩) (by assumption) ?rz4_33
     case yz4_33=>(intro w hSw;(try dsimp only at hSw);go_simp;try with_reducible rfl)
     simp only [Act.put];refine wpAnyH_take (i:=10) (v:=undef) rfl (by kernel_rfl) (by kernel_rfl) (by kernel_rfl) (fun _ _ _ h=>h) (Or.inr ⟨by kernel_rfl,rfl⟩) (by assumption) ?_;simp only [Act.put];refine wpAnyH_take (i:=11) (v:=undef) rfl (by kernel_rfl) (by kernel_rfl) (by kernel_rfl) (fun _ _ _ h=>h) (Or.inr ⟨by kernel_rfl,rfl⟩) (by assumption) ?_;simp only [Act.put];refine wpAnyH_take (i:=12) (v:=undef) rfl (by kernel_rfl) (by kernel_rfl) (by kernel_rfl) (fun _ _ _ h=>h) (Or.inr ⟨by kernel_rfl,rfl⟩) (by assumption) ?_;simp only [Act.put];refine wpAnyH_take (i:=13) (v:=?vz4_35) rfl (by kernel_rfl) (by kernel_rfl) (by kernel_rfl) (fun _ _ _ h=>h) (Or.inl ⟨by kernel_rfl,?yz4_35⟩) (by assumption) ?rz4_35
     case yz4_35=>(intro w hSw;(try dsimp only at hSw);go_simp;try with_reducible rfl)
     simp only [Act.put];refine wpAnyH_ready (rs:=[16]) (by kernel_rfl) (by simp) ?_;refine AllReadyH.cons rfl (fun K hK=>?_) ?_
     ·go_simp;go_wp2_with (go_at_call 113;refine HDr.out.mono ?_;rintro e w9 ⟨⟨rfl,h1⟩,h2⟩);refine hK.out _ _ ?_ (fun hHeld=>?_)
      ·(try dsimp only);(first | go_keep | exact HS.out _ (by assumption))
      clear hK K;refine wpAnyH_ready (rs:=[17]) (by kernel_rfl) (by simp) ?_;refine AllReadyH.cons rfl (fun K hK=>?_) ?_
      ·go_simp;refine hK.out _ _ ?_ (fun hHeld=>?_)
       ·(try dsimp only);(first | go_keep | exact HS.out _ (by assumption))
       clear hK K;refine wpAnyH_done (by kernel_rfl) ?_ _;go_wp2_with fail;go_ret;exact ⟨rfl,h1⟩
      exact AllReadyH.nil
     exact AllReadyH.nil
    exact AllReadyH.nil
   exact AllReadyH.nil
end
section
theorem take_next {α:Type} {l:List α} {k:Nat} {a:α} (h:l[k]?=some a):l.take (k+1)=l.take k++[a]:=by rw [List.take_add_one,h];rfl
structure DkRun (k:Nat) (D:Dk):Prop where
 ok:DkOk D
 len:D.log.length<=k
 lo:-(k:Int)<=D.left
 hi:D.left<=9223372036854775807
 again:crashL D.room D.lasts D.log (List.replicate D.log.length 1)=D.live
theorem DkRun.mono {k m:Nat} {D:Dk} (R:DkRun k D) (h:k<=m):DkRun m D:=⟨R.ok,Nat.le_trans R.len h,by have:=R.lo;omega,R.hi,R.again⟩
theorem DkRun.made {room:Nat} (h1:1024<=room) (h2:room<=1048576):DkRun 0 (Dk.made room) :=
 ⟨DkOk.made h1 h2,Nat.le_refl _,by show -((0:Nat):Int)<=(0:Int);omega,by show (0:Int)<=_;omega,rfl⟩
theorem again_snoc {room:Nat} {l l':Nodes} {log:List Eff} (x:Eff) (h:crashL room l log (List.replicate log.length 1)=l'):crashL room l (log++[x]) (List.replicate (log++[x]).length 1)=(effE l' room full x).2:=by
 have hs:=crashL_step (room:=room) log.length (log++[x]) (List.replicate (log.length+1) 1) l x 1 (by simp) (by rw [List.getElem?_replicate,if_pos (by omega)]);rw [List.take_of_length_le (by simp),List.take_of_length_le (by simp),List.take_left,List.take_replicate,Nat.min_eq_left (by omega),h] at hs;rw [List.length_append,List.length_singleton,hs];rfl
theorem DkRun.act {k:Nat} {D:Dk} (R:DkRun k D) (x:Eff):DkRun (k+1) (D.act x).2:=by
 have h0:=R.ok.act x;have hlo:=R.lo;have hhi:=R.hi;unfold Dk.act at h0 ⊢;split
 ·exact R.mono (by omega)
 ·rename_i h1;rw [if_neg h1] at h0;split
  ·rename_i h2;rw [if_pos h2] at h0;split
   ·rename_i h3;rw [if_pos h3] at h0;split
    ·rename_i h4;rw [if_pos h4] at h0;exact ⟨h0,by have:=R.len;simp;omega,by show _<=D.left - 1;omega,by show D.left - 1<=_;omega,again_snoc x R.again⟩
    ·exact R.mono (by omega)
   ·exact R.mono (by omega)
  ·exact R.mono (by omega)
theorem TreeOk.at {l:Nodes} {room:Nat} (T:TreeOk l room) {k:Nat} {x:ByteArray×Nd} (h:l[k]?=some x):findA l x.1=some x.2/\mayB x.1=true/\kindAt l (parentS x.1)=2 :=
 ⟨findA_of_mem T.sorted.nodup (List.mem_of_getElem? h),T.may x (List.mem_of_getElem? h),T.home x (List.mem_of_getElem? h)⟩
theorem usedL_take {l:Nodes} {k:Nat} {x:ByteArray×Nd} (h:l[k]?=some x):usedL (l.take (k+1))=usedL (l.take k)+(64+x.2.data.size):=by
 rw [take_next h,usedL_append];rfl
theorem usedL_take_le (l:Nodes) (k:Nat):usedL (l.take k)<=usedL l:=by
 have:=usedL_append (l.take k) (l.drop k);rw [List.take_append_drop] at this;omega
end
section
end
section
def withStep (p:ByteArray) (n:Nd) (s:Bool×Nodes) (x:ByteArray×Nd):Bool×Nodes :=
 if !s.1&&decide (cmpL p.toList x.1.toList<=0) then (true,if x.1=p then s.2++[(p,n)] else s.2++[(p,n)]++[x]) else (s.1,if x.1=p then s.2 else s.2++[x])
def withF (l:Nodes) (p:ByteArray) (n:Nd):Bool×Nodes:=l.foldl (withStep p n) (false,[])
theorem withF_next {l:Nodes} {p:ByteArray} {n:Nd} {k:Nat} {x:ByteArray×Nd} (h:l[k]?=some x):withF (l.take (k+1)) p n=withStep p n (withF (l.take k) p n) x:=by
 unfold withF;rw [take_next h,List.foldl_append];rfl
theorem with_done {p:ByteArray} {n:Nd}:∀ (l o:Nodes),(∀ x∈l,x.1≠p)->l.foldl (withStep p n) (true,o)=(true,o++l)
 | [],o,_=>by simp
 | x::r,o,h=>by
  rw [List.foldl_cons,show withStep p n (true,o) x=(true,o++[x]) from by unfold withStep;simp [h x List.mem_cons_self],with_done r _ fun y hy=>h y (List.mem_cons_of_mem _ hy)];simp
theorem with_go {p:ByteArray} {n:Nd}:∀ (l o:Nodes),Sorted l->(let s:=l.foldl (withStep p n) (false,o);if s.1 then s.2 else s.2++[(p,n)])=o++insS l p n
 | [],o,_=>by simp [insS]
 | (q,m)::r,o,h=>by
  obtain ⟨h1,h2⟩:=List.pairwise_cons.1 h;rw [List.foldl_cons];by_cases hpq:p=q
  ·subst hpq;rw [show withStep p n (false,o) (p,m)=(true,o++[(p,n)]) from by unfold withStep;simp [cmpL_self]];rw [with_done r _ fun x hx e=>cmp_lt_ne (h1 x hx) e.symm];simp [insS]
  ·by_cases hlt:cmpL p.toList q.toList=-1
   ·rw [show withStep p n (false,o) (q,m)=(true,o++[(p,n)]++[(q,m)]) from by unfold withStep;simp [hlt,Ne.symm hpq]]
    rw [with_done r _ fun x hx e=>by
     have h3:=cmpL_trans _ _ _ hlt (h1 x hx);rw [e,cmpL_self] at h3
     cases h3]
    simp [insS,hpq,hlt]
   ·have hgt:¬ cmpL p.toList q.toList<=0:=by
     rcases cmpL_vals p.toList q.toList with e | e | e
     ·exact absurd e hlt
     ·exact absurd (ba_ext (cmpL_zero _ _ e)) hpq
     ·rw [e];decide
    rw [show withStep p n (false,o) (q,m)=(false,o++[(q,m)]) from by unfold withStep;simp [hgt,Ne.symm hpq]];have:=with_go (p:=p) (n:=n) r (o++[(q,m)]) h2;rw [this];simp [insS,hpq,hlt]
theorem withF_end {l:Nodes} (h:Sorted l) (p:ByteArray) (n:Nd):(if (withF l p n).1 then (withF l p n).2 else (withF l p n).2++[(p,n)])=insS l p n:=by
 have:=with_go (p:=p) (n:=n) l [] h;rw [List.nil_append] at this;exact this
theorem withF_len (p:ByteArray) (n:Nd):∀ (l:Nodes) (s:Bool×Nodes),(l.foldl (withStep p n) s).2.length<=s.2.length+l.length+(if s.1 then 0 else 1)
 | [],s=>by simp
 | x::r,s=>by
  rw [List.foldl_cons];have:=withF_len p n r (withStep p n s x)
  have h2:(withStep p n s x).2.length+(if (withStep p n s x).1 then 0 else 1)<=s.2.length+1+(if s.1 then 0 else 1):=by
   unfold withStep;split
   ·rename_i h;simp only [Bool.and_eq_true,Bool.not_eq_true'] at h;rw [h.1];by_cases e:x.1=p <;> simp [e]
   ·by_cases e:x.1=p <;> simp [e] <;> split <;> omega
  simp only [List.length_cons];omega
theorem insS_len (l:Nodes) (p:ByteArray) (n:Nd):(insS l p n).length<=l.length+1:=by
 induction l with
 | nil=>simp [insS]
 | cons y r ih =>
  obtain ⟨q,m⟩:=y;unfold insS;split
  ·simp
  ·split <;> simp;omega
def idxA (l:Nodes) (p:ByteArray):Nat:=l.findIdx fun x=>decide (x.1=p)
theorem idx_some:∀ {l:Nodes} {p:ByteArray} {n:Nd},findA l p=some n->l[idxA l p]?=some (p,n)
 | [],_,_,h=>by cases h
 | (k,m)::r,p,n,h=>by
  unfold findA at h;unfold idxA;rw [List.findIdx_cons];by_cases e:k=p
  ·rw [if_pos e] at h
   cases h
   subst e;simp
  ·rw [if_neg e] at h;have:=idx_some (l:=r) h
   simpa [e,idxA] using this
theorem idx_first {l:Nodes} {p:ByteArray} {k:Nat} {x:ByteArray×Nd} (h:l[k]?=some x) (hx:x.1=p) (hb:∀ y∈l.take k,y.1≠p):findA l p=some x.2/\idxA l p=k:=by
 induction l generalizing k with
 | nil=>simp at h
 | cons y r ih =>
  obtain ⟨q,m⟩:=y
  cases k with
  | zero =>
   simp at h;subst h;simp only at hx;subst hx;exact ⟨by unfold findA;rw [if_pos rfl],by unfold idxA;rw [List.findIdx_cons];simp⟩
  | succ k =>
   have hq:q≠p:=hb (q,m) (by simp);obtain ⟨h1,h2⟩:=ih (k:=k) (by simpa using h) fun y hy=>hb y (by simp [hy]);refine ⟨by unfold findA;rw [if_neg hq];exact h1,?_⟩;unfold idxA at h2 ⊢;rw [List.findIdx_cons];simp [hq,h2]
theorem idx_none {l:Nodes} {p:ByteArray} (hb:∀ y∈l,y.1≠p):findA l p=none:=findA_none hb
structure RE where
 k:Int
 p:ByteArray
 q:ByteArray
 data:ByteArray
 time:Int
def RE.eff (x:RE):Eff:=if x.k=1 then .write x.p x.data x.time else if x.k=2 then .add x.p x.data else if x.k=3 then .mkdir x.p else if x.k=4 then .link x.p x.data x.time else if x.k=5 then .rename x.p x.q else .remove x.p
end
section
theorem el_byte:Elem prog 52 5 (.int .u8 0) 1:=⟨by kernel_rfl,by kernel_rfl,rfl,by decide⟩
def byteV (x:UInt8):Value:=.int .u8 x.toNat
theorem grown_ext {w0 w w1:World} {base k:Nat} {e:TypeId} {v:Value} {n:Nat} {xs:List Value} (x:Ext w0 w) (hb:w0.heap.size<=base) (ho:w.ownsRow base e k v n xs) (hg:w.grownBy w1 v.ownBlock):Ext w0 w1 :=
 Below.trans x ⟨hg.os,hg.tape,hg.output,hg.size,fun i hi=>hg.block i (Nat.lt_of_lt_of_le hi x.size) fun e=>by have:=(ho.lt _ e.symm).1;omega⟩
theorem row_slice {w:World} {base n:Nat} {e:TypeId} {v:Value} {xs:List Value} (h:w.ownsRow base e 1 v n xs):∃ (a:Option Addr) (cap:Nat),v=.slice a n cap/\(a=none->n=0/\cap=0)/\n<=cap/\cap<=maxLen/\∀ (k:Nat) x,xs[k]?=some x->∃ g,a=some ⟨g,0,none⟩/\base<=g/\g<w.heap.size/\w.cell? ⟨g,k,none⟩=some x:=by
 rcases h.2 with ⟨rfl,rfl⟩ | ⟨g,cap,cur,rfl,hb,hh,hc,hm,hs,ht⟩
 ·have h1:xs.length=0:=by have:=h.1;omega
  obtain rfl:=List.length_eq_zero_iff.1 h1;exact ⟨none,0,rfl,fun _=>⟨rfl,rfl⟩,Nat.le_refl _,by decide,fun k x hx=>by simp at hx⟩
 ·refine ⟨some ⟨g,0,none⟩,cap,rfl,(fun h=>by cases h),hc,hm,fun k x hx=>⟨g,rfl,hb,ltB hh,?_⟩⟩;have hk:k<xs.length:=(List.getElem?_eq_some_iff.1 hx).1;rw [h.cellAt k (by have:=h.1;omega),hx]
end
section
end
section
theorem DkRun.fit {k:Nat} {D:Dk} (R:DkRun k D) (hk:k<=100000):DkFit D:=⟨R.ok,by have:=R.len;omega,by have:=R.lo;omega,R.hi⟩
structure ActFit (x:ActR):Prop where
 ok:ActOk x
 p:x.p.size<=1000
 q:x.q.size<=1000
 text:x.text.size<=10000
end
section
def cells5 (x:ByteArray×Nd):List Value:=[.string x.1,.int .i64 x.2.kind,.string x.2.data,.string x.2.target,.int .i64 x.2.time]
def rows5 (l:Nodes):List Value:=l.flatMap cells5
def cells7 (x:RE):List Value:=[.int .i64 x.k,.string x.p,.string x.q,.string x.data,.int .i64 x.time,.int .i64 0,.bool false]
def rows7 (l:List RE):List Value:=l.flatMap cells7
theorem rows5_snoc (l:Nodes) (x:ByteArray×Nd):rows5 (l++[x])=rows5 l++cells5 x:=by simp [rows5]
theorem rows7_snoc (l:List RE) (x:RE):rows7 (l++[x])=rows7 l++cells7 x:=by simp [rows7]
theorem flat_get {α:Type} {f:α->List Value} {n:Nat} (hf:∀ x,(f x).length=n):∀ (l:List α) (k j:Nat) (x:α),l[k]?=some x->j<n->(l.flatMap f)[k*n+j]?=(f x)[j]?
 | [],k,j,x,h,_=>by simp at h
 | y::r,0,j,x,h,hj=>by
  simp at h;subst h;rw [List.flatMap_cons,List.getElem?_append_left (by rw [hf];omega)];simp
 | y::r,k+1,j,x,h,hj=>by
  rw [List.flatMap_cons,List.getElem?_append_right (by rw [hf,Nat.succ_mul];omega),hf,show (k+1)*n+j - n=k*n+j from by rw [Nat.succ_mul];omega];exact flat_get hf r k j x (by simpa using h) hj
theorem rows5_get {l:Nodes} {k j:Nat} {x:ByteArray×Nd} (h:l[k]?=some x) (hj:j<5):(rows5 l)[k*5+j]?=(cells5 x)[j]?:=flat_get (n:=5) (fun _=>rfl) l k j x h hj
structure REOk (x:RE):Prop where
 k1:1<=x.k
 k6:x.k<=6
 data:x.data.size<=1048576
structure RTreeAt (w:World) (t:Nat) (v:Value) (l:Nodes) (room:Nat):Prop where
 blk:w.heap[t]?=some (.cells #[v,.int .i64 (room:Nat)] 180 (0,0))
 row:w.ownsRow 0 86 5 v l.length (rows5 l)
theorem RTreeAt.ext {w w':World} {t:Nat} {v:Value} {l:Nodes} {room:Nat} (h:RTreeAt w t v l room) (x:Ext w w'):RTreeAt w' t v l room:=⟨(x.block (ltB h.blk)).trans h.blk,owns_blocks h.row fun b hb=>x.block (own_lt h.row b hb)⟩
theorem RTreeAt.kept {w w':World} {t:Nat} {v:Value} {l:Nodes} {room:Nat} (h:RTreeAt w t v l room) (k:∀ b,b=t\/v.ownBlock=some b->w'.heap[b]?=w.heap[b]?):RTreeAt w' t v l room:=⟨(k t (.inl rfl)).trans h.blk,owns_blocks h.row fun b hb=>k b (.inr hb)⟩
structure RkIn (w:World) (r lt ls:Nat) (lv sv lg:Value) (D:Dk):Prop where
 blk:w.heap[r]?=some (.cells #[.pointer (some ⟨lt,0,none⟩),.pointer (some ⟨ls,0,none⟩),lg,.bool D.fused,.int .i64 D.left] 76 (0,0))
 live:RTreeAt w lt lv D.live D.room
 lasts:RTreeAt w ls sv D.lasts D.room
 log:∃ res:List RE,(res.map RE.eff=D.log/\∀ x∈res,REOk x)/\w.ownsRow 0 134 7 lg D.log.length (rows7 res)
 rlg:lg.ownBlock≠some r
 imm:∀ b∈[lt,ls]++rowB lv++rowB sv,b≠r/\lg.ownBlock≠some b
def RkAt (w:World) (r:Nat) (M I:List Nat) (D:Dk):Prop:=∃ lt ls lv sv lg,RkIn w r lt ls lv sv lg D/\M=[r]++rowB lg/\I=[lt,ls]++rowB lv++rowB sv
theorem RkAt.lt {w:World} {r:Nat} {M I:List Nat} {D:Dk} (h:RkAt w r M I D):(∀ b∈M,b<w.heap.size)/\∀ b∈I,b<w.heap.size:=by
 obtain ⟨lt,ls,lv,sv,lg,h,rfl,rfl⟩:=h;obtain ⟨res,_,hl⟩:=h.log;refine ⟨fun b hb=>?_,fun b hb=>?_⟩
 ·simp only [List.mem_append,List.mem_singleton] at hb;rcases hb with rfl | hb
  ·exact ltB h.blk
  ·exact own_lt hl b (mem_rowB.1 hb)
 ·simp only [List.mem_append,List.mem_cons,List.not_mem_nil,or_false] at hb;rcases hb with ((rfl | rfl) | hb) | hb
  ·exact ltB h.live.blk
  ·exact ltB h.lasts.blk
  ·exact own_lt h.live.row b (mem_rowB.1 hb)
  ·exact own_lt h.lasts.row b (mem_rowB.1 hb)
theorem RkAt.kept {w w':World} {r:Nat} {M I:List Nat} {D:Dk} (h:RkAt w r M I D) (hk:∀ b,b<w.heap.size->b∈M\/b∈I->w'.heap[b]?=w.heap[b]?):RkAt w' r M I D:=by
 have hlt:=h.lt;obtain ⟨lt,ls,lv,sv,lg,h,rfl,rfl⟩:=h;obtain ⟨res,hr,hl⟩:=h.log;have hM:∀ b,b∈[r]++rowB lg->w'.heap[b]?=w.heap[b]?:=fun b hb=>hk b (hlt.1 b hb) (.inl hb);have hI:∀ b,b∈[lt,ls]++rowB lv++rowB sv->w'.heap[b]?=w.heap[b]?:=fun b hb=>hk b (hlt.2 b hb) (.inr hb);refine ⟨lt,ls,lv,sv,lg,⟨(hM r (by simp)).trans h.blk,h.live.kept ?_,h.lasts.kept ?_,⟨res,hr,owns_blocks hl fun b hb=>hM b (by simp [mem_rowB.2 hb])⟩,h.rlg,h.imm⟩,rfl,rfl⟩
 ·rintro b (rfl | hb)
  ·exact hI b (by simp)
  ·exact hI b (by simp [mem_rowB.2 hb])
 ·rintro b (rfl | hb)
  ·exact hI b (by simp)
  ·exact hI b (by simp [mem_rowB.2 hb])
end
section
structure Gen where
 At:World->List Nat->List Nat->Prop
 lt:∀ {w M I},At w M I->(∀ b∈M,b<w.heap.size)/\∀ b∈I,b<w.heap.size
 kept:∀ {w w' M I},At w M I->w.heap.size<=w'.heap.size->(∀ b,b<w.heap.size->b∈M\/b∈I->w'.heap[b]?=w.heap[b]?)->At w' M I
inductive Thing where
 | gen (g:Gen)
 | disk (d:Nat) (D:Dk)
 | ref (r:Nat) (D:Dk)
 | obj (b:Nat) (o:Obj)
def ThAt (w:World) (M I:List Nat):Thing->Prop
 | .gen g=>g.At w M I
 | .disk d D=>DkAt w d M I D
 | .ref r D=>RkAt w r M I D
 | .obj b o=>M=[]/\I=[b]/\w.heap[b]?=some o
theorem ThAt.lt {w:World} {M I:List Nat} {t:Thing} (h:ThAt w M I t):(∀ b∈M,b<w.heap.size)/\∀ b∈I,b<w.heap.size:=by
 cases t with
 | gen g=>exact g.lt h
 | disk d D=>exact DkAt.lt h
 | ref r D=>exact RkAt.lt h
 | obj b o =>
  obtain ⟨rfl,rfl,h⟩:=h;exact ⟨fun _ h=>(by cases h),fun c hc=>by rw [List.mem_singleton.1 hc];exact ltB h⟩
theorem ThAt.kept {w w':World} {M I:List Nat} {t:Thing} (h:ThAt w M I t) (hs:w.heap.size<=w'.heap.size) (hk:∀ b,b<w.heap.size->b∈M\/b∈I->w'.heap[b]?=w.heap[b]?):ThAt w' M I t:=by
 cases t with
 | gen g=>exact g.kept h hs hk
 | disk d D=>exact DkAt.kept h hs hk
 | ref r D=>exact RkAt.kept h hk
 | obj b o =>
  obtain ⟨rfl,rfl,h⟩:=h;exact ⟨rfl,rfl,(hk b (ltB h) (.inr (by simp))).trans h⟩
theorem ThAt.step {w w':World} {M I M1 I1 M1' I1':List Nat} {t:Thing} (h:ThAt w M I t) (k:DkStep w M1 I1 w' M1' I1') (hA:Apart M1 I1 M I):ThAt w' M I t :=
 h.kept k.chg.size fun b hb hm=>k.chg.block b hb fun hb1=>hm.elim (hA.mm b hb1) (hA.mi b hb1)
def Things (w0 w:World) (L:List Thing):Prop :=
 Ext w0 w/\∃ X:List (Thing×List Nat×List Nat),X.map (·.1)=L/\(∀ x∈X,ThAt w x.2.1 x.2.2 x.1/\∀ b∈x.2.1,w0.heap.size<=b)/\X.Pairwise fun a b=>Apart a.2.1 a.2.2 b.2.1 b.2.2
theorem Things.start {w0 w:World} (x:Ext w0 w):Things w0 w []:=⟨x,[],rfl,fun _ h=>(by cases h),List.Pairwise.nil⟩
theorem Things.is_ext {w0 w:World} {L:List Thing} (h:Things w0 w L):Ext w0 w:=h.1
theorem Things.opened {w0 w:World} {A B:List Thing} {t:Thing} (h:Things w0 w (A++t::B)) :
  ∃ M I,ThAt w M I t/\(∀ b∈M,w0.heap.size<=b)/\∀ w' M' I' t',ThAt w' M' I' t'->DkStep w M I w' M' I'->Things w0 w' (A++t'::B):=by
 obtain ⟨x,X,hX,hall,hp⟩:=h;obtain ⟨XA,XR,rfl,rfl,hR⟩:=List.map_eq_append_iff.1 hX;obtain ⟨y,XB,rfl,rfl,rfl⟩:=List.map_eq_cons_iff.1 hR;obtain ⟨t0,M,I⟩:=y;have hy:=hall (t0,M,I) (by simp);obtain ⟨pA,pR,pAR⟩:=List.pairwise_append.1 hp;obtain ⟨pB1,pB⟩:=List.pairwise_cons.1 pR;refine ⟨M,I,hy.1,hy.2,fun w' M' I' t' h' k=>?_⟩;have hxe:=k.ext x hy.2;have hA:∀ z∈XA,Apart M I z.2.1 z.2.2:=fun z hz=>(pAR z hz _ List.mem_cons_self).symm;have hB:∀ z∈XB,Apart M I z.2.1 z.2.2:=fun z hz=>pB1 z hz;have hzl:∀ z,z∈XA\/z∈XB->ThAt w z.2.1 z.2.2 z.1/\∀ b∈z.2.1,w0.heap.size<=b:=fun z hz=>hall z (by rcases hz with hz | hz <;> simp [hz]);refine ⟨hxe.1,XA++(t',M',I')::XB,by simp,fun z hz=>?_,?_⟩
 ·rcases List.mem_append.1 hz with hz | hz
  ·exact ⟨(hzl z (.inl hz)).1.step k (hA z hz),(hzl z (.inl hz)).2⟩
  ·rcases List.mem_cons.1 hz with rfl | hz
   ·exact ⟨h',hxe.2⟩
   ·exact ⟨(hzl z (.inr hz)).1.step k (hB z hz),(hzl z (.inr hz)).2⟩
 ·have st:∀ z,z∈XA\/z∈XB->Apart M I z.2.1 z.2.2->Apart M' I' z.2.1 z.2.2:=fun z hz ha=>ha.step k (hzl z hz).1.lt.1 (hzl z hz).1.lt.2;refine List.pairwise_append.2 ⟨pA,List.pairwise_cons.2 ⟨fun z hz=>st z (.inr hz) (hB z hz),pB⟩,fun z hz y hy=>?_⟩;rcases List.mem_cons.1 hy with rfl | hy
  ·exact (st z (.inl hz) (hA z hz)).symm
  ·exact pAR z hz y (List.mem_cons_of_mem _ hy)
theorem Things.ext {w0 w w':World} {L:List Thing} (h:Things w0 w L) (x:Ext w w'):Things w0 w' L:=by
 obtain ⟨x0,X,hX,hall,hp⟩:=h;exact ⟨x0.trans x,X,hX,fun z hz=>⟨(hall z hz).1.kept x.size fun _ hb _=>x.block hb,(hall z hz).2⟩,hp⟩
theorem Things.add {w0 w w':World} {L:List Thing} {t:Thing} {M I:List Nat} (h:Things w0 w L) (x:Ext w w') (ht:ThAt w' M I t) (hM:∀ b∈M,w.heap.size<=b) (hI:∀ b∈I,w.heap.size<=b):Things w0 w' (L++[t]):=by
 obtain ⟨x0,X,hX,hall,hp⟩:=h;refine ⟨x0.trans x,X++[(t,M,I)],by simp [hX],fun z hz=>?_,List.pairwise_append.2 ⟨hp,List.pairwise_singleton _ _,fun z hz y hy=>?_⟩⟩
 ·rcases List.mem_append.1 hz with hz | hz
  ·exact ⟨(hall z hz).1.kept x.size fun _ hb _=>x.block hb,(hall z hz).2⟩
  ·obtain rfl:=List.mem_singleton.1 hz;exact ⟨ht,fun b hb=>Nat.le_trans x0.size (hM b hb)⟩
 ·obtain rfl:=List.mem_singleton.1 hy;have hl:=(hall z hz).1.lt;exact ⟨fun b hb hb2=>by have:=hl.1 b hb;have:=hM b hb2;omega,fun b hb hb2=>by have:=hl.1 b hb;have:=hI b hb2;omega,fun b hb hb2=>by have:=hl.2 b hb;have:=hM b hb2;omega⟩
theorem Things.fewer {w0 w:World} {L L':List Thing} (h:Things w0 w L) (hs:L'.Sublist L):Things w0 w L':=by
 obtain ⟨x0,X,rfl,hall,hp⟩:=h;obtain ⟨X',hx,rfl⟩:=List.sublist_map_iff.1 hs;exact ⟨x0,X',rfl,fun z hz=>hall z (hx.subset hz),hp.sublist hx⟩
theorem act_many {w0 w:World} {A B:List Thing} {d:Nat} {D:Dk} {R:Int×Dk} {F:FuncId} {args:Array Value} (h:Things w0 w (A++.disk d D::B))
  (hc:∀ M I,DkAt w d M I D->(∀ b∈M,w0.heap.size<=b)->Calls prog F args w (ActPost w d M I R)) :
  Calls prog F args w fun e w'=>e=.returned (.int .i64 R.1)/\Things w0 w' (A++.disk d R.2::B):=by
 obtain ⟨M,I,h1,h2,h3⟩:=h.opened;refine (hc M I h1 h2).mono ?_;rintro e w' ⟨he,M',I',h4,h5⟩;exact ⟨he,h3 w' M' I' (.disk d R.2) h4 h5⟩
end
section
section
variable {w0 w:World} {A B:List Thing} {d:Nat} {D:Dk}
theorem disk_ext {F:FuncId} {args:Array Value} {P:Ending->World->Prop} (h:Things w0 w (A++.disk d D::B)) (hc:∀ M I,DkAt w d M I D->Calls prog F args w P):Calls prog F args w P:=by
 obtain ⟨M,I,h1,_⟩:=h.opened;exact hc M I h1
theorem new_many (h:Things w0 w A) (room:Nat) (h1:1024<=room) (h2:room<=1048576) :
  Calls prog 47 #[.int .i64 (room:Nat)] w fun e w'=>∃ d,e=.returned (.tuple #[.pointer (some ⟨d,0,none⟩),.int .i64 0])/\Things w0 w' (A++[.disk d (Dk.made room)]):=by
 refine (New_ok room w h1 h2).mono ?_;rintro e w' ⟨d,M,he,h3,h4,h5⟩;exact ⟨d,he,h.add h4 h3 h5 fun _ hb=>(by cases hb)⟩
variable (h:Things w0 w (A++.disk d D::B)) (O:DkFit D)
include h O
omit O in
theorem act_mk {x:Eff} {r:Int} {D':Dk} (hR:D.act x=(r,D')) {F:FuncId} {args:Array Value} (hc:∀ M I,DkAt w d M I D->Calls prog F args w (ActPost w d M I (D.act x))) :
  Calls prog F args w fun e w'=>e=.returned (.int .i64 r)/\Things w0 w' (A++.disk d D'::B):=by
 have:=act_many (R:=D.act x) h fun M I h1 _=>hc M I h1;rw [hR] at this;exact this
theorem mkdir_many (E:Env w) (p:ByteArray) (hp:p.size<4294967281) {r:Int} {D':Dk} (hR:D.act (.mkdir p)=(r,D')) :
  Calls prog 59 #[.pointer (some ⟨d,0,none⟩),.string p] w fun e w'=>e=.returned (.int .i64 r)/\Things w0 w' (A++.disk d D'::B):=act_mk h hR fun _ _ hd=>Mkdir_any hd O E p hp
theorem write_many (E:Env w) (p a:ByteArray) (t:Int) (hp:p.size<4294967281) (ha:a.size<=4611686018427387904) {r:Int} {D':Dk} (hR:D.act (.write p a t)=(r,D')) :
  Calls prog 56 #[.pointer (some ⟨d,0,none⟩),.string p,.string a,.int .i64 t] w fun e w'=>e=.returned (.int .i64 r)/\Things w0 w' (A++.disk d D'::B):=act_mk h hR fun _ _ hd=>Write_any hd O E p a t hp ha
theorem link_many (E:Env w) (p a:ByteArray) (t:Int) (hp:p.size<4294967281) (ha:a.size<=4611686018427387904) {r:Int} {D':Dk} (hR:D.act (.link p a t)=(r,D')) :
  Calls prog 61 #[.pointer (some ⟨d,0,none⟩),.string p,.string a,.int .i64 t] w fun e w'=>e=.returned (.int .i64 r)/\Things w0 w' (A++.disk d D'::B):=act_mk h hR fun _ _ hd=>Link_any hd O E p a t hp ha
end
end
section
def k1:Dk:=⟨[(⟨#[97]⟩,⟨2,emp,emp,0⟩)],[],1024,[.mkdir ⟨#[97]⟩],false,-1⟩
def k2:Dk:=⟨[(⟨#[97]⟩,⟨2,emp,emp,0⟩),(⟨#[97,47,98]⟩,⟨1,⟨#[120]⟩,emp,1⟩)],[],1024,[.mkdir ⟨#[97]⟩,.write ⟨#[97,47,98]⟩ ⟨#[120]⟩ 1],false,-2⟩
def k3:Dk:=⟨[(⟨#[97]⟩,⟨2,emp,emp,0⟩),(⟨#[97,47,98]⟩,⟨1,⟨#[120,121]⟩,emp,1⟩)],[],1024,[.mkdir ⟨#[97]⟩,.write ⟨#[97,47,98]⟩ ⟨#[120]⟩ 1,.add ⟨#[97,47,98]⟩ ⟨#[121]⟩],false,-3⟩
theorem DkRun.did {k:Nat} {D D':Dk} {x:Eff} {r:Int} (R:DkRun k D) (h:D.act x=(r,D')):DkRun (k+1) D':=by
 have:=R.act x;rw [h] at this;exact this
end
section
end
section
end
section
structure TextsOwn (w:World) (v:Value) (l:List ByteArray):Prop where
 shape:∃ a cap,v=.slice a l.length cap/\l.length<=cap/\cap<=9223372036854775807
 get:∀ (a:Option Addr) (n cap:Nat),v=.slice a n cap->∀ (k:Nat) s,l[k]?=some s->∃ g,a=some ⟨g,0,none⟩/\w.cell? ⟨g,k,none⟩=some (.string s)
theorem TextsOwn.of {w:World} {base n:Nat} {v:Value} {l:List ByteArray} (h:w.ownsRow base 9 1 v n (l.map Value.string)) (hn:l.length=n):TextsOwn w v l:=by
 subst hn;obtain ⟨a,cap,rfl,h1,h2,h3,h4⟩:=row_slice h;unfold maxLen at h3;refine ⟨⟨a,cap,rfl,h2,h3⟩,fun a' n' cap' e k s hs=>?_⟩
 cases e
 obtain ⟨g,rfl,_,_,hc⟩:=h4 k (.string s) (by rw [List.getElem?_map,hs];rfl);exact ⟨g,rfl,hc⟩
theorem TextsOwn.ext {w w':World} {v:Value} {l:List ByteArray} (h:TextsOwn w v l) (x:Ext w w'):TextsOwn w' v l :=
 ⟨h.shape,fun a n cap e0 k s hs=>let ⟨g,e,hc⟩:=h.get a n cap e0 k s hs;⟨g,e,(x.cell (lt_of_cell hc)).trans hc⟩⟩
theorem live_few {k:Nat} {D:Dk} (R:DkRun k D):D.live.length<=16384:=by
 have h1:=len_used D.live;have h2:=R.ok.live.used;have h3:=R.ok.r2;omega
theorem read_at {k:Nat} {D:Dk} (R:DkRun k D) {j:Nat} {x:ByteArray×Nd} (h:D.live[j]?=some x):readE D.live x.1=(x.2,0)/\x.1.size<=160:=by
 obtain ⟨h1,h2,_⟩:=R.ok.live.at h;exact ⟨by unfold readE;rw [if_pos h2,h1],mayB_size h2⟩
end
end Go.Proofs.YtodickpibbbiiaaGreatDoor
