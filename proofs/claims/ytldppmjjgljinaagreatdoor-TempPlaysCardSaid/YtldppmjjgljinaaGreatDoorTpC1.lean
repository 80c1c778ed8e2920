import Derived.Test.YtldppmjjgljinaaGreatDoorTpA2
import Derived.Test.YtldppmjjgljinaaGreatDoorTpA1
import Derived.WideLaws
import Derived.Deep.RegionHeld
import Derived.Maps.RangeWalk
import Derived.Sort.KeysCollected
import Derived.Sort.OwnSorted
open Go.Proofs.Tryz
namespace Go.Proofs.YtldppmjjgljinaaGreatDoor
open Go.RowKit
section
structure TreeAt (w:World) (t m:Nat) (l:Nodes) (room:Nat):Prop where
 blk:w.heap[t]?=some (.cells #[.map (some m),.int .i64 (usedL l:Nat),.int .i64 (room:Nat)] 144 (0,0))
 map:MapL w m l
theorem TreeAt.kept {w w':World} {t m:Nat} {l:Nodes} {room:Nat} (T:TreeAt w t m l room) (h1:w'.heap[t]?=w.heap[t]?) (h2:w'.heap[m]?=w.heap[m]?):TreeAt w' t m l room:=⟨h1.trans T.blk,T.map.kept h2⟩
theorem TreeAt.ext {w w':World} {t m:Nat} {l:Nodes} {room:Nat} (T:TreeAt w t m l room) (x:Ext w w'):TreeAt w' t m l room:=T.kept (x.block (ltB T.blk)) (x.block T.map.lt)
theorem TreeAt.ne {w:World} {t m:Nat} {l:Nodes} {room:Nat} (T:TreeAt w t m l room):t≠m:=by
 intro e;obtain ⟨D,⟨es,clock,h,_⟩,_⟩:=T.map.own;have:=T.blk;rw [e,h] at this
 cases this
theorem TreeAt.perm {w:World} {t m:Nat} {l l':Nodes} {room:Nat} (T:TreeAt w t m l room) (p:l.Perm l'):TreeAt w t m l' room:=⟨usedL_perm p▸T.blk,T.map.perm p⟩
theorem lt_of_tree {w:World} {t m:Nat} {l:Nodes} {room:Nat} (T:TreeAt w t m l room):t<w.heap.size/\m<w.heap.size:=⟨ltB T.blk,T.map.lt⟩
theorem dsize_any (k t:Int) (d g:ByteArray) (w:World) (hd:d.size<=68719476736) :
  Calls prog 219 #[.agg #[.int .i64 k,.string d,.string g,.int .i64 t]] w fun e w'=>e=.returned (.int .i64 (64+d.size:Nat))/\Ext w w':=by
 go_enter func219,ntmps219;go_wp2_with fail;go_ret;exact ⟨ret_int (by omega),(Ext.refl w).alloc _⟩
set_option maxHeartbeats 800000 in
theorem ddir_any (t m:Nat) (l:Nodes) (room:Nat) (p:ByteArray) (w:World) (T:TreeAt w t m l room) (hp:p.size<=maxLen) (hk:∀ n,findA l p=some n->n.kind≠0) :
  Calls prog 133 #[.pointer (some ⟨t,0,none⟩),.string p] w fun e w'=>e=.returned (.int .i64 (dirE l p))/\Ext w w':=by
 have c0:w.cell? ⟨t,0,none⟩=some (.map (some m)):=cellB T.blk;have L:=T.map.look_ok p hp;have HE:=lh (show dirE l p=if kindAt l p=0 then 5 else if kindAt l p=2 then 0 else 12 from rfl);unfold kindAt at HE;clear T
 cases he:p.toList.isEmpty with
 | true =>
  have HR:=lh (show dirE l p=0 from by rw [HE.out,he];rfl);have e1:p.toList=[]:=empty_of.1 he;clear HE he hk L;generalize dirE l p=E at *;go_enter func133,ntmps133;go_wp2_with fail;go_ret;exact ⟨ret_int HR.out.symm,Ext.refl w⟩
 | false =>
  cases hf:findA l p with
  | none =>
   have HR:=lh (show dirE l p=5 from by rw [HE.out,he,hf];rfl);rw [hf] at L;have L2:(Instr.lookup 142 (.map (some m)) (.string p) true).run prog w=.ok (.tuple #[.agg #[.int .i64 0,.string ⟨#[]⟩,.string ⟨#[]⟩,.int .i64 0],.bool false]) w:=L;clear HE hk L hf;generalize dirE l p=E at *;go_enter func133,ntmps133;go_wp2_with fail;go_ret;exact ⟨ret_int HR.out.symm,(Ext.refl w).alloc _⟩
  | some n =>
   have hk0:=hk n hf;rw [hf] at L;obtain ⟨k,d,g,tm⟩:=n;have L2:(Instr.lookup 142 (.map (some m)) (.string p) true).run prog w=.ok (.tuple #[.agg #[.int .i64 k,.string d,.string g,.int .i64 tm],.bool true]) w:=L
   have HR:=lh (show dirE l p=if k=2 then 0 else 12 from by
    rw [HE.out,he,hf]
    show (if k=0 then (5:Int) else if k=2 then 0 else 12)=_
    rw [if_neg hk0])
   clear HE hk L hf hk0;generalize dirE l p=E at *;by_cases h2:k=2
   ·subst h2;go_enter func133,ntmps133;go_wp2_with fail;go_ret;exact ⟨ret_int HR.out.symm,(Ext.refl w).alloc _⟩
   ·have h3:(k==2)=false:=by simpa using h2
    have h4:(k != 2)=true:=by simpa using h2
    have HR2:=lh (HR.out.trans (if_neg h2));clear h2 HR;go_enter func133,ntmps133;go_wp2_with fail;go_ret;exact ⟨ret_int HR2.out.symm,(Ext.refl w).alloc _⟩
theorem parentR_le (p:ByteArray):(parentR p).size<=p.size:=by
 unfold parentR;split
 ·exact parentS_le p
 ·exact Nat.zero_le _
set_option maxHeartbeats 800000 in
theorem dhome_any (t m:Nat) (l:Nodes) (room:Nat) (p:ByteArray) (w:World) (E:Env w) (T:TreeAt w t m l room) (hp:p.size<4294967281) (hk:∀ q n,findA l q=some n->n.kind≠0) :
  Calls prog 181 #[.pointer (some ⟨t,0,none⟩),.string p] w fun e w'=>e=.returned (.int .i64 (homeE l p))/\Ext w w':=by
 have P:=lh (parent_any p w hp E);have hle:=parentR_le p;have D:=fun w (T:TreeAt w t m l room)=>lh (ddir_any t m l room (parentR p) w T (by unfold maxLen;omega) (hk _));have HE:=lh (show homeE l p=dirE l (parentR p) from rfl);have HT:=lh T;clear T hk hle E;generalize parentR p=q at *;generalize dirE l q=R at *;generalize homeE l p=R' at *;go_enter func181,ntmps181;go_wp2_with fail;refine (P.out).mono ?_;rintro e w1 ⟨rfl,x1⟩;go_wp2_with fail;refine ((D _ (HT.out.ext x1)).out).mono ?_;rintro e w2 ⟨rfl,x2⟩;go_wp2_with fail;go_ret;exact ⟨ret_int HE.out.symm,x1.trans x2⟩
set_option maxRecDepth 100000 in
set_option maxHeartbeats 800000 in
theorem dfile_any (t m:Nat) (l:Nodes) (room:Nat) (p:ByteArray) (w:World) (T:TreeAt w t m l room) (hp:p.size<=maxLen) :
  Calls prog 184 #[.pointer (some ⟨t,0,none⟩),.string p] w fun e w'=>e=.returned (.int .i64 (fileE l p))/\Ext w w':=by
 have c0:w.cell? ⟨t,0,none⟩=some (.map (some m)):=cellB T.blk;have L:=T.map.look p hp;have HE:=lh (show fileE l p=match findA l p with | some n=>if n.kind=2 then 12 else if n.kind=3 then 11 else 0 | none=>0 from rfl);clear T
 cases hf:findA l p with
 | none =>
  have HR:=lh (show fileE l p=0 from by rw [HE.out,hf]);rw [hf] at L;have L2:(Instr.lookup 142 (.map (some m)) (.string p) false).run prog w=.ok (.agg #[.int .i64 0,.string ⟨#[]⟩,.string ⟨#[]⟩,.int .i64 0]) w:=L;have F0:∀ w:World,(Instr.field 57 (.agg #[.int .i64 0,.string ⟨#[]⟩,.string ⟨#[]⟩,.int .i64 0]) 0).run prog w=.ok (.int .i64 0) w:=fun _=>by kernel_rfl
  clear HE L hf;generalize fileE l p=E at *;go_enter func184,ntmps184;go_wp2_with fail;go_ret;exact ⟨ret_int HR.out.symm,Ext.refl w⟩
 | some n =>
  obtain ⟨k,d,g,tm⟩:=n;have HR:=lh (show fileE l p=if k=2 then 12 else if k=3 then 11 else 0 from by rw [HE.out,hf]);rw [hf] at L;have L2:(Instr.lookup 142 (.map (some m)) (.string p) false).run prog w=.ok (.agg #[.int .i64 k,.string d,.string g,.int .i64 tm]) w:=L;have F0:∀ w:World,(Instr.field 57 (.agg #[.int .i64 k,.string d,.string g,.int .i64 tm]) 0).run prog w=.ok (.int .i64 k) w:=fun _=>by kernel_rfl
  clear HE L hf;generalize fileE l p=E at *;by_cases h2:k=2
  ·subst h2;go_enter func184,ntmps184;go_wp2_with fail;go_ret;exact ⟨ret_int HR.out.symm,Ext.refl w⟩
  ·by_cases h3:k=3
   ·subst h3;go_enter func184,ntmps184;go_wp2_with fail;go_ret;exact ⟨ret_int HR.out.symm,Ext.refl w⟩
   ·have e2:(k==2)=false:=by simpa using h2
    have e3:(k==3)=false:=by simpa using h3
    have HR2:=lh ((HR.out.trans (if_neg h2)).trans (if_neg h3));clear h2 h3 HR;go_enter func184,ntmps184;go_wp2_with fail;go_ret;exact ⟨ret_int HR2.out.symm,Ext.refl w⟩
end
section
theorem TreeAt.stored {w w1 w':World} {t m:Nat} {l:Nodes} {room:Nat} (T:TreeAt w t m l room) (hs:Sorted l) {p:ByteArray} {n:Nd} (h1:MapL w1 m ((p,n)::dropA l p)) (hb:w1.heap[t]?=w.heap[t]?)
  (hw:w'=w1.setCell ⟨t,1,none⟩ (.int .i64 (usedL (insS l p n):Nat))):TreeAt w' t m (insS l p n) room:=by
 subst hw;have hne:=T.ne;refine ⟨?_,?_⟩
 ·rw [setCellB (hb.trans T.blk)];rfl
 ·exact (h1.perm (ins_drop l p n hs).symm).kept (setCellO (Ne.symm hne))
theorem held4 {w:World} {t b m:Nat} {x y k d g tm:Value} {T U:TypeId} (h1:w.heap[t]?=some (.cells #[.map (some m),x,y] T (0,0))) (h2:w.heap[b]?=some (.cells #[k,d,g,tm] U (0,0))) :
  w.cell? ⟨t,0,none⟩=some (.map (some m))/\w.cell? ⟨b,0,none⟩=some k/\w.cell? ⟨b,1,none⟩=some d/\w.cell? ⟨b,2,none⟩=some g/\w.cell? ⟨b,3,none⟩=some tm:=⟨cellB h1,cellB h2,cellB h2,cellB h2,cellB h2⟩
theorem put_end {w w3 w5 w6:World} {t m:Nat} {l:Nodes} {room:Nat} {p:ByteArray} {n:Nd} {R:Int×Nodes} {u:Int} (T3:TreeAt w3 t m l room) (X3:Ext w w3) (hs:Sorted l) (hm6:MapL w6 m ((p,n)::dropA l p)) (e6:w6.heap[t]?=w3.heap[t]?) (hg5:w3.drew.grownBy w5 (some m)) (hg6:w5.grownBy w6 (some m))
  (hu:u=(usedL (insS l p n):Nat)) (hfit:usedL (insS l p n)<=room) (hR:R=if usedL (insS l p n)<=room then (0,insS l p n) else (7,l)) :
  Ending.returned (.int .i64 0)=.returned (.int .i64 R.1)/\TreeAt (w6.setCell ⟨t,1,none⟩ (.int .i64 u)) t m R.2 room/\Chg [t,m] w (w6.setCell ⟨t,1,none⟩ (.int .i64 u)):=by
 rw [if_pos hfit] at hR;subst hR;subst hu;refine ⟨rfl,T3.stored hs hm6 e6 rfl,?_⟩;have c5:Chg [t,m] w w5:=((X3.drew).chg [t,m]).trans (Chg.grown (F:=[t,m]) hg5 (by simp)) (fun x hx=>.inl hx);have c6:Chg [t,m] w w6:=c5.trans (Chg.grown (F:=[t,m]) hg6 (by simp)) (fun x hx=>.inl hx);exact c6.trans (Chg.setCell (F:=[t,m]) w6 ⟨t,1,none⟩ _ (by simp)) (fun x hx=>.inl hx)
theorem put_full {w w3:World} {t m:Nat} {l:Nodes} {room:Nat} {p:ByteArray} {n:Nd} {R:Int×Nodes} (T3:TreeAt w3 t m l room) (X3:Ext w w3) (hfit:¬ usedL (insS l p n)<=room) (hR:R=if usedL (insS l p n)<=room then (0,insS l p n) else (7,l)) :
  Ending.returned (.int .i64 7)=.returned (.int .i64 R.1)/\TreeAt w3 t m R.2 room/\Chg [t,m] w w3:=by
 rw [if_neg hfit] at hR;subst hR;exact ⟨rfl,T3,X3.chg _⟩
set_option maxRecDepth 100000 in
set_option maxHeartbeats 4000000 in
theorem dput_any (t m:Nat) (l:Nodes) (room:Nat) (p:ByteArray) (k tm:Int) (d g:ByteArray) (w:World) (T:TreeAt w t m l room) (hs:Sorted l) (hp:p.size<=maxLen) (hl:usedL l<=1048576) (hd:d.size<=1073741824) (hr:room<=1048576) :
  Calls prog 182 #[.pointer (some ⟨t,0,none⟩),.string p,.agg #[.int .i64 k,.string d,.string g,.int .i64 tm]] w
   fun e w'=>e=.returned (.int .i64 (putE l room p ⟨k,d,g,tm⟩).1)/\TreeAt w' t m (putE l room p ⟨k,d,g,tm⟩).2 room/\Chg [t,m] w w':=by
 have hlen:=len_used l;have hU:=ins_used hs p ⟨k,d,g,tm⟩;have S1:=fun w=>lh (dsize_any k tm d g w (by omega));have HE:=lh (show putE l room p ⟨k,d,g,tm⟩=if usedL (insS l p ⟨k,d,g,tm⟩)<=room then (0,insS l p ⟨k,d,g,tm⟩) else (7,l) from rfl);have hold:=fun (o:Nd) (h:findA l p=some o)=>mem_used (findA_mem h);generalize putE l room p ⟨k,d,g,tm⟩=R at *;obtain ⟨W1,hW1⟩:∃ W1,W1=w.alloc (.cells #[.int .i64 k,.string d,.string g,.int .i64 tm] 57):=⟨_,rfl⟩;have X1:Ext w W1:=hW1▸(Ext.refl w).alloc _;have hbw:W1.heap[w.heap.size]?=some (.cells #[.int .i64 k,.string d,.string g,.int .i64 tm] 57 (0,0)):=by rw [hW1];exact block_alloc_new _ _
 have B1:=(T.ext X1).blk;have HT:=lh T;have htn:=(lt_of_tree T).1;have hmn:=(lt_of_tree T).2;have htm:=T.ne;have ct1:=After.at (k:=1) B1;have cb0:=After.at (k:=0) hbw;have cb1:=After.at (k:=1) hbw;have cb2:=After.at (k:=2) hbw;have cb3:=After.at (k:=3) hbw;clear B1 X1;subst hW1;have hB0:64+d.size<=1073741888:=by omega
 have hlen2:l.length<1048576:=by omega
 generalize hB:64+d.size=B at *;generalize hA:usedL l=A at *;have HH:=lh hU;have HA:=lh hA;clear hU hB hA hlen;have hsum:IntKind.i64.wrap ((A:Int)+(B:Int))=(A:Int)+(B:Int):=IntWalk.i64_in _ (by omega);go_enter func182,ntmps182;go_wp2_with fail;refine wp_region_after (by kernel_rfl) (by kernel_rfl) ?_
 repeat (go_big_quiet_step ((go_at_call 219;exact After.of (S1 _).out)))
 refine wpQuiet_nil ?_;rintro W2 ⟨⟨_,x2⟩,rfl⟩;clear hsum ct1 cb0 cb1 cb2 cb3 S1;have hlt0:w.heap.size<W2.heap.size:=Nat.lt_of_lt_of_le (by simp) x2.size;have hb2:=(x2.block (ltB hbw)).trans hbw;have X2:Ext w W2:=((Ext.refl w).alloc _).trans x2;have T2:=HT.out.ext X2;have L:=T2.map.look_ok p hp;have c0:W2.cell? ⟨t,0,none⟩=some (.map (some m)):=cellB T2.blk;have HB2:=lh hb2;have HX2:=lh X2;have HT2:=lh T2;clear x2 X2 T2 hb2 hbw
 cases hf:findA l p with
 | none =>
  rw [hf] at L;have L2:(Instr.lookup 142 (.map (some m)) (.string p) true).run prog W2=.ok (.tuple #[.agg #[.int .i64 0,.string ⟨#[]⟩,.string ⟨#[]⟩,.int .i64 0],.bool false]) W2:=L;clear L;have HU:=lh (show usedL (insS l p ⟨k,d,g,tm⟩)=A+B from by have:=HH.out;unfold oldU at this;rw [hf] at this;simpa using this);obtain ⟨W3,hW3⟩:∃ W3,W3=W2.alloc (.cells #[.int .i64 0,.string ⟨#[]⟩,.string ⟨#[]⟩,.int .i64 0] 57 (0,0)):=⟨_,rfl⟩;have x3:Ext W2 W3:=hW3▸(Ext.refl W2).alloc _;have HX3:=lh (HX2.out.trans x3);have HT3:=lh (HT2.out.ext x3);have HB3:=lh ((x3.block hlt0).trans HB2.out);have hlt3:w.heap.size<W3.heap.size:=Nat.lt_of_lt_of_le hlt0 x3.size;have c2:W2.cell? ⟨t,2,none⟩=some (.int .i64 (room:Nat)):=cellB HT2.out.blk;have t2:=(lt_of_tree HT2.out).1;clear HX2 HT2 HB2 HH x3 hold hf;by_cases hfit:A+B<=room
  ·obtain ⟨v0,st,w5,hr5,hg5,hs5,hall⟩:=(HT3.out.ext ((Ext.refl W3).drew)).map.entry hlen2 p hp ⟨k,d,g,tm⟩;obtain ⟨w6,hr6,hm6,hg6,hs6⟩:=hall w5 rfl;have hr5':(Instr.mapEntry 142 (.map (some m)) (.string p)).run prog W3.drew=.ok (.tuple #[v0,.int .i64 st]) w5:=hr5;have hr6':(Instr.entryStore 142 (.map (some m)) (.int .i64 st) (.agg #[.int .i64 k,.string d,.string g,.int .i64 tm])).run prog w5=.ok () w6:=hr6;have e5:∀ b,b<W3.heap.size->b≠m->w5.heap[b]?=W3.heap[b]?:=fun b hb hne=>hg5.block b hb (fun e=>hne (Option.some.inj e));have e6:∀ b,b<W3.heap.size->b≠m->w6.heap[b]?=W3.heap[b]?:=fun b hb hne=>(hg6.block b (by rw [hs5];exact hb) (fun e=>hne (Option.some.inj e))).trans (e5 b hb hne);have hbm:w.heap.size≠m:=by omega
   have hbt:w.heap.size≠t:=by omega
   have t3:t<W3.heap.size:=by omega
   have s3:=held4 HT3.out.blk HB3.out;have s4:W3.drew.cell? ⟨t,0,none⟩=some (.map (some m))/\W3.drew.cell? ⟨w.heap.size,0,none⟩=some (.int .i64 k)/\W3.drew.cell? ⟨w.heap.size,1,none⟩=some (.string d)/\W3.drew.cell? ⟨w.heap.size,2,none⟩=some (.string g)/\W3.drew.cell? ⟨w.heap.size,3,none⟩=some (.int .i64 tm):=s3;have s5:=held4 ((e5 t t3 htm).trans HT3.out.blk) ((e5 _ hlt3 hbm).trans HB3.out);have s6:=held4 ((e6 t t3 htm).trans HT3.out.blk) ((e6 _ hlt3 hbm).trans HB3.out);have q7:(w6.setCell ⟨t,1,none⟩ (.int .i64 ((A:Int)+(B:Int)))).heap[t]?=some (.cells #[.map (some m),.int .i64 ((A:Int)+(B:Int)),.int .i64 (room:Nat)] 144 (0,0)):=setCellB ((e6 t t3 htm).trans HT3.out.blk);have s7:=held4 q7 ((setCellO hbt).trans ((e6 _ hlt3 hbm).trans HB3.out));have c6:w6.cell? ⟨t,1,none⟩=some (.int .i64 A):=by rw [<-HA.out];exact cellB ((e6 t t3 htm).trans HT3.out.blk)
   have f6:w6.frozen? ⟨t,1,none⟩=false:=frozenB ((e6 t t3 htm).trans HT3.out.blk);have HH4:=lh (And.intro hm6 (And.intro (e6 t t3 htm) (And.intro hg5 hg6)));clear hm6 e6 hg5 hg6 hr6 hr5 hall hs5 hs6 e5 hbm hbt q7 t3;go_wp2_with fail;rw [<-hW3];clear hW3;go_region_held (fun w'=>w'.cell? ⟨t,0,none⟩=some (.map (some m))/\w'.cell? ⟨w.heap.size,0,none⟩=some (.int .i64 k)/\w'.cell? ⟨w.heap.size,1,none⟩=some (.string d)/\w'.cell? ⟨w.heap.size,2,none⟩=some (.string g)/\w'.cell? ⟨w.heap.size,3,none⟩=some (.int .i64 tm)) (first | assumption | go_keep) (fail);go_wp2_with fail;go_ret;exact put_end HT3.out HX3.out hs HH4.out.1 HH4.out.2.1 HH4.out.2.2.1 HH4.out.2.2.2 (by have:=HU.out;omega) (by have:=HU.out;omega) HE.out
  ·have hno:(room:Int)<(A:Int)+(B:Int):=by omega
   go_wp2_with fail;rw [<-hW3];clear hW3;go_ret;exact put_full HT3.out HX3.out (by have:=HU.out;omega) HE.out
 | some o =>
  rw [hf] at L;have ho:=hold o hf;have HU:=lh (show usedL (insS l p ⟨k,d,g,tm⟩)+(64+o.data.size)=A+B from by have:=HH.out;unfold oldU at this;rw [hf] at this;simpa using this);have ha:64+o.data.size<=A:=by have:=HA.out;omega
  obtain ⟨k1,d1,g1,tm1⟩:=o;have L2:(Instr.lookup 142 (.map (some m)) (.string p) true).run prog W2=.ok (.tuple #[.agg #[.int .i64 k1,.string d1,.string g1,.int .i64 tm1],.bool true]) W2:=L;have S2:=fun w=>lh (dsize_any k1 tm1 d1 g1 w (by simp at ha;omega));have HU:=lh (show usedL (insS l p ⟨k,d,g,tm⟩)+(64+d1.size)=A+B from HU.out);have ha:64+d1.size<=A:=ha;generalize 64+d1.size=C at *;clear L hf hold HH ho;go_wp2_with fail;refine (S2 _).out.mono ?_;rintro e W3 ⟨rfl,x3'⟩;have x3:Ext W2 W3:=((Ext.refl W2).alloc _).trans x3';have HX3:=lh (HX2.out.trans x3);have HT3:=lh (HT2.out.ext x3);have HB3:=lh ((x3.block hlt0).trans HB2.out);have hlt3:w.heap.size<W3.heap.size:=Nat.lt_of_lt_of_le hlt0 x3.size;have c2:W3.cell? ⟨t,2,none⟩=some (.int .i64 (room:Nat)):=cellB HT3.out.blk;clear HX2 HT2 HB2 x3 x3' S2;by_cases hfit:A+B - C<=room
  ·obtain ⟨v0,st,w5,hr5,hg5,hs5,hall⟩:=(HT3.out.ext ((Ext.refl W3).drew)).map.entry hlen2 p hp ⟨k,d,g,tm⟩;obtain ⟨w6,hr6,hm6,hg6,hs6⟩:=hall w5 rfl;have hr5':(Instr.mapEntry 142 (.map (some m)) (.string p)).run prog W3.drew=.ok (.tuple #[v0,.int .i64 st]) w5:=hr5;have hr6':(Instr.entryStore 142 (.map (some m)) (.int .i64 st) (.agg #[.int .i64 k,.string d,.string g,.int .i64 tm])).run prog w5=.ok () w6:=hr6;have e5:∀ b,b<W3.heap.size->b≠m->w5.heap[b]?=W3.heap[b]?:=fun b hb hne=>hg5.block b hb (fun e=>hne (Option.some.inj e));have e6:∀ b,b<W3.heap.size->b≠m->w6.heap[b]?=W3.heap[b]?:=fun b hb hne=>(hg6.block b (by rw [hs5];exact hb) (fun e=>hne (Option.some.inj e))).trans (e5 b hb hne);have hbm:w.heap.size≠m:=by omega
   have hbt:w.heap.size≠t:=by omega
   have t3:t<W3.heap.size:=by omega
   have s3:=held4 HT3.out.blk HB3.out;have s4:W3.drew.cell? ⟨t,0,none⟩=some (.map (some m))/\W3.drew.cell? ⟨w.heap.size,0,none⟩=some (.int .i64 k)/\W3.drew.cell? ⟨w.heap.size,1,none⟩=some (.string d)/\W3.drew.cell? ⟨w.heap.size,2,none⟩=some (.string g)/\W3.drew.cell? ⟨w.heap.size,3,none⟩=some (.int .i64 tm):=s3;have s5:=held4 ((e5 t t3 htm).trans HT3.out.blk) ((e5 _ hlt3 hbm).trans HB3.out);have s6:=held4 ((e6 t t3 htm).trans HT3.out.blk) ((e6 _ hlt3 hbm).trans HB3.out);have q7:(w6.setCell ⟨t,1,none⟩ (.int .i64 ((A:Int)+(B:Int) - (C:Int)))).heap[t]?=some (.cells #[.map (some m),.int .i64 ((A:Int)+(B:Int) - (C:Int)),.int .i64 (room:Nat)] 144 (0,0)):=setCellB ((e6 t t3 htm).trans HT3.out.blk);have s7:=held4 q7 ((setCellO hbt).trans ((e6 _ hlt3 hbm).trans HB3.out));have c6:w6.cell? ⟨t,1,none⟩=some (.int .i64 A):=by rw [<-HA.out];exact cellB ((e6 t t3 htm).trans HT3.out.blk)
   have f6:w6.frozen? ⟨t,1,none⟩=false:=frozenB ((e6 t t3 htm).trans HT3.out.blk);have HH4:=lh (And.intro hm6 (And.intro (e6 t t3 htm) (And.intro hg5 hg6)));clear hm6 e6 hg5 hg6 hr6 hr5 hall hs5 hs6 e5 hbm hbt q7 t3;go_wp2_with fail;go_region_held (fun w'=>w'.cell? ⟨t,0,none⟩=some (.map (some m))/\w'.cell? ⟨w.heap.size,0,none⟩=some (.int .i64 k)/\w'.cell? ⟨w.heap.size,1,none⟩=some (.string d)/\w'.cell? ⟨w.heap.size,2,none⟩=some (.string g)/\w'.cell? ⟨w.heap.size,3,none⟩=some (.int .i64 tm)) (first | assumption | go_keep) (fail);go_wp2_with fail;go_ret;exact put_end HT3.out HX3.out hs HH4.out.1 HH4.out.2.1 HH4.out.2.2.1 HH4.out.2.2.2 (by have:=HU.out;omega) (by have:=HU.out;omega) HE.out
  ·have hno:(room:Int)<(A:Int)+(B:Int) - (C:Int):=by omega
   go_wp2_with fail;go_ret;exact put_full HT3.out HX3.out (by have:=HU.out;omega) HE.out
end
section
theorem drop_end {w w4 w6:World} {t m:Nat} {l:Nodes} {room:Nat} {p:ByteArray} {u:Int} (T4:TreeAt w4 t m l room) (X4:Ext w w4) (hm6:MapL w6 m (dropA l p)) (hg6:(w4.setCell ⟨t,1,none⟩ (.int .i64 u)).mapTurned w6 m) (hu:u=(usedL (dropA l p):Nat)) :
  TreeAt w6 t m (dropA l p) room/\Chg [t,m] w w6:=by
 subst hu;have hg:=hg6.grown;have h4:(w4.setCell ⟨t,1,none⟩ (.int .i64 (usedL (dropA l p):Nat))).heap[t]?=some (.cells #[.map (some m),.int .i64 (usedL (dropA l p):Nat),.int .i64 (room:Nat)] 144 (0,0)):=setCellB T4.blk;refine ⟨⟨?_,hm6⟩,?_⟩
 ·rw [hg.block t (ltB h4) (fun e=>T4.ne (Option.some.inj e))];exact h4
 ·have c5:Chg [t,m] w (w4.setCell ⟨t,1,none⟩ (.int .i64 (usedL (dropA l p):Nat))):=(X4.chg [t,m]).trans (Chg.setCell (F:=[t,m]) w4 ⟨t,1,none⟩ _ (by simp)) (fun x hx=>.inl hx);exact c5.trans (Chg.grown (F:=[t,m]) hg (by simp)) (fun x hx=>.inl hx)
set_option maxRecDepth 100000 in
set_option maxHeartbeats 2000000 in
theorem ddrop_any (t m:Nat) (l:Nodes) (room:Nat) (p:ByteArray) (w:World) (T:TreeAt w t m l room) (hs:Sorted l) (hp:p.size<=maxLen) (hl:usedL l<=1048576) :
  Calls prog 186 #[.pointer (some ⟨t,0,none⟩),.string p] w
   fun e w'=>e=.returned (.tuple #[])/\TreeAt w' t m (dropA l p) room/\Chg [t,m] w w':=by
 have hU:=drop_used hs.nodup p;have c0:w.cell? ⟨t,0,none⟩=some (.map (some m)):=cellB T.blk;have L:=T.map.look_ok p hp;have HT:=lh T;have htn:=(lt_of_tree T).1;have htm:=T.ne
 cases hf:findA l p with
 | none =>
  rw [hf] at L;have L2:(Instr.lookup 142 (.map (some m)) (.string p) true).run prog w=.ok (.tuple #[.agg #[.int .i64 0,.string ⟨#[]⟩,.string ⟨#[]⟩,.int .i64 0],.bool false]) w:=L;have HD:=lh (usedL_drop_none hf);clear L hU hf T hl;go_enter func186,ntmps186;go_wp2_with fail;go_end0;rw [HD.out];have x:Ext w (w.alloc (.cells #[.int .i64 0,.string ⟨#[]⟩,.string ⟨#[]⟩,.int .i64 0] 57)):=(Ext.refl w).alloc _;exact ⟨rfl,HT.out.ext x,x.chg _⟩
 | some o =>
  rw [hf] at L;have ho:=mem_used (findA_mem hf);have HU:=lh (show usedL (dropA l p)+(64+o.data.size)=usedL l from by unfold oldU at hU;rw [hf] at hU;exact hU);obtain ⟨k1,d1,g1,tm1⟩:=o;have L2:(Instr.lookup 142 (.map (some m)) (.string p) true).run prog w=.ok (.tuple #[.agg #[.int .i64 k1,.string d1,.string g1,.int .i64 tm1],.bool true]) w:=L;have S2:=fun w=>lh (dsize_any k1 tm1 d1 g1 w (by simp at ho;omega));have HU:=lh (show usedL (dropA l p)+(64+d1.size)=usedL l from HU.out);have ho:64+d1.size<=usedL l:=ho;obtain ⟨W1,hW1⟩:∃ W1,W1=w.alloc (.cells #[.int .i64 k1,.string d1,.string g1,.int .i64 tm1] 57 (0,0)):=⟨_,rfl⟩;have X1:Ext w W1:=hW1▸(Ext.refl w).alloc _;have hbw:W1.heap[w.heap.size]?=some (.cells #[.int .i64 k1,.string d1,.string g1,.int .i64 tm1] 57 (0,0)):=by rw [hW1];exact block_alloc_new _ _
  have T1:=T.ext X1;have ct1:=After.at (k:=1) T1.blk;have ft1:=After.free (k:=1) T1.blk;have cb0:=After.at (k:=0) hbw;have cb1:=After.at (k:=1) hbw;have cb2:=After.at (k:=2) hbw;have cb3:=After.at (k:=3) hbw;have HX1:=lh X1;clear T T1 X1 hbw L hf hU;subst hW1;generalize hC:64+d1.size=C at *;generalize hA:usedL l=A at *;have HA:=lh hA;clear hA hC;have hsub:IntKind.i64.wrap ((A:Int) - (C:Int))=(A:Int) - (C:Int):=IntWalk.i64_in _ (by omega);go_enter func186,ntmps186;go_wp2_with fail;refine wp_region_after_tail 7 (by kernel_rfl) (by kernel_rfl) ?_;simp only [List.take_succ_cons,List.take_zero,List.drop_succ_cons,List.drop_zero]
  repeat (go_big_quiet_step ((go_at_call 219;exact After.of (S2 _).out)))
  refine wpQuiet_nil ?_;rintro W4 ⟨⟨_,x4⟩,rfl⟩;have X4:=HX1.out.trans x4;have T4:=HT.out.ext X4;have c1:W4.cell? ⟨t,1,none⟩=some (.int .i64 A):=by rw [<-HA.out];exact cellB T4.blk
  have f1:W4.frozen? ⟨t,1,none⟩=false:=frozenB T4.blk;have q5:(W4.setCell ⟨t,1,none⟩ (.int .i64 ((A:Int) - (C:Int)))).heap[t]?=some (.cells #[.map (some m),.int .i64 ((A:Int) - (C:Int)),.int .i64 (room:Nat)] 144 (0,0)):=setCellB T4.blk;have c5:(W4.setCell ⟨t,1,none⟩ (.int .i64 ((A:Int) - (C:Int)))).cell? ⟨t,0,none⟩=some (.map (some m)):=cellB q5;have hm5:MapL (W4.setCell ⟨t,1,none⟩ (.int .i64 ((A:Int) - (C:Int)))) m l:=T4.map.kept (setCellO (Ne.symm htm));obtain ⟨w6,hr6,hm6,hg6⟩:=hm5.drop p hp 0;have HH:=lh (And.intro T4 (And.intro X4 (And.intro hm6 hg6)));clear T4 X4 hm6 hg6 hm5 q5 x4 hsub ct1 ft1 cb0 cb1 cb2 cb3 HX1 HT S2;go_wp2_with fail;go_end0;have h:=drop_end HH.out.1 HH.out.2.1 HH.out.2.2.1 HH.out.2.2.2 (by have:=HU.out;omega);exact ⟨rfl,h⟩
def firstE (a b:Int):Int:=if a=0 then b else a
set_option maxHeartbeats 800000 in
theorem dfirst_any (a b:Int) (g:Nat) (w:World) (h0:w.cell? ⟨g,0,none⟩=some (.int .i64 a)) (h1:w.cell? ⟨g,1,none⟩=some (.int .i64 b)) :
  Calls prog 183 #[.slice (some ⟨g,0,none⟩) 2 2] w fun e w'=>e=.returned (.int .i64 (firstE a b))/\w'=w:=by
 by_cases ha:a=0
 ·subst ha;have HR:=lh (show firstE 0 b=b from rfl);by_cases hb:b=0
  ·subst hb;go_enter func183,ntmps183;go_wp2_with fail;go_loop [7] (fun iv=>∃ k:Nat,k<=2/\iv=.int .i64 k) (fun iv=>2 - (intOf iv).toNat)
   case atStart=>exact ⟨0,by decide,rfl⟩
   case round =>
    obtain ⟨k,hk,rfl⟩:=hrel
    have ck:k<2->w.cell? ⟨g,k,none⟩=some (.int .i64 0):=fun h=>by
     rcases (show k=0\/k=1 by omega) with rfl | rfl
     ·exact h0
     ·exact h1
    by_cases hlt:k<2
    ·have ck:=ck hlt;go_wp2_with fail;go_round
     case rel=>exact ⟨k+1,by omega,by go_num⟩
     case measure=>simp [intOf];omega
    ·obtain rfl:k=2:=by omega
     go_wp2_with fail;go_ret;exact ⟨rfl,rfl⟩
  ·have e1:(b==0)=false:=by simpa using hb
   have e2:(b != 0)=true:=by simpa using hb
   clear hb;go_enter func183,ntmps183;go_wp2_with fail;go_loop [7] (fun iv=>∃ k:Nat,k<=1/\iv=.int .i64 k) (fun iv=>2 - (intOf iv).toNat)
   case atStart=>exact ⟨0,by decide,rfl⟩
   case round =>
    obtain ⟨k,hk,rfl⟩:=hrel;rcases (show k=0\/k=1 by omega) with rfl | rfl
    ·go_wp2_with fail;go_round
     case rel=>exact ⟨1,by decide,by go_num⟩
     case measure=>simp [intOf]
    ·go_wp2_with fail;go_ret;exact ⟨ret_int HR.out.symm,rfl⟩
 ·have HR:=lh (show firstE a b=a from if_neg ha);have e1:(a==0)=false:=by simpa using ha
  have e2:(a != 0)=true:=by simpa using ha
  clear ha;go_enter func183,ntmps183;go_wp2_with fail;go_loop [7] (fun iv=>∃ k:Nat,k=0/\iv=.int .i64 k) (fun iv=>2 - (intOf iv).toNat)
  case atStart=>exact ⟨0,rfl,rfl⟩
  case round =>
   obtain ⟨k,rfl,rfl⟩:=hrel;go_wp2_with fail;go_ret;exact ⟨ret_int HR.out.symm,rfl⟩
end
section
open Go.Sort (Holds)
open Go.Maps (has_true_of_atKey)
theorem Ext.grownBy {w w':World} (x:Ext w w'):w.grownBy w' none:=⟨Below.os x,Below.tape x,Below.output x,x.size,fun _ hb _=>x.block hb⟩
def keysD (l:Nodes):List (List UInt8):=l.map fun x=>x.1.data.toList
theorem strKeys_of {w:World} {b n:Nat} {D:DataW Value} {l:Nodes} (h:w.ownsMap prog 9 RN b n D) (hn:(l.map (·.1)).Nodup) (hh:∀ s:ByteArray,Maps.has D (.string s.data.toList)=(findA l s).isSome):(keysD l).Perm (strKeys D):=by
 obtain ⟨es,rfl,hp,_⟩:=h.entries keyedN;obtain ⟨es',he,hk⟩:=h.keysOf
 cases he
 exact perm_strKeys (ss:=l.map fun x=>x.1.data.toList) hp (fun p hp'=>by
  obtain ⟨key,hkey⟩:=hk p hp';obtain ⟨x,_,hx,_⟩:=Maps.keyOf_str underlying9 hkey
  exact ⟨x,hx⟩) (by
   rw [show (l.map fun x=>x.1.data.toList)=(l.map (·.1)).map fun x=>x.data.toList from by rw [List.map_map];rfl];exact List.pairwise_map.2 (hn.imp fun hne e=>hne (ba_data e))) (fun x=>by
   have:=hh ⟨x.toArray⟩;rw [show (⟨x.toArray⟩:ByteArray).data.toList=x from rfl] at this;rw [this,findA_isSome];constructor
   ·intro hx;obtain ⟨y,hy,e⟩:=List.mem_map.1 hx;refine List.mem_map.2 ⟨y,hy,?_⟩;rw [<-e]
   ·intro hx;obtain ⟨y,hy,e⟩:=List.mem_map.1 hx
    exact List.mem_map.2 ⟨y,hy,by rw [e]⟩)
def insideL (d:ByteArray) (ks:List (List UInt8)):List (List UInt8):=ks.filter fun k=>withinB (bsL k) d
def withinsS (l:Nodes) (d:ByteArray):List ByteArray:=((insideL d (keysD l)).mergeSort fun x y=>decide (x<=y)).map bsL
theorem inside_snoc (d:ByteArray) (ks:List (List UInt8)) (k:List UInt8):insideL d (ks++[k])=insideL d ks++(if withinB (bsL k) d then [k] else []):=by
 unfold insideL;rw [List.filter_append,List.filter_cons]
 cases withinB (bsL k) d <;> rfl
theorem inside_len (d:ByteArray) (ks:List (List UInt8)):(insideL d ks).length<=ks.length:=List.length_filter_le _ _
theorem enc_map (ks:List (List UInt8)):ks.map encStr=(ks.map bsL).map Value.string:=by rw [List.map_map];rfl
theorem sort_inside {l:Nodes} {d:ByteArray} {ss:List (List UInt8)} (h:ss.Perm (keysD l)):((insideL d ss).mergeSort fun x y=>decide (x<=y)).map bsL=withinsS l d:=by
 unfold withinsS;rw [show ((insideL d ss).mergeSort fun x y=>decide (x<=y))=(insideL d (keysD l)).mergeSort fun x y=>decide (x<=y) from mergeSort_of_perm (h.filter _)]
theorem RN_inv (v:Value) (y:DataW Value×List MemPlace) (_:RN v=some y):∃ c:Value,v=id c:=⟨v,rfl⟩
theorem str_inv (key:Value) (kl:Lit) (hk:keyOf prog 9 key=some kl):∃ x,key=encStr x:=by obtain ⟨x,hx,_⟩:=Maps.keyOf_str underlying9 hk;exact ⟨x,hx⟩
def InsAt (w wr:World) (m n:Nat) (D:DataW Value) (d:ByteArray) (v:Value):Prop :=
 ∃ (left:Lit->Bool) (cnt:Nat) (ss:List (List UInt8)),wr.ranges prog 9 RN m w.heap.size n D left cnt/\ss.length+cnt<=Maps.size D/\wr.ownsRow w.heap.size 9 1 v (insideL d ss).length ((insideL d ss).map encStr)/\Collected D left ss/\Ext w wr
theorem ins_skip {w w2 w3:World} {m n:Nat} {D:DataW Value} {d:ByteArray} {v:Value} {left:Lit->Bool} {cnt:Nat} {ss:List (List UInt8)} {x:List UInt8} (hrg:w2.ranges prog 9 RN m w.heap.size n D left cnt) (x3:Ext w2 w3) (hc:ss.length+cnt+1<=Maps.size D)
  (hrow:w2.ownsRow w.heap.size 9 1 v (insideL d ss).length ((insideL d ss).map encStr)) (hC:Collected D left (ss++[x])) (hs:insideL d (ss++[x])=insideL d ss) (hx:Ext w w2):InsAt w w3 m n D d v :=
 ⟨left,cnt,ss++[x],hrg.kept x3.grownBy (by simp) (by simp),by simp;omega,by rw [hs];exact owns_ext hrow x3,hC,hx.trans x3⟩
theorem ins_add {w w2 w3 w4:World} {o:Obj} {m n:Nat} {D:DataW Value} {d:ByteArray} {v v':Value} {left:Lit->Bool} {cnt:Nat} {ss:List (List UInt8)} {x:List UInt8} (hrg:w2.ranges prog 9 RN m w.heap.size n D left cnt) (x3:Ext w2 w3) (hc:ss.length+cnt+1<=Maps.size D)
  (hrow:w3.ownsRow w.heap.size 9 1 v (insideL d ss).length ((insideL d ss).map encStr)) (hown:w4.ownsRow w.heap.size 9 1 v' ((insideL d ss).length+1) ((insideL d ss).map encStr++[.string (bsL x)])) (hg:(w3.alloc o).grownBy w4 v.ownBlock)
  (hC:Collected D left (ss++[x])) (hs:insideL d (ss++[x])=insideL d ss++(if true then [x] else [])) (hx:Ext w w2) (hm:m<w.heap.size):InsAt w w4 m n D d v'/\w4.rangeLeft m w.heap.size=cnt:=by
 have h3:=hrg.kept x3.grownBy (by simp) (by simp);have hge:=own_block_ge hrow;have h4:=(h3.alloc o).kept hg (fun e=>by have:=hge _ e.symm;omega) (row_ne_iter hrow h3);refine ⟨⟨left,cnt,ss++[x],h4,by simp;omega,?_,hC,?_⟩,h4.left_eq⟩
 ·rw [hs];simp only [if_true,List.length_append,List.length_singleton,List.map_append,List.map_cons,List.map_nil];exact hown
 ·exact Below.grown ((hx.trans x3).alloc o) hg ((hx.trans x3).alloc o).size (fun j hj=>hge j hj)
theorem sorted_end {w wr:World} {l:Nodes} {d:ByteArray} {ss:List (List UInt8)} {g cap n:Nat} {cur:Array Value} {os:Array Obj} (hx:Ext w wr) (hp:ss.Perm (keysD l)) (hbase:w.heap.size<=g) (hb:wr.heap[g]?=some (.cells cur 9 (0,0))) (h1:(insideL d ss).length<=cap) (h2:cap<=maxLen) (h3:cur.size=cap*1) :
  (Go.Sort.grow (Go.Sort.putRow encStr (Go.Sort.ahead wr n) g 0 ((insideL d ss).mergeSort fun x y=>decide (x<=y)).toArray) os).ownsRow w.heap.size 9 1 (.slice (some ⟨g,0,none⟩) (insideL d ss).length cap) (withinsS l d).length ((withinsS l d).map Value.string) /\
  Ext w (Go.Sort.grow (Go.Sort.putRow encStr (Go.Sort.ahead wr n) g 0 ((insideL d ss).mergeSort fun x y=>decide (x<=y)).toArray) os):=by
 have hs:=ownsRow_sorted (ss:=insideL d ss) (ts:=(insideL d ss).mergeSort fun x y=>decide (x<=y)) (os:=os) (n:=n) (by simp) hbase hb h1 h2 h3;refine ⟨?_,?_⟩
 ·rw [<-sort_inside hp,<-enc_map];simp only [List.length_map,List.length_mergeSort];exact hs
 ·exact Below.grown hx (grownBy_sorted _) hx.size (fun j hj=>by cases hj;exact hbase)
set_option maxHeartbeats 2000000 in
set_option maxRecDepth 100000 in
theorem dwithin_any (t m:Nat) (l:Nodes) (room:Nat) (d:ByteArray) (w:World) (E:Env w) (T:TreeAt w t m l room) (hd:d.size<4294967280) (hl:l.length<=1048576) (hk:∀ x∈l,x.1.size<=160) :
  Calls prog 185 #[.pointer (some ⟨t,0,none⟩),.string d] w fun e w'=>∃ v,e=.returned v/\w'.ownsRow w.heap.size 9 1 v (withinsS l d).length ((withinsS l d).map Value.string)/\Ext w w':=by
 have c0:w.cell? ⟨t,0,none⟩=some (.map (some m)):=cellB T.blk;obtain ⟨hnd,_,D,hown,hread⟩:=T.map;have HP:=lh (strKeys_of hown hnd fun s=>(hread s).1);have hsz:Maps.size D=l.length:=size_of hown hnd fun s=>(hread s).1
 have HK:=lh (show ∀ x:List UInt8,Maps.has D (.string x)=true->(bsL x).size<=160 from fun x hx=>by
  have:=(hread (bsL x)).1;rw [show (bsL x).data.toList=x from rfl,hx] at this;obtain ⟨y,hy,e⟩:=List.mem_map.1 (findA_isSome.1 this.symm)
  rw [<-e];exact hk y hy)
 have W:=fun k w hk E=>lh (within_any (bsL k) d w hk hd E);have SS:=fun blk off cap ss w h1 h2 h3=>lh (Tryz.slices_Sort_string blk off cap ss w h1 h2 h3);have SN:=fun p cap w=>lh (Tryz.slices_Sort_string_none p cap w);have HE:=lh E;have hm:=T.map.lt;clear hread T hnd hk;go_enter func185,ntmps185;go_wp2_with (at_range;refine wpList_range_own _ rfl _ 142 rfl 9 57 keyedN underlying142 RN m l.length D rfl hown ?_;intro w0 hrg0 hg0 hs0);go_frame;have H0:=lh (show InsAt w w0 m l.length D d (.slice none 0 0) from ⟨_,_,[],hrg0,by simp,World.ownsRow_nil _ _ _ _,Collected.start D,Below.grown (Below.refl _ _) hg0 (Nat.le_refl _) (fun j hj=>by cases hj)⟩);clear hg0 hs0 hrg0;go_loopw [4] (fun v wr=>Hid (InsAt w wr m l.length D d v)) (fun _ wr=>wr.rangeLeft m w.heap.size)
 case atStart=>exact H0
 case round =>
  obtain ⟨left,cnt,ss,hrg,hcs,hrow,hC,hx⟩:=hrel.out;clear hrel H0;go_wp2_with (at_next;refine wpList_next_ranges _ rfl _ rfl 9 keyedN RN encStr id str_inv RN_inv m w.heap.size l.length D left cnt rfl hrg ?_ ?_)
  ·intro hc0 hl0;have hperm:ss.Perm (keysD l):=(hC.perm hrg.owns keyedN underlying9 hl0).trans HP.out.symm;have HPm:=lh hperm;have HX:=lh hx;have hil:=inside_len d ss;have hcs2:ss.length<=l.length:=by omega
   rcases hrow.2 with ⟨rfl,hnil⟩ | ⟨g,cap,cur,rfl,hbase,hb,h1,h2,h3,h4⟩
   ·have HN:=lh (show withinsS l d=[] from by
     have h0:insideL d ss=[]:=by simpa using hnil
     rw [<-sort_inside hperm,h0];simp)
    clear hC hrg hrow hnil hl0 hperm hx hcs hc0;go_wp2_with fail;refine (SN _ _ _).out.mono ?_;rintro e w9 ⟨rfl,rfl⟩;go_wp2_with fail;go_ret;exact ⟨_,rfl,by rw [HN.out];exact World.ownsRow_nil _ _ _ _,HX.out⟩
   ·have hH:Holds encStr wr g 0 (insideL d ss).toArray:=holds_of_block hb (by simpa using h4);have hgl:g<wr.heap.size:=(Array.getElem?_eq_some_iff.1 hb).1;have HS:=lh (SS g 0 cap (insideL d ss) wr hH hgl (by omega)).out;have HEnd:=fun n os=>lh (sorted_end (n:=n) (os:=os) hx hperm hbase hb h1 h2 h3);clear hC hrg hrow hl0 hperm hx hcs hc0 h4 hH h3 hb SS SN;go_wp2_with fail;refine HS.out.mono ?_;rintro e w9 ⟨rfl,n9,os9,rfl⟩;have HE9:=HEnd n9 os9;clear HEnd HS;go_wp2_with fail;go_ret;exact ⟨_,rfl,HE9.out⟩
  ·intro x c kl yd yp w2 cnt2 hkey hlk hv hat hrg2 hlt hg2 hs2 hen;obtain ⟨x',ex,rfl,_⟩:=Maps.keyOf_str underlying9 hkey;obtain rfl:x=x':=encStr_inj ex;have hen2:(Instr.entry (.pointer (some ⟨w.heap.size,0,none⟩))).run prog w2=.ok (.tuple #[.string (bsL x),c]) w2:=hen;have hC2:=hC.step hlk hat;have hxs:=HK.out x (has_true_of_atKey hat);have hx2:Ext w w2:=Below.grown hx hg2 hx.size (fun j hj=>by cases hj;exact Nat.le_refl _);have hrow2:=hrow.kept hg2 (.inr (fun e=>row_ne_iter hrow hrg e.symm));have HW:=lh (W x w2 (by omega) (HE.out.ext hx2)).out;have HX2:=lh hx2;have HR2:=lh hrow2;have HG2:=lh hrg2;have HC2:=lh hC2;have hil:=inside_len d ss;have HSn:=lh (inside_snoc d ss x);have hcnt:ss.length+1+cnt2<=l.length:=by omega
   have HSZ:=lh hsz;have HLT:=lh (show cnt2<cnt from hlt);have HG:=lh hrg;clear hen hs2 hg2 hrg2 hv hkey ex hC hC2 hx hx2 hrow hrow2 hrg hlk hat hcs hlt W HK SS SN;generalize withinB (bsL x) d=b at *
   cases b with
   | false =>
    go_wp2_with fail;refine HW.out.mono ?_;rintro e w3 ⟨rfl,x3⟩;have HX3:=lh x3;clear x3 HW;go_wp2_with fail;go_roundw
    case rel=>exact ins_skip HG2.out HX3.out (by rw [Nat.add_right_comm] at hcnt;rw [HSZ.out];exact hcnt) HR2.out HC2.out (by rw [HSn.out];simp) HX2.out
    case measure =>
     have h1:=(HG2.out.kept HX3.out.grownBy (by simp) (by simp)).left_eq;have h2:=HG.out.left_eq;rw [h1,h2];exact HLT.out
   | true =>
    go_wp2_with fail;refine HW.out.mono ?_;rintro e w3 ⟨rfl,x3⟩;have HX3:=lh x3;have HO3:=lh (owns_ext HR2.out x3);clear x3 HW;go_wp2_with (at_builtin;refine append_one el_string w.heap.size _ _ _ (HO3.out.alloc _) w3.heap.size (.string (bsL x)) (.tmp 18) (.tmp 20) rfl rfl rfl rfl (by rw [cell_alloc_new rfl];rfl) rfl (by omega) (by have:=(HX2.out.trans HX3.out).size;simp;omega) ?_);intro v' w4 hown4 hg4 hv4;have HF:=lh (ins_add HG2.out HX3.out (by rw [Nat.add_right_comm] at hcnt;rw [HSZ.out];exact hcnt) HO3.out hown4 hg4 HC2.out HSn.out HX2.out hm);clear hown4 hg4 hv4;go_wp2_with fail;go_roundw
    case rel=>exact HF.out.1
    case measure =>
     have h2:=HG.out.left_eq;rw [HF.out.2,h2];exact HLT.out
end
end Go.Proofs.YtldppmjjgljinaaGreatDoor
