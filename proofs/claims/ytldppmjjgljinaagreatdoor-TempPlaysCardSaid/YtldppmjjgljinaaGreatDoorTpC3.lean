import Derived.Test.YtldppmjjgljinaaGreatDoorTpC2
import Derived.Test.YtldppmjjgljinaaGreatDoorTpA2
open Go.Proofs.Tryz
namespace Go.Proofs.YtldppmjjgljinaaGreatDoor
open Go.RowKit
section
def EffAt (w:World) (B:List Nat) (v:Value):Eff->Prop
 | .write p d t=>∃ b1 b2 b3,v=.func (.func 125) #[] #[.pointer (some ⟨b1,0,none⟩),.pointer (some ⟨b2,0,none⟩),.pointer (some ⟨b3,0,none⟩)]/\b1∈B/\b2∈B/\b3∈B /\
   w.cell? ⟨b1,0,none⟩=some (.string p)/\w.cell? ⟨b2,0,none⟩=some (.string d)/\w.cell? ⟨b3,0,none⟩=some (.int .i64 t)
 | .add p d=>∃ b1 b2,v=.func (.func 128) #[] #[.pointer (some ⟨b1,0,none⟩),.pointer (some ⟨b2,0,none⟩)]/\b1∈B/\b2∈B/\w.cell? ⟨b1,0,none⟩=some (.string p)/\w.cell? ⟨b2,0,none⟩=some (.string d)
 | .mkdir p=>∃ b1,v=.func (.func 123) #[] #[.pointer (some ⟨b1,0,none⟩)]/\b1∈B/\w.cell? ⟨b1,0,none⟩=some (.string p)
 | .link p g t=>∃ b1 b2,v=.func (.func 141) #[] #[.pointer (some ⟨b1,0,none⟩),.pointer (some ⟨b2,0,none⟩)]/\b1∈B/\b2∈B/\w.cell? ⟨b1,0,none⟩=some (.string p) /\
   w.cell? ⟨b2,0,none⟩=some (.int .i64 3)/\w.cell? ⟨b2,1,none⟩=some (.string ⟨#[]⟩)/\w.cell? ⟨b2,2,none⟩=some (.string g)/\w.cell? ⟨b2,3,none⟩=some (.int .i64 t)
 | .rename p q=>∃ b1 b2,v=.func (.func 130) #[] #[.pointer (some ⟨b1,0,none⟩),.pointer (some ⟨b2,0,none⟩)]/\b1∈B/\b2∈B/\w.cell? ⟨b1,0,none⟩=some (.string p)/\w.cell? ⟨b2,0,none⟩=some (.string q)
 | .remove p=>∃ b1,v=.func (.func 142) #[] #[.pointer (some ⟨b1,0,none⟩)]/\b1∈B/\w.cell? ⟨b1,0,none⟩=some (.string p)
theorem EffAt.turn {w w':World} {B B':List Nat} {v:Value} {x:Eff} (h:EffAt w B v x) (hB:∀ b∈B,b∈B') (hk:∀ b∈B,b<w.heap.size->w'.heap[b]?=w.heap[b]?):EffAt w' B' v x:=by
 have key:∀ (b o:Nat) (u:Value),b∈B->w.cell? ⟨b,o,none⟩=some u->w'.cell? ⟨b,o,none⟩=some u:=fun b o u hb hc=>(World.cell?_of_block (hk b hb (lt_of_cell hc))).trans hc
 cases x with
 | write p d t =>
  obtain ⟨b1,b2,b3,hv,m1,m2,m3,c1,c2,c3⟩:=h;exact ⟨b1,b2,b3,hv,hB _ m1,hB _ m2,hB _ m3,key _ _ _ m1 c1,key _ _ _ m2 c2,key _ _ _ m3 c3⟩
 | add p d =>
  obtain ⟨b1,b2,hv,m1,m2,c1,c2⟩:=h;exact ⟨b1,b2,hv,hB _ m1,hB _ m2,key _ _ _ m1 c1,key _ _ _ m2 c2⟩
 | mkdir p =>
  obtain ⟨b1,hv,m1,c1⟩:=h;exact ⟨b1,hv,hB _ m1,key _ _ _ m1 c1⟩
 | link p g t =>
  obtain ⟨b1,b2,hv,m1,m2,c1,c2,c3,c4,c5⟩:=h;exact ⟨b1,b2,hv,hB _ m1,hB _ m2,key _ _ _ m1 c1,key _ _ _ m2 c2,key _ _ _ m2 c3,key _ _ _ m2 c4,key _ _ _ m2 c5⟩
 | rename p q =>
  obtain ⟨b1,b2,hv,m1,m2,c1,c2⟩:=h;exact ⟨b1,b2,hv,hB _ m1,hB _ m2,key _ _ _ m1 c1,key _ _ _ m2 c2⟩
 | remove p =>
  obtain ⟨b1,hv,m1,c1⟩:=h;exact ⟨b1,hv,hB _ m1,key _ _ _ m1 c1⟩
theorem cutTo_is (most:Nat) (d:ByteArray):d.extract 0 (min (most:Int) (d.size:Int)).toNat=cutTo most d:=by
 unfold cutTo;rw [show (min (most:Int) (d.size:Int)).toNat=min most d.size from by omega]
theorem cutTo_le (most:Nat) (d:ByteArray):(cutTo most d).size<=most:=by unfold cutTo;simp;omega
structure Ready (w:World) (t m:Nat) (l:Nodes) (room:Nat):Prop where
 env:Env w
 tree:TreeAt w t m l room
 ok:TreeOk l room
 room:room<=1048576
def EffPost (t m:Nat) (l:Nodes) (room most:Nat) (x:Eff) (w:World) (e:Ending) (w':World):Prop :=
 e=.returned (.int .i64 (effE l room most x).1)/\TreeAt w' t m (effE l room most x).2 room/\Chg [t,m] w w'
set_option maxRecDepth 100000 in
set_option maxHeartbeats 2000000 in
theorem ewrite_any (t m:Nat) (l:Nodes) (room most:Nat) (p d:ByteArray) (tm:Int) (w:World) (R:Ready w t m l room) (hm:most<=1048576) (hp:p.size<=160) (hd:d.size<=4611686018427387904) (b1 b2 b3:Nat) (c1:w.cell? ⟨b1,0,none⟩=some (.string p)) (c2:w.cell? ⟨b2,0,none⟩=some (.string d)) (c3:w.cell? ⟨b3,0,none⟩=some (.int .i64 tm)) :
  Calls prog 125 #[.pointer (some ⟨t,0,none⟩),.int .i64 (most:Nat),.pointer (some ⟨b1,0,none⟩),.pointer (some ⟨b2,0,none⟩),.pointer (some ⟨b3,0,none⟩)] w (EffPost t m l room most (.write p d tm) w):=by
 have hle:=cutTo_le most d;have HCUT:=cutTo_is most d;have H:=fun (x:After w)=>lh (dwrite_any t m l room p (cutTo most d) tm x.v (R.env.ext x.x) (R.tree.ext x.x) R.ok R.room hp (by omega));have HP:=lh (show ∀ e w',EffPost t m l room most (.write p d tm) w e w'↔(e=.returned (.int .i64 (writeE l room p (cutTo most d) tm).1)/\TreeAt w' t m (writeE l room p (cutTo most d) tm).2 room/\Chg [t,m] w w') from fun e w'=>Iff.rfl);have d1:=After.cell c1;have d2:=After.cell c2;have d3:=After.cell c3;have hmin:0<=min (most:Int) (d.size:Int)/\min (most:Int) (d.size:Int)<=d.size:=by omega
 obtain ⟨hmin1,hmin2⟩:=hmin;generalize cutTo most d=q at *;generalize writeE l room p q tm=P at *;clear R;go_enter func125,ntmps125;go_wp2_with fail;refine wp_region_after_tail 9 (by kernel_rfl) (by kernel_rfl) ?_;simp only [List.take_succ_cons,List.take_zero,List.drop_succ_cons,List.drop_zero]
 repeat (go_big_quiet_step (fail))
 refine wpQuiet_nil ?_;rintro _ ⟨y,rfl⟩;go_wp2_with fail;refine (H y).out.mono ?_;rintro e w4 ⟨rfl,t4,x4⟩;have HF:=lh ((HP.out _ _).2 ⟨rfl,t4,Chg.from_ext y.x x4⟩);clear t4 x4;go_wp2_with fail;go_ret;exact HF.out
set_option maxRecDepth 100000 in
set_option maxHeartbeats 2000000 in
theorem eadd_any (t m:Nat) (l:Nodes) (room most:Nat) (p d:ByteArray) (w:World) (R:Ready w t m l room) (hm:most<=1048576) (hp:p.size<=160) (hd:d.size<=4611686018427387904) (b1 b2:Nat) (c1:w.cell? ⟨b1,0,none⟩=some (.string p)) (c2:w.cell? ⟨b2,0,none⟩=some (.string d)) :
  Calls prog 128 #[.pointer (some ⟨t,0,none⟩),.int .i64 (most:Nat),.pointer (some ⟨b1,0,none⟩),.pointer (some ⟨b2,0,none⟩)] w (EffPost t m l room most (.add p d) w):=by
 have hle:=cutTo_le most d;have HCUT:=cutTo_is most d;have H:=fun (x:After w)=>lh (dadd_any t m l room p (cutTo most d) x.v (R.tree.ext x.x) R.ok R.room hp (by omega));have HP:=lh (show ∀ e w',EffPost t m l room most (.add p d) w e w'↔(e=.returned (.int .i64 (addE l room p (cutTo most d)).1)/\TreeAt w' t m (addE l room p (cutTo most d)).2 room/\Chg [t,m] w w') from fun e w'=>Iff.rfl);have d1:=After.cell c1;have d2:=After.cell c2;have hmin:0<=min (most:Int) (d.size:Int)/\min (most:Int) (d.size:Int)<=d.size:=by omega
 obtain ⟨hmin1,hmin2⟩:=hmin;generalize cutTo most d=q at *;generalize addE l room p q=P at *;clear R;go_enter func128,ntmps128;go_wp2_with fail;refine wp_region_after_tail 8 (by kernel_rfl) (by kernel_rfl) ?_;simp only [List.take_succ_cons,List.take_zero,List.drop_succ_cons,List.drop_zero]
 repeat (go_big_quiet_step (fail))
 refine wpQuiet_nil ?_;rintro _ ⟨y,rfl⟩;go_wp2_with fail;refine (H y).out.mono ?_;rintro e w4 ⟨rfl,t4,x4⟩;have HF:=lh ((HP.out _ _).2 ⟨rfl,t4,Chg.from_ext y.x x4⟩);clear t4 x4;go_wp2_with fail;go_ret;exact HF.out
set_option maxRecDepth 100000 in
set_option maxHeartbeats 2000000 in
theorem emkdir_any (t m:Nat) (l:Nodes) (room most:Nat) (p:ByteArray) (w:World) (R:Ready w t m l room) (hp:p.size<=160) (b1:Nat) (c1:w.cell? ⟨b1,0,none⟩=some (.string p)) :
  Calls prog 123 #[.pointer (some ⟨t,0,none⟩),.int .i64 (most:Nat),.pointer (some ⟨b1,0,none⟩)] w (EffPost t m l room most (.mkdir p) w):=by
 have H:=lh (dlay_any t m l room p 2 0 ⟨#[]⟩ ⟨#[]⟩ w R.env R.tree R.ok R.room hp (by decide));have HP:=lh (show ∀ e w',EffPost t m l room most (.mkdir p) w e w'↔(e=.returned (.int .i64 (layE l room p ⟨2,⟨#[]⟩,⟨#[]⟩,0⟩).1)/\TreeAt w' t m (layE l room p ⟨2,⟨#[]⟩,⟨#[]⟩,0⟩).2 room/\Chg [t,m] w w') from fun e w'=>Iff.rfl);generalize layE l room p ⟨2,⟨#[]⟩,⟨#[]⟩,0⟩=P at *;clear R;go_enter func123,ntmps123;go_wp2_with fail;refine H.out.mono ?_;rintro e w4 ⟨rfl,t4,x4⟩;have HF:=lh ((HP.out _ _).2 ⟨rfl,t4,x4⟩);clear t4 x4;go_wp2_with fail;go_ret;exact HF.out
set_option maxRecDepth 100000 in
set_option maxHeartbeats 2000000 in
theorem elink_any (t m:Nat) (l:Nodes) (room most:Nat) (p g:ByteArray) (tm:Int) (w:World) (R:Ready w t m l room) (hp:p.size<=160) (b1 b2:Nat) (c1:w.cell? ⟨b1,0,none⟩=some (.string p)) (k0:w.cell? ⟨b2,0,none⟩=some (.int .i64 3)) (k1:w.cell? ⟨b2,1,none⟩=some (.string ⟨#[]⟩)) (k2:w.cell? ⟨b2,2,none⟩=some (.string g)) (k3:w.cell? ⟨b2,3,none⟩=some (.int .i64 tm)) :
  Calls prog 141 #[.pointer (some ⟨t,0,none⟩),.int .i64 (most:Nat),.pointer (some ⟨b1,0,none⟩),.pointer (some ⟨b2,0,none⟩)] w (EffPost t m l room most (.link p g tm) w):=by
 have H:=lh (dlay_any t m l room p 3 tm ⟨#[]⟩ g w R.env R.tree R.ok R.room hp (by decide));have HP:=lh (show ∀ e w',EffPost t m l room most (.link p g tm) w e w'↔(e=.returned (.int .i64 (layE l room p ⟨3,⟨#[]⟩,g,tm⟩).1)/\TreeAt w' t m (layE l room p ⟨3,⟨#[]⟩,g,tm⟩).2 room/\Chg [t,m] w w') from fun e w'=>Iff.rfl);generalize layE l room p ⟨3,⟨#[]⟩,g,tm⟩=P at *;clear R;go_enter func141,ntmps141;go_wp2_with fail;refine H.out.mono ?_;rintro e w4 ⟨rfl,t4,x4⟩;have HF:=lh ((HP.out _ _).2 ⟨rfl,t4,x4⟩);clear t4 x4;go_wp2_with fail;go_ret;exact HF.out
set_option maxRecDepth 100000 in
set_option maxHeartbeats 2000000 in
theorem erename_any (t m:Nat) (l:Nodes) (room most:Nat) (p q:ByteArray) (w:World) (R:Ready w t m l room) (hp:mayB p=true) (hq:mayB q=true) (hr:(Eff.rename p q).right=true) (b1 b2:Nat) (c1:w.cell? ⟨b1,0,none⟩=some (.string p)) (c2:w.cell? ⟨b2,0,none⟩=some (.string q)) :
  Calls prog 130 #[.pointer (some ⟨t,0,none⟩),.int .i64 (most:Nat),.pointer (some ⟨b1,0,none⟩),.pointer (some ⟨b2,0,none⟩)] w (EffPost t m l room most (.rename p q) w):=by
 have H:=lh (drename_any t m l room p q w R.env R.tree R.ok R.room hp hq hr);have HP:=lh (show ∀ e w',EffPost t m l room most (.rename p q) w e w'↔(e=.returned (.int .i64 (renameE l p q).1)/\TreeAt w' t m (renameE l p q).2 room/\Chg [t,m] w w') from fun e w'=>Iff.rfl);generalize renameE l p q=P at *;clear R;go_enter func130,ntmps130;go_wp2_with fail;refine H.out.mono ?_;rintro e w4 ⟨rfl,t4,x4⟩;have HF:=lh ((HP.out _ _).2 ⟨rfl,t4,x4⟩);clear t4 x4;go_wp2_with fail;go_ret;exact HF.out
set_option maxRecDepth 100000 in
set_option maxHeartbeats 2000000 in
theorem eremove_any (t m:Nat) (l:Nodes) (room most:Nat) (p:ByteArray) (w:World) (R:Ready w t m l room) (hp:p.size<=160) (b1:Nat) (c1:w.cell? ⟨b1,0,none⟩=some (.string p)) :
  Calls prog 142 #[.pointer (some ⟨t,0,none⟩),.int .i64 (most:Nat),.pointer (some ⟨b1,0,none⟩)] w (EffPost t m l room most (.remove p) w):=by
 have H:=lh (dremove_any t m l room p w R.env R.tree R.ok R.room hp);have HP:=lh (show ∀ e w',EffPost t m l room most (.remove p) w e w'↔(e=.returned (.int .i64 (removeE l p).1)/\TreeAt w' t m (removeE l p).2 room/\Chg [t,m] w w') from fun e w'=>Iff.rfl);generalize removeE l p=P at *;clear R;go_enter func142,ntmps142;go_wp2_with fail;refine H.out.mono ?_;rintro e w4 ⟨rfl,t4,x4⟩;have HF:=lh ((HP.out _ _).2 ⟨rfl,t4,x4⟩);clear t4 x4;go_wp2_with fail;go_ret;exact HF.out
theorem enters_write:Enters prog 125:=enters_of (fn:=Tryz.f125) (by kernel_rfl) (by kernel_rfl) rfl
theorem enters_add:Enters prog 128:=enters_of (fn:=Tryz.f128) (by kernel_rfl) (by kernel_rfl) rfl
theorem enters_mkdir:Enters prog 123:=enters_of (fn:=Tryz.f123) (by kernel_rfl) (by kernel_rfl) rfl
theorem enters_link:Enters prog 141:=enters_of (fn:=Tryz.f141) (by kernel_rfl) (by kernel_rfl) rfl
theorem enters_rename:Enters prog 130:=enters_of (fn:=Tryz.f130) (by kernel_rfl) (by kernel_rfl) rfl
theorem enters_remove:Enters prog 142:=enters_of (fn:=Tryz.f142) (by kernel_rfl) (by kernel_rfl) rfl
def Eff.few:Eff->Prop
 | .write _ d _=>d.size<=4611686018427387904
 | .add _ d=>d.size<=4611686018427387904
 | _=>True
theorem eff_calls {w:World} {B:List Nat} {F:FuncId} {cap:Array Value} {x:Eff} (h:EffAt w B (.func (.func F) #[] cap) x) (hx:EffOk x) (hf:x.few) {t m:Nat} {l:Nodes} {room most:Nat} (R:Ready w t m l room) (hm:most<=1048576) :
  Enters prog F/\Calls prog F (#[.pointer (some ⟨t,0,none⟩),.int .i64 (most:Nat)]++cap) w (EffPost t m l room most x w):=by
 cases x with
 | write p d tm =>
  obtain ⟨b1,b2,b3,hv,_,_,_,c1,c2,c3⟩:=h
  cases hv
  exact ⟨enters_write,ewrite_any t m l room most p d tm w R hm (mayB_size (hx.paths p (by simp [Eff.paths]))) hf b1 b2 b3 c1 c2 c3⟩
 | add p d =>
  obtain ⟨b1,b2,hv,_,_,c1,c2⟩:=h
  cases hv
  exact ⟨enters_add,eadd_any t m l room most p d w R hm (mayB_size (hx.paths p (by simp [Eff.paths]))) hf b1 b2 c1 c2⟩
 | mkdir p =>
  obtain ⟨b1,hv,_,c1⟩:=h
  cases hv
  exact ⟨enters_mkdir,emkdir_any t m l room most p w R (mayB_size (hx.paths p (by simp [Eff.paths]))) b1 c1⟩
 | link p g tm =>
  obtain ⟨b1,b2,hv,_,_,c1,k0,k1,k2,k3⟩:=h
  cases hv
  exact ⟨enters_link,elink_any t m l room most p g tm w R (mayB_size (hx.paths p (by simp [Eff.paths]))) b1 b2 c1 k0 k1 k2 k3⟩
 | rename p q =>
  obtain ⟨b1,b2,hv,_,_,c1,c2⟩:=h
  cases hv
  exact ⟨enters_rename,erename_any t m l room most p q w R (hx.paths p (by simp [Eff.paths])) (hx.paths q (by simp [Eff.paths])) hx.right b1 b2 c1 c2⟩
 | remove p =>
  obtain ⟨b1,hv,_,c1⟩:=h
  cases hv
  exact ⟨enters_remove,eremove_any t m l room most p w R (mayB_size (hx.paths p (by simp [Eff.paths]))) b1 c1⟩
end
section
def rowB (v:Value):List Nat:=match v.ownBlock with | some b=>[b] | none=>[]
theorem mem_rowB {v:Value} {b:Nat}:b∈rowB v↔v.ownBlock=some b:=by
 unfold rowB
 cases v.ownBlock with
 | none=>simp
 | some c=>simp [eq_comm]
def Sub (w:World) (A A':List Nat):Prop:=∀ b∈A',b∈A\/w.heap.size<=b
theorem Sub.refl (w:World) (A:List Nat):Sub w A A:=fun _ h=>.inl h
theorem Sub.trans {w w':World} {A B C:List Nat} (h:Sub w A B) (k:Sub w' B C) (hs:w.heap.size<=w'.heap.size):Sub w A C:=fun b hb=>by
 rcases k b hb with h1 | h1
 ·exact h b h1
 ·exact .inr (Nat.le_trans hs h1)
structure DkIn (w:World) (d lt lm st sm:Nat) (lg:Value) (vs:List Value) (I:List Nat) (D:Dk):Prop where
 blk:w.heap[d]?=some (.cells #[.pointer (some ⟨lt,0,none⟩),.pointer (some ⟨st,0,none⟩),lg,.bool D.fused,.int .i64 D.left] 109 (0,0))
 live:TreeAt w lt lm D.live D.room
 lasts:TreeAt w st sm D.lasts D.room
 log:w.ownsRow 0 150 1 lg D.log.length vs
 effs:∀ (k:Nat) v x,vs[k]?=some v->D.log[k]?=some x->EffAt w I v x/\x.few
 nd:[d,lt,lm,st,sm].Nodup
 lgne:∀ b,lg.ownBlock=some b->b∉[d,lt,lm,st,sm]
 imm:∀ b∈I,b∉[d,lt,lm,st,sm]/\lg.ownBlock≠some b/\b<w.heap.size
def DkAt (w:World) (d:Nat) (M I:List Nat) (D:Dk):Prop:=∃ lt lm st sm lg vs,DkIn w d lt lm st sm lg vs I D/\M=[d,lt,lm,st,sm]++rowB lg
structure DkStep (w:World) (M I:List Nat) (w':World) (M' I':List Nat):Prop where
 chg:Chg M w w'
 m:Sub w M M'
 i:Sub w I I'
theorem DkStep.of_ext {w w':World} (x:Ext w w') (M I:List Nat):DkStep w M I w' M I:=⟨x.chg _,Sub.refl _ _,Sub.refl _ _⟩
theorem DkStep.trans {a b c:World} {M I M' I' M'' I'':List Nat} (h:DkStep a M I b M' I') (k:DkStep b M' I' c M'' I''):DkStep a M I c M'' I'' :=
 ⟨h.chg.trans k.chg h.m,h.m.trans k.m h.chg.size,h.i.trans k.i h.chg.size⟩
theorem DkStep.ext {w0 w w':World} {M I M' I':List Nat} (h:DkStep w M I w' M' I') (x:Ext w0 w) (hM:∀ b∈M,w0.heap.size<=b):Ext w0 w'/\∀ b∈M',w0.heap.size<=b :=
 ⟨h.chg.ext x hM,fun b hb=>(h.m b hb).elim (hM b) fun hge=>Nat.le_trans x.size hge⟩
theorem own_lt {w:World} {base k n:Nat} {e:TypeId} {v:Value} {xs:List Value} (h:w.ownsRow base e k v n xs):∀ b,v.ownBlock=some b->b<w.heap.size:=by
 intro b hb;rcases h.2 with ⟨rfl,_⟩ | ⟨g,cap,cur,rfl,_,hh,_⟩
 ·simp [Value.ownBlock] at hb
 ·simp [Value.ownBlock] at hb;subst hb;exact ltB hh
theorem DkAt.lt {w:World} {d:Nat} {M I:List Nat} {D:Dk} (h:DkAt w d M I D):(∀ b∈M,b<w.heap.size)/\∀ b∈I,b<w.heap.size:=by
 obtain ⟨lt,lm,st,sm,lg,vs,h,rfl⟩:=h;refine ⟨fun b hb=>?_,fun b hb=>(h.imm b hb).2.2⟩;rcases List.mem_append.1 hb with hb | hb
 ·have h1:=lt_of_tree h.live;have h2:=lt_of_tree h.lasts;simp only [List.mem_cons,List.not_mem_nil,or_false] at hb;rcases hb with rfl | rfl | rfl | rfl | rfl
  ·exact ltB h.blk
  ·exact h1.1
  ·exact h1.2
  ·exact h2.1
  ·exact h2.2
 ·exact own_lt h.log b (mem_rowB.1 hb)
theorem owns_blocks {w w':World} {base k:Nat} {e:TypeId} {v:Value} {n:Nat} {xs:List Value} (h:w.ownsRow base e k v n xs) (hk:∀ b,v.ownBlock=some b->w'.heap[b]?=w.heap[b]?):w'.ownsRow base e k v n xs:=by
 refine ⟨h.1,?_⟩;rcases h.2 with h1 | ⟨g,cap,cur,hv,hg,hh,hr⟩
 ·exact .inl h1
 ·exact .inr ⟨g,cap,cur,hv,hg,(hk g (by rw [hv];rfl)).trans hh,hr⟩
theorem DkAt.kept {w w':World} {d:Nat} {M I:List Nat} {D:Dk} (h:DkAt w d M I D) (hs:w.heap.size<=w'.heap.size) (hk:∀ b,b<w.heap.size->b∈M\/b∈I->w'.heap[b]?=w.heap[b]?):DkAt w' d M I D:=by
 have hlt:=h.lt;obtain ⟨lt,lm,st,sm,lg,vs,h,rfl⟩:=h;have hm:∀ b,b∈[d,lt,lm,st,sm]->w'.heap[b]?=w.heap[b]?:=fun b hb=>hk b (hlt.1 b (List.mem_append.2 (.inl hb))) (.inl (List.mem_append.2 (.inl hb)));refine ⟨lt,lm,st,sm,lg,vs,⟨(hm d (by simp)).trans h.blk,h.live.kept (hm lt (by simp)) (hm lm (by simp)),h.lasts.kept (hm st (by simp)) (hm sm (by simp)),owns_blocks h.log fun b hb=>hk b (own_lt h.log b hb) (.inl (List.mem_append.2 (.inr (mem_rowB.2 hb)))),fun k v x h1 h2=>?_,h.nd,h.lgne,fun b hb=>⟨(h.imm b hb).1,(h.imm b hb).2.1,Nat.lt_of_lt_of_le (h.imm b hb).2.2 hs⟩⟩,rfl⟩;obtain ⟨h3,h4⟩:=h.effs k v x h1 h2;exact ⟨h3.turn (fun _ hb=>hb) fun b hb hl=>hk b hl (.inr hb),h4⟩
theorem DkAt.ext {w w':World} {d:Nat} {M I:List Nat} {D:Dk} (h:DkAt w d M I D) (x:Ext w w'):DkAt w' d M I D:=h.kept x.size fun _ hb _=>x.block hb
structure Apart (M I M2 I2:List Nat):Prop where
 mm:∀ b∈M,b∉M2
 mi:∀ b∈M,b∉I2
 im:∀ b∈I,b∉M2
theorem Apart.symm {M I M2 I2:List Nat} (h:Apart M I M2 I2):Apart M2 I2 M I:=⟨fun b hb hb2=>h.mm b hb2 hb,fun b hb hb2=>h.im b hb2 hb,fun b hb hb2=>h.mi b hb2 hb⟩
theorem Apart.step {w w':World} {M I M' I' M2 I2:List Nat} (h:Apart M I M2 I2) (k:DkStep w M I w' M' I') (h1:∀ b∈M2,b<w.heap.size) (h2:∀ b∈I2,b<w.heap.size):Apart M' I' M2 I2 :=
 ⟨fun b hb hb2=>(k.m b hb).elim (fun hm=>h.mm b hm hb2) fun hge=>absurd (h1 b hb2) (Nat.not_lt.2 hge),fun b hb hb2=>(k.m b hb).elim (fun hm=>h.mi b hm hb2) fun hge=>absurd (h2 b hb2) (Nat.not_lt.2 hge),
  fun b hb hb2=>(k.i b hb).elim (fun hm=>h.im b hm hb2) fun hge=>absurd (h1 b hb2) (Nat.not_lt.2 hge)⟩
theorem dis_any (d:Nat) (a:Addr) (w:World) (h:w.cell? ⟨d,0,none⟩=some (.pointer (some a))) :
  Calls prog 89 #[.pointer (some ⟨d,0,none⟩)] w fun e w'=>e=.returned (.bool true)/\w'=w:=by
 go_enter func89,ntmps89;go_wp2_with fail;go_ret;exact ⟨rfl,rfl⟩
set_option maxHeartbeats 800000 in
theorem doff_at (d:Nat) (a:Addr) (fused:Bool) (left:Int) (w:World) (h:w.cell? ⟨d,0,none⟩=some (.pointer (some a))) (h3:w.cell? ⟨d,3,none⟩=some (.bool fused)) (h4:w.cell? ⟨d,4,none⟩=some (.int .i64 left)) :
  Calls prog 34 #[.pointer (some ⟨d,0,none⟩)] w fun e w'=>e=.returned (.bool (fused&&decide (left=0)))/\w'=w:=by
 have H:=lh (dis_any d a w h);clear h
 cases fused with
 | false =>
  go_enter func34,ntmps34;go_wp2_with fail;refine H.out.mono ?_;rintro e w1 ⟨rfl,hw1⟩;obtain rfl:=hw1.symm;go_wp2_with fail;go_ret;exact ⟨rfl,rfl⟩
 | true =>
  have HR:=lh (show (true&&decide (left=0))=(left==0) from by rw [Bool.true_and];rfl)
  cases hl:(left==0)
  ·go_enter func34,ntmps34;go_wp2_with fail;refine H.out.mono ?_;rintro e w1 ⟨rfl,hw1⟩;obtain rfl:=hw1.symm;go_wp2_with fail;go_ret;exact ⟨ret_bool (by rw [HR.out,hl]),rfl⟩
  ·go_enter func34,ntmps34;go_wp2_with fail;refine H.out.mono ?_;rintro e w1 ⟨rfl,hw1⟩;obtain rfl:=hw1.symm;go_wp2_with fail;go_ret;exact ⟨ret_bool (by rw [HR.out,hl]),rfl⟩
theorem dclock_any (t:Int) (w:World):Calls prog 127 #[.int .i64 t] w fun e w'=>e=.returned (.bool (clockB t))/\w'=w:=by
 unfold clockB;by_cases h0:0<=t
 ·by_cases h1:t<=4294967295
  ·have d0:decide (0<=t)=true:=by simpa using h0
   have d1:decide (t<=4294967295)=true:=by simpa using h1
   rw [d0,d1];go_enter func127,ntmps127;go_wp2_with fail;go_ret;exact ⟨rfl,rfl⟩
  ·have d0:decide (0<=t)=true:=by simpa using h0
   have d1:decide (t<=4294967295)=false:=by simpa using h1
   rw [d0,d1];go_enter func127,ntmps127;go_wp2_with fail;go_ret;exact ⟨rfl,rfl⟩
 ·have d0:decide (0<=t)=false:=by simpa using h0
  rw [d0,Bool.false_and];go_enter func127,ntmps127;go_wp2_with fail;go_ret;exact ⟨rfl,rfl⟩
end
section
theorem el_effect:Elem prog 107 150 .nilFunc 8:=⟨by kernel_rfl,by kernel_rfl,rfl,by decide⟩
structure DkFit (D:Dk):Prop where
 ok:DkOk D
 len:D.log.length<=1073741824
 lo:-4611686018427387904<=D.left
 hi:D.left<=9223372036854775807
def ActPost (w:World) (d:Nat) (M I:List Nat) (R:Int×Dk) (e:Ending) (w':World):Prop :=
 e=.returned (.int .i64 R.1)/\∃ M' I',DkAt w' d M' I' R.2/\DkStep w M I w' M' I'
theorem ActPost.still {w w':World} {d:Nat} {M I:List Nat} {D:Dk} {R:Int×Dk} {n:Int} (h:DkAt w d M I D) (x:Ext w w') (hR:R=(n,D)):ActPost w d M I R (.returned (.int .i64 n)) w':=by
 subst hR;exact ⟨rfl,M,I,h.ext x,DkStep.of_ext x M I⟩
theorem act_fail {w w3 w4:World} {d lt lm st sm:Nat} {lg:Value} {vs:List Value} {I:List Nat} {D:Dk} {R:Int×Dk} {n:Int} {l:Nodes} (h:DkIn w d lt lm st sm lg vs I D) (x:Ext w w3) (t4:TreeAt w4 lt lm l D.room) (c4:Chg [lt,lm] w3 w4) (hl:l=D.live) (hR:R=(n,D)) :
  ActPost w d ([d,lt,lm,st,sm]++rowB lg) I R (.returned (.int .i64 n)) w4/\Chg ([d,lt,lm,st,sm]++rowB lg) w3 w4:=by
 subst hR;subst hl;have hd:DkAt w d ([d,lt,lm,st,sm]++rowB lg) I D:=⟨lt,lm,st,sm,lg,vs,h,rfl⟩;have hlt:=hd.lt;have hnd:=h.nd;simp only [List.nodup_cons,List.mem_cons,List.not_mem_nil,not_or,or_false] at hnd;obtain ⟨⟨n1,n2,n3,n4⟩,⟨_,n5,n6⟩,⟨n7,n8⟩,_⟩:=hnd;have key:∀ b,b<w.heap.size->b≠lt->b≠lm->w4.heap[b]?=w.heap[b]?:=fun b hb h1 h2=>(c4.block b (Nat.lt_of_lt_of_le hb x.size) (by simp [h1,h2])).trans (x.block hb);have l1:=lt_of_tree h.live;have l2:=lt_of_tree h.lasts;refine ⟨⟨rfl,_,I,⟨lt,lm,st,sm,lg,vs,⟨(key d (ltB h.blk) n1 n2).trans h.blk,t4,h.lasts.kept (key st l2.1 (Ne.symm n5) (Ne.symm n7)) (key sm l2.2 (Ne.symm n6) (Ne.symm n8)),owns_blocks h.log fun b hb=>key b (own_lt h.log b hb) (fun e=>h.lgne b hb (by simp [e])) (fun e=>h.lgne b hb (by simp [e])),fun k v y h1 h2=>?_,h.nd,h.lgne,fun b hb=>?_⟩,rfl⟩,⟨?_,Sub.refl _ _,Sub.refl _ _⟩⟩,c4.mono fun b hb=>by simp at hb;rcases hb with rfl | rfl <;> simp⟩
 ·obtain ⟨h3,h4⟩:=h.effs k v y h1 h2;exact ⟨h3.turn (fun _ hb=>hb) fun b hb hl=>key b hl (fun e=>(h.imm b hb).1 (by simp [e])) (fun e=>(h.imm b hb).1 (by simp [e])),h4⟩
 ·exact ⟨(h.imm b hb).1,(h.imm b hb).2.1,Nat.lt_of_lt_of_le (h.imm b hb).2.2 (Nat.le_trans x.size c4.size)⟩
 ·exact Chg.from_ext x (c4.mono fun b hb=>by simp at hb;rcases hb with rfl | rfl <;> simp)
theorem act_done {w w3 w4 w5:World} {o:Obj} {d lt lm st sm:Nat} {lg lg':Value} {vs:List Value} {I B:List Nat} {D:Dk} {R:Int×Dk} {l:Nodes} {x:Eff} {v:Value} (h:DkIn w d lt lm st sm lg vs I D) (xt:Ext w w3) (t4:TreeAt w4 lt lm l D.room) (c4:Chg [lt,lm] w3 w4)
  (he:EffAt w3 B v x) (hB:∀ b∈B,w.heap.size<=b/\b<w3.heap.size) (hf:x.few)
  (hown:w5.ownsRow 0 150 1 lg' (D.log.length+1) (vs++[v])) (hg:(w4.alloc o).grownBy w5 lg.ownBlock) (hw:lg'.ownBlock=lg.ownBlock\/lg'.ownBlock=some (w4.heap.size+1))
  (hR:R=(0,{ D with live:=l,log:=D.log++[x],left:=D.left - 1 })) :
  ActPost w d ([d,lt,lm,st,sm]++rowB lg) I R (.returned (.int .i64 0)) ((w5.setCell ⟨d,2,none⟩ lg').setCell ⟨d,4,none⟩ (.int .i64 (D.left - 1))) /\
  Chg ([d,lt,lm,st,sm]++rowB lg) w3 ((w5.setCell ⟨d,2,none⟩ lg').setCell ⟨d,4,none⟩ (.int .i64 (D.left - 1))):=by
 subst hR;have hd:DkAt w d ([d,lt,lm,st,sm]++rowB lg) I D:=⟨lt,lm,st,sm,lg,vs,h,rfl⟩;have hnd:=h.nd;simp only [List.nodup_cons,List.mem_cons,List.not_mem_nil,not_or,or_false] at hnd;obtain ⟨⟨n1,n2,n3,n4⟩,⟨_,n5,n6⟩,⟨n7,n8⟩,_⟩:=hnd;have hs4:w.heap.size<=w4.heap.size:=Nat.le_trans xt.size c4.size;have hs5:w4.heap.size+1<=w5.heap.size:=by have:=hg.size;rwa [size_alloc] at this
 have key4:∀ b,b<w.heap.size->b≠lt->b≠lm->w4.heap[b]?=w.heap[b]?:=fun b hb h1 h2=>(c4.block b (Nat.lt_of_lt_of_le hb xt.size) (by simp [h1,h2])).trans (xt.block hb);have key5:∀ b,b<w4.heap.size->lg.ownBlock≠some b->w5.heap[b]?=w4.heap[b]?:=fun b hb hn=>(hg.block b (by rw [size_alloc];omega) (Ne.symm hn)).trans (block_alloc_old hb);have hlg:∀ b,b∈[d,lt,lm,st,sm]->lg.ownBlock≠some b:=fun b hb e=>h.lgne b e hb;have keyN:∀ b,b≠d->((w5.setCell ⟨d,2,none⟩ lg').setCell ⟨d,4,none⟩ (.int .i64 (D.left - 1))).heap[b]?=w5.heap[b]?:=fun b hb=>(setCellO hb).trans (setCellO hb);have l1:=lt_of_tree h.live;have l2:=lt_of_tree h.lasts;have l4:=lt_of_tree t4;have hdl:=ltB h.blk;have hlg':∀ b,lg'.ownBlock=some b->lg.ownBlock=some b\/w.heap.size<=b:=fun b hb=>hw.elim (fun e=>.inl (e▸hb)) fun e=>.inr (by rw [e] at hb;have:=Option.some.inj hb;omega);have b5:w5.heap[d]?=some (.cells #[.pointer (some ⟨lt,0,none⟩),.pointer (some ⟨st,0,none⟩),lg,.bool D.fused,.int .i64 D.left] 109 (0,0)):=(key5 d (by omega) (hlg d (by simp))).trans ((key4 d hdl n1 n2).trans h.blk)
 have eold:∀ b,b<w.heap.size->b∉[d,lt,lm,st,sm]->lg.ownBlock≠some b->((w5.setCell ⟨d,2,none⟩ lg').setCell ⟨d,4,none⟩ (.int .i64 (D.left - 1))).heap[b]?=w.heap[b]?:=fun b hb hn hl=>by
  simp only [List.mem_cons,List.not_mem_nil,not_or,or_false] at hn;exact (keyN b hn.1).trans ((key5 b (by omega) hl).trans (key4 b hb hn.2.1 hn.2.2.1))
 have hBn:∀ b∈B,b∉[d,lt,lm,st,sm]/\lg.ownBlock≠some b:=fun b hb=>by
  have:=(hB b hb).1;exact ⟨fun hm=>by have:=hd.lt.1 b (List.mem_append.2 (.inl hm));omega,fun e=>by have:=own_lt h.log b e;omega⟩
 have enew:∀ b,b∈B->((w5.setCell ⟨d,2,none⟩ lg').setCell ⟨d,4,none⟩ (.int .i64 (D.left - 1))).heap[b]?=w3.heap[b]?:=fun b hb=>by
  obtain ⟨hn,hl⟩:=hBn b hb;simp only [List.mem_cons,List.not_mem_nil,not_or,or_false] at hn;have h3:=(hB b hb).2;exact (keyN b hn.1).trans ((key5 b (Nat.lt_of_lt_of_le h3 c4.size) hl).trans (c4.block b h3 (by simp [hn.2.1,hn.2.2.1])))
 have hs3:=xt.size;have hs34:=c4.size
 have hC3:Chg ([d,lt,lm,st,sm]++rowB lg) w3 ((w5.setCell ⟨d,2,none⟩ lg').setCell ⟨d,4,none⟩ (.int .i64 (D.left - 1))):=by
  have c5:Chg (rowB lg) (w4.alloc o) w5:=Chg.grownO hg fun b hb=>.inl (mem_rowB.2 hb);have c3:Chg ([d,lt,lm,st,sm]++rowB lg) w3 w4:=c4.mono fun b hb=>by simp at hb;rcases hb with rfl | rfl <;> simp
  have c6:=((c3.alloc o).trans c5 fun b hb=>.inl (List.mem_append.2 (.inr hb))).trans (Chg.setCell (F:=[d]) w5 ⟨d,2,none⟩ lg' (by simp)) fun b hb=>.inl (by simp at hb;simp [hb]);exact c6.trans (Chg.setCell (F:=[d]) _ ⟨d,4,none⟩ _ (by simp)) fun b hb=>.inl (by simp at hb;simp [hb])
 refine ⟨⟨rfl,[d,lt,lm,st,sm]++rowB lg',I++B,⟨lt,lm,st,sm,lg',vs++[v],⟨?_,?_,?_,?_,fun k u y h1 h2=>?_,h.nd,fun b hb=>?_,fun b hb=>?_⟩,rfl⟩,⟨?_,fun b hb=>?_,fun b hb=>?_⟩⟩,hC3⟩
 ·rw [setCellB (setCellB b5)];rfl
 ·exact t4.kept ((keyN lt (Ne.symm n1)).trans (key5 lt l4.1 (hlg lt (by simp)))) ((keyN lm (Ne.symm n2)).trans (key5 lm l4.2 (hlg lm (by simp))))
 ·exact h.lasts.kept ((keyN st (Ne.symm n3)).trans ((key5 st (by omega) (hlg st (by simp))).trans (key4 st l2.1 (Ne.symm n5) (Ne.symm n7)))) ((keyN sm (Ne.symm n4)).trans ((key5 sm (by omega) (hlg sm (by simp))).trans (key4 sm l2.2 (Ne.symm n6) (Ne.symm n8))))
 ·rw [show ({ D with live:=l,log:=D.log++[x],left:=D.left - 1 }:Dk).log.length=D.log.length+1 from by simp]
  exact owns_blocks hown fun b hb=>keyN b fun e=>by
   subst e;rcases hlg' b hb with h9 | h9
   ·exact hlg b (by simp) h9
   ·omega
 ·have hlen:vs.length=D.log.length:=by have:=h.log.1;omega
  rcases Nat.lt_or_ge k vs.length with hk | hk
  ·rw [List.getElem?_append_left hk] at h1
   have h2':D.log[k]?=some y:=by
    have h2:(D.log++[x])[k]?=some y:=h2
    rwa [List.getElem?_append_left (by omega)] at h2
   obtain ⟨h3,h4⟩:=h.effs k u y h1 h2';exact ⟨h3.turn (fun b hb=>List.mem_append.2 (.inl hb)) fun b hb hl=>eold b hl (h.imm b hb).1 (h.imm b hb).2.1,h4⟩
  ·rw [List.getElem?_append_right hk] at h1;have h2:(D.log++[x])[k]?=some y:=h2;rw [List.getElem?_append_right (by omega)] at h2
   have k0:k - vs.length=0:=by
    have:=(List.getElem?_eq_some_iff.1 h1).1;simp at this;omega
   rw [k0] at h1;rw [show k - D.log.length=0 from by omega] at h2;simp at h1 h2;subst h1;subst h2;exact ⟨he.turn (fun b hb=>List.mem_append.2 (.inr hb)) fun b hb hl=>enew b hb,hf⟩
 ·intro hm;rcases hlg' b hb with h9 | h9
  ·exact h.lgne b h9 hm
  ·have:=hd.lt.1 b (List.mem_append.2 (.inl hm));omega
 ·rcases List.mem_append.1 hb with hb | hb
  ·have hbb:=h.imm b hb;refine ⟨hbb.1,fun e=>?_,?_⟩
   ·rcases hlg' b e with h9 | h9
    ·exact hbb.2.1 h9
    ·have:=hbb.2.2;omega
   ·have:=hbb.2.2;simp;omega
  ·obtain ⟨hn,hl⟩:=hBn b hb;have h3:=(hB b hb).2;refine ⟨hn,fun e=>?_,?_⟩
   ·rcases hw with h9 | h9
    ·exact hl (h9▸e)
    ·rw [h9] at e;have:=Option.some.inj e;omega
   ·simp;omega
 ·exact Chg.from_ext xt hC3
 ·rcases List.mem_append.1 hb with hb | hb
  ·exact .inl (List.mem_append.2 (.inl hb))
  ·rcases hlg' b (mem_rowB.1 hb) with h9 | h9
   ·exact .inl (List.mem_append.2 (.inr (mem_rowB.2 h9)))
   ·exact .inr h9
 ·rcases List.mem_append.1 hb with hb | hb
  ·exact .inl hb
  ·exact .inr (hB b hb).1
def ActPost2 (w0 w:World) (d:Nat) (M I:List Nat) (R:Int×Dk) (e:Ending) (w':World):Prop:=ActPost w0 d M I R e w'/\Chg M w w'
theorem ActPost2.still {w0 w w':World} {d:Nat} {M I:List Nat} {D:Dk} {R:Int×Dk} {n:Int} (h:DkAt w0 d M I D) (x0:Ext w0 w) (x:Ext w w') (hR:R=(n,D)):ActPost2 w0 w d M I R (.returned (.int .i64 n)) w':=⟨ActPost.still h (x0.trans x) hR,x.chg M⟩
end
section
set_option maxRecDepth 100000 in
set_option maxHeartbeats 4000000 in
theorem do_any {w0 w:World} {d:Nat} {M I:List Nat} {D:Dk} (h:DkAt w0 d M I D) (xw:Ext w0 w) (O:DkFit D) (E:Env w0) {B:List Nat} {F:FuncId} {cap:Array Value} {x:Eff} (he:EffAt w B (.func (.func F) #[] cap) x) (hB:∀ b∈B,w0.heap.size<=b/\b<w.heap.size) (hf:x.few)
  (r:Bool) (hr:x.right=r) (g n:Nat) (hn:x.paths.length=n) (hn4:n<=4) (hc:∀ (k:Nat) p,x.paths[k]?=some p->w.cell? ⟨g,k,none⟩=some (.string p)) (hz:∀ p∈x.paths,p.size<4294967281) :
  Calls prog 122 #[.pointer (some ⟨d,0,none⟩),.func (.func F) #[] cap,.bool r,.slice (some ⟨g,0,none⟩) n n] w (ActPost2 w0 w d M I (D.act x)):=by
 have HR:=lh (show D.act x=if D.off then (20,D) else if x.paths.all mayB then (if x.right then
  (if (effE D.live D.room full x).1=0 then (0,{ D with live:=(effE D.live D.room full x).2,log:=D.log++[x],left:=D.left - 1 }) else ((effE D.live D.room full x).1,D))
 else (2,D)) else (10,D) from rfl)
 have HD:=lh h;obtain ⟨lt,lm,st,sm,lg,vs,h,hM⟩:=h;have HI:=lh h;have HM:=lh hM;have HX:=lh xw;have hb:=(xw.block (ltB h.blk)).trans h.blk;have c0:w.cell? ⟨d,0,none⟩=some (.pointer (some ⟨lt,0,none⟩)):=cellB hb;have c3:w.cell? ⟨d,3,none⟩=some (.bool D.fused):=cellB hb;have c4:w.cell? ⟨d,4,none⟩=some (.int .i64 D.left):=cellB hb;have H1:=lh (dis_any d _ w c0);have H2:=lh (show Calls prog 34 #[.pointer (some ⟨d,0,none⟩)] w fun e w'=>e=.returned (.bool D.off)/\w'=w from doff_at d _ D.fused D.left w c0 c3 c4);have H3:=fun s w h E=>lh (may_any s w h E);have HE:=lh E;have HC:=lh hc;have HZ:=lh hz;have HRi:=lh hr;have HN:=lh hn;have HEf:=lh he;have HB:=lh hB;have HO:=lh O;have hdl:=ltB h.blk;clear h hM xw hb c0 c3 c4 hc hz hr hn E he hB O;generalize hAct:D.act x=R at *;clear hAct
 cases hoff:D.off with
 | true =>
  have HR2:=lh (HR.out.trans (if_pos hoff));rw [hoff] at H2;clear HR;go_enter func122,ntmps122;go_wp2_with fail;refine H1.out.mono ?_;rintro e w1 ⟨rfl,hw1⟩;obtain rfl:=hw1.symm;clear hw1;go_wp2_with fail;refine H2.out.mono ?_;rintro e w1 ⟨rfl,hw1⟩;obtain rfl:=hw1.symm;clear hw1;go_wp2_with fail;go_ret;exact ActPost2.still HD.out HX.out (Ext.refl _) HR2.out
 | false =>
  have HR2:=lh (HR.out.trans (if_neg (by rw [hoff];decide)));rw [hoff] at H2;clear HR
  cases hall:x.paths.all mayB with
  | false =>
   have HR3:=lh (HR2.out.trans (if_neg (by rw [hall];decide)));have HAL:=lh hall;clear HR2 hall;go_enter func122,ntmps122;go_wp2_with fail;refine H1.out.mono ?_;rintro e w1 ⟨rfl,hw1⟩;obtain rfl:=hw1.symm;clear hw1;go_wp2_with fail;refine H2.out.mono ?_;rintro e w1 ⟨rfl,hw1⟩;obtain rfl:=hw1.symm;clear hw1;go_wp2_with fail;go_loopw [21] (fun iv wr=>Hid (∃ k:Nat,k<=n/\iv=.int .i64 k/\(∀ p∈x.paths.take k,mayB p=true)/\Ext w wr)) (fun iv _=>n - (intOf iv).toNat)
   case atStart=>exact ⟨0,Nat.zero_le _,rfl,by simp,Ext.refl _⟩
   case round =>
    obtain ⟨k,hk,rfl,hak,hx⟩:=hrel.out;clear hrel;have HAK:=lh hak;have HXr:=lh hx;by_cases hlt2:k<n
    ·obtain ⟨p,hp⟩:∃ p,x.paths[k]?=some p:=⟨_,List.getElem?_eq_getElem (by rw [HN.out];exact hlt2)⟩;have c:=HC.out k p hp;have ck:=(hx.cell (lt_of_cell c)).trans c;have hm:=lh (H3 p wr (HZ.out p (List.mem_of_getElem? hp)) (HE.out.ext (HX.out.trans hx))).out;have HTK:=lh (show x.paths.take (k+1)=x.paths.take k++[p] from by rw [List.take_add_one,hp];rfl);clear hak hx c hp
     cases hmq:mayB p with
     | true =>
      rw [hmq] at hm;have HMQ:=lh hmq;clear hmq;go_wp2_with fail;refine hm.out.mono ?_;rintro e w5 ⟨rfl,x5⟩;have HX5:=lh (HXr.out.trans x5);clear x5;go_wp2_with fail;go_roundw
      case rel=>exact ⟨k+1,by omega,by go_num,fun q hq=>by
       rw [HTK.out] at hq;rcases List.mem_append.1 hq with h | h
       ·exact HAK.out q h
       ·simp at h;subst h;exact HMQ.out,HX5.out⟩
      case measure=>simp [intOf];omega
     | false =>
      rw [hmq] at hm;clear hmq;go_wp2_with fail;refine hm.out.mono ?_;rintro e w5 ⟨rfl,x5⟩;have HX5:=lh (HXr.out.trans x5);clear x5;go_wp2_with fail;go_ret;exact ActPost2.still HD.out HX.out HX5.out HR3.out
    ·exfalso;rw [List.take_of_length_le (by rw [HN.out];omega)] at hak;have:=List.all_eq_true.2 hak;rw [HAL.out] at this
     cases this
  | true =>
   have HR3:=lh (HR2.out.trans (if_pos hall));have HAL:=lh (List.all_eq_true.1 hall);clear HR2 hall;go_enter func122,ntmps122;go_wp2_with fail;refine H1.out.mono ?_;rintro e w1 ⟨rfl,hw1⟩;obtain rfl:=hw1.symm;clear hw1;go_wp2_with fail;refine H2.out.mono ?_;rintro e w1 ⟨rfl,hw1⟩;obtain rfl:=hw1.symm;clear hw1;go_wp2_with fail;go_loopw [21] (fun iv wr=>Hid (∃ k:Nat,k<=n/\iv=.int .i64 k/\Ext w wr)) (fun iv _=>n - (intOf iv).toNat)
   case atStart=>exact ⟨0,Nat.zero_le _,rfl,Ext.refl _⟩
   case round =>
    obtain ⟨k,hk,rfl,hx⟩:=hrel.out;clear hrel;have HXr:=lh hx;by_cases hlt2:k<n
    ·obtain ⟨p,hp⟩:∃ p,x.paths[k]?=some p:=⟨_,List.getElem?_eq_getElem (by rw [HN.out];exact hlt2)⟩;have c:=HC.out k p hp;have ck:=(hx.cell (lt_of_cell c)).trans c;have hm:=lh (H3 p wr (HZ.out p (List.mem_of_getElem? hp)) (HE.out.ext (HX.out.trans hx))).out;rw [HAL.out p (List.mem_of_getElem? hp)] at hm;clear hx c hp;go_wp2_with fail;refine hm.out.mono ?_;rintro e w5 ⟨rfl,x5⟩;have HX5:=lh (HXr.out.trans x5);clear x5;go_wp2_with fail;go_roundw
     case rel=>exact ⟨k+1,by omega,by go_num,HX5.out⟩
     case measure=>simp [intOf];omega
    ·obtain rfl:k=n:=by omega
     have nlt:decide ((k:Int)<(k:Int))=false:=by simp
     clear hk hlt2 hx
     cases r with
     | false =>
      have HR4:=lh (HR3.out.trans (if_neg (by rw [HRi.out];decide)));go_wp2_with fail;go_ret;exact ActPost2.still HD.out HX.out HXr.out HR4.out
     | true =>
      have HR4:=lh (HR3.out.trans (if_pos HRi.out));have hxw:=HX.out.trans HXr.out;have hxo:EffOk x:=⟨HAL.out,HRi.out⟩;have hb:=(hxw.block (ltB HI.out.blk)).trans HI.out.blk;have c0:wr.cell? ⟨d,0,none⟩=some (.pointer (some ⟨lt,0,none⟩)):=cellB hb;have hea:=HEf.out.turn (fun _ hb=>hb) fun b _ hl=>HXr.out.block hl;have hRd:Ready wr lt lm D.live D.room:=⟨HE.out.ext hxw,HI.out.live.ext hxw,HO.out.ok.live,HO.out.ok.r2⟩;obtain ⟨hen,hcall⟩:=eff_calls hea hxo hf hRd (most:=full) (by decide);have hen:∀ args W,(callFunc F args).run prog W=.ok (.enter F args) W:=hen;have HCall:=lh hcall;have HEa:=lh hea;have HXw:=lh hxw;have HBr:=lh (show ∀ b∈B,w0.heap.size<=b/\b<wr.heap.size from fun b hb=>⟨(HB.out b hb).1,Nat.lt_of_lt_of_le (HB.out b hb).2 HXr.out.size⟩);have HFail:=lh (effE_fail (l:=D.live) (room:=D.room) (most:=full) (x:=x));have hlen:=HO.out.len;have hlo:=HO.out.lo;have hhi:=HO.out.hi;clear hea hxo hRd hb hcall hxw nlt HEf HB HR3;go_wp2_with fail;refine HCall.out.mono ?_;rintro e w4 ⟨rfl,t4,x4⟩;have HT4:=lh t4;have HC4:=lh x4
      have hdw:w4.heap[d]?=some (.cells #[.pointer (some ⟨lt,0,none⟩),.pointer (some ⟨st,0,none⟩),lg,.bool D.fused,.int .i64 D.left] 109 (0,0)):=by
       have hnd:=HI.out.nd;simp only [List.nodup_cons,List.mem_cons,List.not_mem_nil,not_or,or_false] at hnd;exact (x4.block d (Nat.lt_of_lt_of_le hdl HXw.out.size) (by simp [hnd.1.1,hnd.1.2.1])).trans ((HXw.out.block hdl).trans HI.out.blk)
      have HDW:=lh hdw;have d2:w4.cell? ⟨d,2,none⟩=some lg:=cellB hdw;have hd4:d<w4.heap.size:=ltB hdw;clear t4 x4 hdw HCall hen c0;generalize hS:effE D.live D.room full x=S at *;obtain ⟨en,l4⟩:=S;by_cases hen0:en=0
      ·have HR5:=lh (HR4.out.trans (if_pos hen0));subst hen0
       have HOw:=lh (show w4.ownsRow 0 150 1 lg D.log.length vs from owns_blocks HI.out.log fun b hb=>by
        have hbl:=own_lt HI.out.log b hb
        exact (HC4.out.block b (Nat.lt_of_lt_of_le hbl HXw.out.size) (fun hm=>HI.out.lgne b hb (by simp at hm;rcases hm with rfl | rfl <;> simp))).trans (HXw.out.block hbl))
       have hlgd:∀ b,lg.ownBlock=some b->b≠d:=fun b hb e=>HI.out.lgne b hb (by simp [e]);have HLGD:=lh hlgd;clear HFail hS hlgd;go_wp2_with (at_builtin;refine append_kw ⟨el_effect.ut,el_effect.info,el_effect.one,by decide,el_effect.few⟩ 0 _ _ _ (HOw.out.alloc _) w4.heap.size [.func (.func F) #[] cap] rfl (.tmp 43) (.tmp 45) rfl rfl rfl rfl (fun j u hj=>by rw [cell_alloc_new rfl];simpa using hj) (by simp [Value.oneCell']) (by omega) (Nat.zero_le _) ?_);intro v5 w5 hown5 hg5 hv5 hw5;obtain ⟨g5,cap5,rfl,hv5⟩:=hv5
       have hd5:w5.heap[d]?=some (.cells #[.pointer (some ⟨lt,0,none⟩),.pointer (some ⟨st,0,none⟩),lg,.bool D.fused,.int .i64 D.left] 109 (0,0)):=by
        rw [hg5.block d (by rw [size_alloc];omega) (fun e=>HLGD.out d e.symm rfl),block_alloc_old hd4];exact HDW.out
       have e2:w5.cell? ⟨d,2,none⟩=some lg:=cellB hd5;have e3:w5.frozen? ⟨d,2,none⟩=false:=frozenB hd5;have hd6:(w5.setCell ⟨d,2,none⟩ (.slice (some ⟨g5,0,none⟩) (D.log.length+1) cap5)).heap[d]?=some (.cells #[.pointer (some ⟨lt,0,none⟩),.pointer (some ⟨st,0,none⟩),.slice (some ⟨g5,0,none⟩) (D.log.length+1) cap5,.bool D.fused,.int .i64 D.left] 109 (0,0)):=setCellB hd5;have e4:(w5.setCell ⟨d,2,none⟩ (.slice (some ⟨g5,0,none⟩) (D.log.length+1) cap5)).cell? ⟨d,4,none⟩=some (.int .i64 D.left):=cellB hd6;have e5:(w5.setCell ⟨d,2,none⟩ (.slice (some ⟨g5,0,none⟩) (D.log.length+1) cap5)).frozen? ⟨d,4,none⟩=false:=frozenB hd6;have HEnd:=lh (act_done HI.out HXw.out HT4.out HC4.out HEa.out HBr.out hf hown5 hg5 hw5 HR5.out);clear hown5 hg5 hv5 hw5 hd5 hd6;go_wp2_with fail;go_ret;rw [HM.out];exact ⟨HEnd.out.1,Chg.from_ext HXr.out HEnd.out.2⟩
      ·have HR5:=lh (HR4.out.trans (if_neg hen0));have HL:=lh (HFail.out hen0);have n1:(en==0)=false:=by simpa using hen0
       have n2:(en != 0)=true:=by simpa using hen0
       have HEnd:=lh (act_fail HI.out HXw.out HT4.out HC4.out HL.out HR5.out);clear hen0 hS HFail;go_wp2_with fail;go_ret;rw [HM.out];exact ⟨HEnd.out.1,Chg.from_ext HXr.out HEnd.out.2⟩
end
section
theorem cell1 {w:World} {v:Value} {t:TypeId}:(w.alloc (.cells #[v] t)).cell? ⟨w.heap.size,0,none⟩=some v:=by rw [cell_alloc_new rfl];rfl
theorem cell_up {w:World} {o:Obj} {b k:Nat} {v:Value} (h:w.cell? ⟨b,k,none⟩=some v):(w.alloc o).cell? ⟨b,k,none⟩=some v:=(cell_alloc_old (lt_of_cell h)).trans h
set_option maxRecDepth 100000 in
set_option maxHeartbeats 2000000 in
theorem Mkdir_any {w:World} {d:Nat} {M I:List Nat} {D:Dk} (h:DkAt w d M I D) (O:DkFit D) (E:Env w) (p:ByteArray) (hp:p.size<4294967281) :
  Calls prog 57 #[.pointer (some ⟨d,0,none⟩),.string p] w (ActPost w d M I (D.act (.mkdir p))):=by
 obtain ⟨W2,hW2⟩:∃ W2,W2=(w.alloc (.cells #[.string p] 9)).alloc (.cells #[.string p] 9):=⟨_,rfl⟩;have x2:Ext w W2:=hW2▸((Ext.refl w).alloc _).alloc _;have hsz:W2.heap.size=w.heap.size+2:=by rw [hW2,size_alloc,size_alloc]
 have HD:=lh (do_any (x:=.mkdir p) h x2 O E (B:=[w.heap.size]) (F:=123) (cap:=#[.pointer (some ⟨w.heap.size,0,none⟩)])
  ⟨w.heap.size,rfl,by simp,hW2▸cell_up cell1⟩ (fun b hb=>by simp at hb;omega) trivial true rfl (w.heap.size+1) 1 rfl (by decide)
  (fun k q hk=>by
   match k,hk with
   | 0,hk =>
    simp [Eff.paths] at hk;subst hk;have:=cell1 (w:=w.alloc (.cells #[.string p] 9)) (v:=.string p) (t:=9);rw [size_alloc] at this
    rw [hW2];exact this)
  (fun q hq=>by simp [Eff.paths] at hq;subst hq;exact hp))
 clear x2 hsz h O E;subst hW2;generalize D.act (.mkdir p)=R at *;go_enter func57,ntmps57;go_wp2_with fail;refine HD.out.mono ?_;rintro e w1 ⟨⟨rfl,h1⟩,_⟩;have HP:=lh h1;clear h1;go_wp2_with fail;go_ret;exact ⟨rfl,HP.out⟩
set_option maxRecDepth 100000 in
set_option maxHeartbeats 2000000 in
theorem Remove_any {w:World} {d:Nat} {M I:List Nat} {D:Dk} (h:DkAt w d M I D) (O:DkFit D) (E:Env w) (p:ByteArray) (hp:p.size<4294967281) :
  Calls prog 65 #[.pointer (some ⟨d,0,none⟩),.string p] w (ActPost w d M I (D.act (.remove p))):=by
 obtain ⟨W2,hW2⟩:∃ W2,W2=(w.alloc (.cells #[.string p] 9)).alloc (.cells #[.string p] 9):=⟨_,rfl⟩;have x2:Ext w W2:=hW2▸((Ext.refl w).alloc _).alloc _;have hsz:W2.heap.size=w.heap.size+2:=by rw [hW2,size_alloc,size_alloc]
 have HD:=lh (do_any (x:=.remove p) h x2 O E (B:=[w.heap.size]) (F:=142) (cap:=#[.pointer (some ⟨w.heap.size,0,none⟩)])
  ⟨w.heap.size,rfl,by simp,hW2▸cell_up cell1⟩ (fun b hb=>by simp at hb;omega) trivial true rfl (w.heap.size+1) 1 rfl (by decide)
  (fun k q hk=>by
   match k,hk with
   | 0,hk =>
    simp [Eff.paths] at hk;subst hk;have:=cell1 (w:=w.alloc (.cells #[.string p] 9)) (v:=.string p) (t:=9);rw [size_alloc] at this
    rw [hW2];exact this)
  (fun q hq=>by simp [Eff.paths] at hq;subst hq;exact hp))
 clear x2 hsz h O E;subst hW2;generalize D.act (.remove p)=R at *;go_enter func65,ntmps65;go_wp2_with fail;refine HD.out.mono ?_;rintro e w1 ⟨⟨rfl,h1⟩,_⟩;have HP:=lh h1;clear h1;go_wp2_with fail;go_ret;exact ⟨rfl,HP.out⟩
set_option maxRecDepth 100000 in
set_option maxHeartbeats 2000000 in
theorem Write_any {w:World} {d:Nat} {M I:List Nat} {D:Dk} (h:DkAt w d M I D) (O:DkFit D) (E:Env w) (p a:ByteArray) (tm:Int) (hp:p.size<4294967281) (ha:a.size<=4611686018427387904) :
  Calls prog 58 #[.pointer (some ⟨d,0,none⟩),.string p,.string a,.int .i64 tm] w (ActPost w d M I (D.act (.write p a tm))):=by
 obtain ⟨W1,hW1⟩:∃ W1,W1=((w.alloc (.cells #[.string p] 9)).alloc (.cells #[.string a] 9)).alloc (.cells #[.int .i64 tm] 2):=⟨_,rfl⟩;have x1:Ext w W1:=hW1▸(((Ext.refl w).alloc _).alloc _).alloc _;have hsz:W1.heap.size=w.heap.size+3:=by rw [hW1,size_alloc,size_alloc,size_alloc]
 have ca:((w.alloc (.cells #[.string p] 9)).alloc (.cells #[.string a] 9)).cell? ⟨w.heap.size+1,0,none⟩=some (.string a):=by
  have:=cell1 (w:=w.alloc (.cells #[.string p] 9)) (v:=.string a) (t:=9)
  rwa [size_alloc] at this
 have ct:W1.cell? ⟨w.heap.size+2,0,none⟩=some (.int .i64 tm):=by
  have:=cell1 (w:=(w.alloc (.cells #[.string p] 9)).alloc (.cells #[.string a] 9)) (v:=.int .i64 tm) (t:=2);rw [size_alloc,size_alloc] at this;rw [hW1];exact this
 have cp:W1.cell? ⟨w.heap.size,0,none⟩=some (.string p):=hW1▸cell_up (cell_up cell1);have ca2:W1.cell? ⟨w.heap.size+1,0,none⟩=some (.string a):=hW1▸cell_up ca;have HM:=h.lt.1;have x2:Ext w (W1.alloc (.cells #[.string p] 9)).drew:=(x1.alloc _).drew
 have HD:=lh (do_any (x:=.write p a tm) h x2 O E (B:=[w.heap.size,w.heap.size+1,w.heap.size+2]) (F:=125) (cap:=#[.pointer (some ⟨w.heap.size,0,none⟩),.pointer (some ⟨w.heap.size+1,0,none⟩),.pointer (some ⟨w.heap.size+2,0,none⟩)])
  ⟨w.heap.size,w.heap.size+1,w.heap.size+2,rfl,by simp,by simp,by simp,cell_up (o:=.cells #[.string p] 9) cp,cell_up (o:=.cells #[.string p] 9) ca2,cell_up (o:=.cells #[.string p] 9) ct⟩ (fun b hb=>by show _/\b<(W1.alloc _).heap.size;rw [size_alloc];simp at hb;omega) ha (clockB tm) rfl W1.heap.size 1 rfl (by decide)
  (fun k q hk=>by
   match k,hk with
   | 0,hk=>simp [Eff.paths] at hk;subst hk;exact cell1 (w:=W1) (v:=.string p) (t:=9))
  (fun q hq=>by simp [Eff.paths] at hq;subst hq;exact hp))
 have HS:=lh (show ∀ w',Chg M (W1.alloc (.cells #[.string p] 9)).drew w'->w'.cell? ⟨w.heap.size,0,none⟩=some (.string p)/\w'.cell? ⟨w.heap.size+2,0,none⟩=some (.int .i64 tm) from fun w' c=>by
  have nm:∀ b,w.heap.size<=b->b∉M:=fun b hb hm=>by have:=HM b hm;omega
  exact ⟨(c.cell (by show _<(W1.alloc _).heap.size;rw [size_alloc];omega) (nm _ (by omega))).trans (cell_up (o:=.cells #[.string p] 9) cp),(c.cell (by show _<(W1.alloc _).heap.size;rw [size_alloc];omega) (nm _ (by omega))).trans (cell_up (o:=.cells #[.string p] 9) ct)⟩)
 have HCk:=fun w=>lh (dclock_any tm w);rw [hsz] at HD;clear x1 x2 h O E ca ca2 HM;subst hW1;generalize D.act (.write p a tm)=R at *;generalize clockB tm=cb at *;go_enter func58,ntmps58;go_wp2_with fail
 go_region_held (fun w'=>w'.cell? ⟨w.heap.size,0,none⟩=some (.string p)/\w'.cell? ⟨w.heap.size+2,0,none⟩=some (.int .i64 tm)) (first | go_keep | exact HS.out _ (by assumption)) (first
  | (go_at_call 127;refine (HCk _).out.mono ?_;rintro e w' ⟨rfl,rfl⟩)
  | (go_at_call 122;refine HD.out.mono ?_;rintro e w9 ⟨⟨rfl,h1⟩,h2⟩))
 all_goals (go_wp2_with fail;go_ret;exact ⟨rfl,by assumption⟩)
end
section
theorem New_bad (n:Int) (w:World) (h:n<1024\/1048576<n) :
  Calls prog 41 #[.int .i64 n] w fun e w'=>e=.returned (.tuple #[.pointer none,.int .i64 2])/\w'=w:=by
 rcases h with h | h
 ·go_enter func41,ntmps41;go_wp2_with fail;go_ret2;exact ⟨rfl,rfl⟩
 ·have h2:¬ n<1024:=by omega
  go_enter func41,ntmps41;go_wp2_with fail;go_ret2;exact ⟨rfl,rfl⟩
theorem new_end {w W2 w3:World} {room:Nat} (h2:W2=(w.alloc (.map #[] 0)).alloc (.cells #[.map (some w.heap.size),.int .i64 0,.int .i64 (room:Nat)] 144 (0,0))) (t3:TreeAt w3 (W2.heap.size+1) W2.heap.size [] room) (x3:Ext W2 w3) :
  ∃ M,DkAt (w3.alloc (.cells #[.pointer (some ⟨w.heap.size+1,0,none⟩),.pointer (some ⟨w.heap.size+2+1,0,none⟩),.slice none 0 0,.bool false,.int .i64 0] 109 (0,0))) w3.heap.size M [] (Dk.made room) /\
   Ext w (w3.alloc (.cells #[.pointer (some ⟨w.heap.size+1,0,none⟩),.pointer (some ⟨w.heap.size+2+1,0,none⟩),.slice none 0 0,.bool false,.int .i64 0] 109 (0,0)))/\∀ b∈M,w.heap.size<=b:=by
 have hs:W2.heap.size=w.heap.size+2:=by rw [h2,size_alloc,size_alloc]
 have x2:Ext w W2:=by rw [h2];exact ((Ext.refl w).alloc _).alloc _
 have t2:TreeAt W2 (w.heap.size+1) w.heap.size [] room:=by rw [h2];exact TreeAt.fresh w room
 have hx:=x3.size;have l3:=lt_of_tree t3;rw [hs] at t3 l3;refine ⟨_,⟨w.heap.size+1,w.heap.size,w.heap.size+2+1,w.heap.size+2,.slice none 0 0,[],⟨block_alloc_new _ _,(t2.ext x3).ext ((Ext.refl _).alloc _),t3.ext ((Ext.refl _).alloc _),World.ownsRow_nil _ _ _ _,fun k v x h=>(by simp at h),?_,fun b hb=>(by simp [Value.ownBlock] at hb),fun b hb=>(by cases hb)⟩,rfl⟩,(x2.trans x3).alloc _,?_⟩
 ·simp only [List.nodup_cons,List.mem_cons,List.not_mem_nil,not_or,or_false,not_false_eq_true,List.nodup_nil,and_true];omega
 ·intro b hb;rcases List.mem_append.1 hb with hb | hb
  ·simp only [List.mem_cons,List.not_mem_nil,or_false] at hb;omega
  ·have:=mem_rowB.1 hb;simp [Value.ownBlock] at this
set_option maxRecDepth 100000 in
set_option maxHeartbeats 2000000 in
theorem New_ok (room:Nat) (w:World) (h1:1024<=room) (h2:room<=1048576) :
  Calls prog 41 #[.int .i64 (room:Nat)] w fun e w'=>∃ d M,e=.returned (.tuple #[.pointer (some ⟨d,0,none⟩),.int .i64 0])/\DkAt w' d M [] (Dk.made room)/\Ext w w'/\∀ b∈M,w.heap.size<=b:=by
 have hmm:=@run_makeMap prog;obtain ⟨W2,hW2⟩:∃ W2,W2=(w.alloc (.map #[] 0)).alloc (.cells #[.map (some w.heap.size),.int .i64 0,.int .i64 (room:Nat)] 144 (0,0)):=⟨_,rfl⟩;have HC:=lh (dclone_any (w.heap.size+1) w.heap.size [] room W2 (hW2▸TreeAt.fresh w room));have HEnd:=fun w3 t3 x3=>lh (new_end (w:=w) (W2:=W2) (w3:=w3) (room:=room) hW2 t3 x3);have hs:W2.heap.size=w.heap.size+2:=by rw [hW2,size_alloc,size_alloc]
 rw [hs] at HC;clear hs;subst hW2;go_enter func41,ntmps41;go_wp2_with fail;refine HC.out.mono ?_;rintro e w3 ⟨rfl,t3,x3⟩;have HE:=HEnd w3 (by rw [size_alloc,size_alloc];exact t3) x3;clear t3 x3 HEnd hmm;go_wp2_with fail;go_ret2;obtain ⟨M,h1,h2,h3⟩:=HE.out;exact ⟨_,M,rfl,h1,h2,h3⟩
theorem Used_any {w:World} {d:Nat} {M I:List Nat} {D:Dk} (h:DkAt w d M I D):Calls prog 32 #[.pointer (some ⟨d,0,none⟩)] w fun e w'=>e=.returned (.int .i64 (usedL D.live:Nat))/\w'=w:=by
 obtain ⟨lt,lm,st,sm,lg,vs,h,hM⟩:=h;have c0:w.cell? ⟨d,0,none⟩=some (.pointer (some ⟨lt,0,none⟩)):=cellB h.blk;have c1:w.cell? ⟨lt,1,none⟩=some (.int .i64 (usedL D.live:Nat)):=cellB h.live.blk;have H1:=lh (dis_any d _ w c0);clear h hM;go_enter func32,ntmps32;go_wp2_with fail;refine H1.out.mono ?_;rintro e w1 ⟨rfl,hw1⟩;obtain rfl:=hw1.symm;clear hw1;go_wp2_with fail;go_ret;exact ⟨rfl,rfl⟩
end
section
open Go.Sort (Holds)
open Go.Maps (has_true_of_atKey)
def readE (l:Nodes) (p:ByteArray):Nd×Int:=if mayB p then (match findA l p with | some n=>(n,0) | none=>(nd0,5)) else (nd0,10)
theorem ret_node {w:World} {fn:Func} {p u:Tmp} (h:fn.results=#[.cell p 57,.tmp u]) (tmps:Array Value) (g:Nat) (k tm:Int) (d e:ByteArray) (hp:tmps.getD p undef=.pointer (some ⟨g,0,none⟩)) (hg:w.heap[g]?=some (.cells #[.int .i64 k,.string d,.string e,.int .i64 tm] 57 (0,0))) :
  (results fn tmps).run prog w=.ok (.tuple #[.agg #[.int .i64 k,.string d,.string e,.int .i64 tm],tmps.getD u undef]) w :=
 results_row1 h tmps w g 57 _ (0,0) _ hp hg underlying57 rfl (by kernel_rfl)
theorem set4 {w:World} {g:Nat} {a b c d a' b' c' d':Value} {t:TypeId} (h:w.heap[g]?=some (.cells #[a,b,c,d] t (0,0))) :
  ((((w.setCell ⟨g,0,none⟩ a').setCell ⟨g,1,none⟩ b').setCell ⟨g,2,none⟩ c').setCell ⟨g,3,none⟩ d').heap[g]?=some (.cells #[a',b',c',d'] t (0,0)):=by
 rw [setCellB (setCellB (setCellB (setCellB h)))];rfl
theorem set4_alloc {w:World} {o:Obj} {g:Nat} {a b c d a' b' c' d':Value} {t:TypeId} (h:w.heap[g]?=some (.cells #[a,b,c,d] t (0,0))) :
  (((((w.setCell ⟨g,0,none⟩ a').setCell ⟨g,1,none⟩ b').setCell ⟨g,2,none⟩ c').setCell ⟨g,3,none⟩ d').alloc o).heap[g]?=some (.cells #[a',b',c',d'] t (0,0)) :=
 (block_alloc_old (ltB (set4 h))).trans (set4 h)
theorem set4_ext {w0 w:World} {g:Nat} {a' b' c' d':Value} (x:Ext w0 w) (h:w0.heap.size<=g):Ext w0 ((((w.setCell ⟨g,0,none⟩ a').setCell ⟨g,1,none⟩ b').setCell ⟨g,2,none⟩ c').setCell ⟨g,3,none⟩ d') :=
 (((x.setCell h _).setCell h _).setCell h _).setCell h _
set_option maxRecDepth 100000 in
set_option maxHeartbeats 2000000 in
theorem Read_any {w:World} {d:Nat} {M I:List Nat} {D:Dk} (h:DkAt w d M I D) (E:Env w) (p:ByteArray) (hp:p.size<4294967281) :
  Calls prog 29 #[.pointer (some ⟨d,0,none⟩),.string p] w fun e w'=>e=.returned (.tuple #[nv (readE D.live p).1,.int .i64 (readE D.live p).2])/\Ext w w':=by
 have HR:=lh (show readE D.live p=if mayB p then (match findA D.live p with | some n=>(n,(0:Int)) | none=>(nd0,5)) else (nd0,10) from rfl);obtain ⟨lt,lm,st,sm,lg,vs,h,hM⟩:=h;obtain ⟨W1,hW1⟩:∃ W1,W1=w.alloc (.cells #[.int .i64 0,.string ⟨#[]⟩,.string ⟨#[]⟩,.int .i64 0] 57 (0,0)):=⟨_,rfl⟩;have x1:Ext w W1:=hW1▸(Ext.refl w).alloc _;have hb1:=(x1.block (ltB h.blk)).trans h.blk;have c0:W1.cell? ⟨d,0,none⟩=some (.pointer (some ⟨lt,0,none⟩)):=cellB hb1;have H1:=lh (dis_any d _ W1 c0);have H2:=lh (may_any p W1 hp (E.ext x1));have HX:=lh x1;have HI:=lh h;have HB:=lh (show W1.heap[w.heap.size]?=some (.cells #[.int .i64 0,.string ⟨#[]⟩,.string ⟨#[]⟩,.int .i64 0] 57 (0,0)) from by rw [hW1];exact block_alloc_new _ _);have hp2:p.size<=maxLen:=by unfold maxLen;omega
 have hdl:=ltB h.blk;clear h hM x1 hb1 c0 E;subst hW1;generalize readE D.live p=R at *
 cases hm:mayB p with
 | false =>
  have HR2:=lh (show R=(nd0,10) from by rw [HR.out,hm];rfl);rw [hm] at H2;go_enter func29,ntmps29;go_wp2_with fail;refine H1.out.mono ?_;rintro e w1 ⟨rfl,hw1⟩;obtain rfl:=hw1.symm;clear hw1;go_wp2_with fail;refine H2.out.mono ?_;rintro e w2 ⟨rfl,x2⟩;have hb2:=(x2.block (ltB HB.out)).trans HB.out;have b0:w2.cell? ⟨w.heap.size,0,none⟩=some (.int .i64 0):=cellB hb2;have b1:w2.cell? ⟨w.heap.size,1,none⟩=some (.string ⟨#[]⟩):=cellB hb2;have b2:w2.cell? ⟨w.heap.size,2,none⟩=some (.string ⟨#[]⟩):=cellB hb2;have b3:w2.cell? ⟨w.heap.size,3,none⟩=some (.int .i64 0):=cellB hb2;have g0:∀ k,w2.frozen? ⟨w.heap.size,k,none⟩=false:=fun k=>frozenB hb2;have HX2:=lh (HX.out.trans x2);have HB2:=lh hb2;clear x2 hb2;go_wp2_with fail;rw [HR2.out];exact bodyPost_ret (ret_node rfl _ w.heap.size 0 0 ⟨#[]⟩ ⟨#[]⟩ rfl (set4 HB2.out)) rfl ⟨rfl,set4_ext HX2.out (Nat.le_refl _)⟩
 | true =>
  rw [hm] at H2
  cases hf:findA D.live p with
  | none =>
   have HR2:=lh (show R=(nd0,5) from by rw [HR.out,hm,hf];rfl);go_enter func29,ntmps29;go_wp2_with fail;refine H1.out.mono ?_;rintro e w1 ⟨rfl,hw1⟩;obtain rfl:=hw1.symm;clear hw1;go_wp2_with fail;refine H2.out.mono ?_;rintro e w2 ⟨rfl,x2⟩;have hb2:=(x2.block (ltB HB.out)).trans HB.out;have x02:=HX.out.trans x2;have t2:=HI.out.live.ext x02;have bd:=(x02.block hdl).trans HI.out.blk;have a0:w2.cell? ⟨d,0,none⟩=some (.pointer (some ⟨lt,0,none⟩)):=cellB bd;have a1:w2.cell? ⟨lt,0,none⟩=some (.map (some lm)):=cellB t2.blk;have L:=t2.map.look_ok p hp2;rw [hf] at L;have L2:(Instr.lookup 142 (.map (some lm)) (.string p) true).run prog w2=.ok (.tuple #[.agg #[.int .i64 0,.string ⟨#[]⟩,.string ⟨#[]⟩,.int .i64 0],.bool false]) w2:=L;have b0:w2.cell? ⟨w.heap.size,0,none⟩=some (.int .i64 0):=cellB hb2;have b1:w2.cell? ⟨w.heap.size,1,none⟩=some (.string ⟨#[]⟩):=cellB hb2;have b2:w2.cell? ⟨w.heap.size,2,none⟩=some (.string ⟨#[]⟩):=cellB hb2;have b3:w2.cell? ⟨w.heap.size,3,none⟩=some (.int .i64 0):=cellB hb2;have g0:∀ k,w2.frozen? ⟨w.heap.size,k,none⟩=false:=fun k=>frozenB hb2;have hlt:w.heap.size<w2.heap.size:=ltB hb2;have HX3:=lh x02;have HB3:=lh hb2;clear L x2 hb2 x02 t2 bd hf;go_wp2_with fail;rw [HR2.out];exact bodyPost_ret (ret_node rfl _ w.heap.size 0 0 ⟨#[]⟩ ⟨#[]⟩ rfl (set4_alloc HB3.out)) rfl ⟨rfl,(set4_ext HX3.out (Nat.le_refl _)).alloc _⟩
  | some n =>
   obtain ⟨k7,d7,g7,t7⟩:=n;have HR2:=lh (show R=(⟨k7,d7,g7,t7⟩,0) from by rw [HR.out,hm,hf];rfl);go_enter func29,ntmps29;go_wp2_with fail;refine H1.out.mono ?_;rintro e w1 ⟨rfl,hw1⟩;obtain rfl:=hw1.symm;clear hw1;go_wp2_with fail;refine H2.out.mono ?_;rintro e w2 ⟨rfl,x2⟩;have hb2:=(x2.block (ltB HB.out)).trans HB.out;have x02:=HX.out.trans x2;have t2:=HI.out.live.ext x02;have bd:=(x02.block hdl).trans HI.out.blk;have a0:w2.cell? ⟨d,0,none⟩=some (.pointer (some ⟨lt,0,none⟩)):=cellB bd;have a1:w2.cell? ⟨lt,0,none⟩=some (.map (some lm)):=cellB t2.blk;have L:=t2.map.look_ok p hp2;rw [hf] at L;have L2:(Instr.lookup 142 (.map (some lm)) (.string p) true).run prog w2=.ok (.tuple #[.agg #[.int .i64 k7,.string d7,.string g7,.int .i64 t7],.bool true]) w2:=L;have b0:w2.cell? ⟨w.heap.size,0,none⟩=some (.int .i64 0):=cellB hb2;have b1:w2.cell? ⟨w.heap.size,1,none⟩=some (.string ⟨#[]⟩):=cellB hb2;have b2:w2.cell? ⟨w.heap.size,2,none⟩=some (.string ⟨#[]⟩):=cellB hb2;have b3:w2.cell? ⟨w.heap.size,3,none⟩=some (.int .i64 0):=cellB hb2;have g0:∀ k,w2.frozen? ⟨w.heap.size,k,none⟩=false:=fun k=>frozenB hb2;have hlt:w.heap.size<w2.heap.size:=ltB hb2;have HX3:=lh x02;have HB3:=lh hb2;clear L x2 hb2 x02 t2 bd hf;go_wp2_with fail;rw [HR2.out];exact bodyPost_ret (ret_node rfl _ w.heap.size k7 t7 d7 g7 rfl (set4_alloc HB3.out)) rfl ⟨rfl,(set4_ext HX3.out (Nat.le_refl _)).alloc _⟩
end
section
theorem take_next {α:Type} {l:List α} {k:Nat} {a:α} (h:l[k]?=some a):l.take (k+1)=l.take k++[a]:=by rw [List.take_add_one,h];rfl
structure DkRun (k:Nat) (D:Dk):Prop where
 ok:DkOk D
 len:D.log.length<=k
 lo:-(k:Int)<=D.left
 hi:D.left<=9223372036854775807
 again:crashL D.room D.lasts D.log (List.replicate D.log.length 1)=D.live
theorem DkRun.mono {k m:Nat} {D:Dk} (R:DkRun k D) (h:k<=m):DkRun m D:=⟨R.ok,Nat.le_trans R.len h,by have:=R.lo;omega,R.hi,R.again⟩
theorem DkRun.made {room:Nat} (h1:1024<=room) (h2:room<=1048576):DkRun 0 (Dk.made room) :=
 ⟨DkOk.made h1 h2,Nat.le_refl _,by show -((0:Nat):Int)<=(0:Int);omega,by show (0:Int)<=_;omega,rfl⟩
theorem again_snoc {room:Nat} {l l':Nodes} {log:List Eff} (x:Eff) (h:crashL room l log (List.replicate log.length 1)=l'):crashL room l (log++[x]) (List.replicate (log++[x]).length 1)=(effE l' room full x).2:=by
 have hs:=crashL_step (room:=room) log.length (log++[x]) (List.replicate (log.length+1) 1) l x 1 (by simp) (by rw [List.getElem?_replicate,if_pos (by omega)]);rw [List.take_of_length_le (by simp),List.take_of_length_le (by simp),List.take_left,List.take_replicate,Nat.min_eq_left (by omega),h] at hs;rw [List.length_append,List.length_singleton,hs];rfl
theorem DkRun.act {k:Nat} {D:Dk} (R:DkRun k D) (x:Eff):DkRun (k+1) (D.act x).2:=by
 have h0:=R.ok.act x;have hlo:=R.lo;have hhi:=R.hi;unfold Dk.act at h0 ⊢;split
 ·exact R.mono (by omega)
 ·rename_i h1;rw [if_neg h1] at h0;split
  ·rename_i h2;rw [if_pos h2] at h0;split
   ·rename_i h3;rw [if_pos h3] at h0;split
    ·rename_i h4;rw [if_pos h4] at h0;exact ⟨h0,by have:=R.len;simp;omega,by show _<=D.left - 1;omega,by show D.left - 1<=_;omega,again_snoc x R.again⟩
    ·exact R.mono (by omega)
   ·exact R.mono (by omega)
  ·exact R.mono (by omega)
theorem usedL_take {l:Nodes} {k:Nat} {x:ByteArray×Nd} (h:l[k]?=some x):usedL (l.take (k+1))=usedL (l.take k)+(64+x.2.data.size):=by
 rw [take_next h,usedL_append];rfl
theorem usedL_take_le (l:Nodes) (k:Nat):usedL (l.take k)<=usedL l:=by
 have:=usedL_append (l.take k) (l.drop k);rw [List.take_append_drop] at this;omega
end
section
end
section
def withStep (p:ByteArray) (n:Nd) (s:Bool×Nodes) (x:ByteArray×Nd):Bool×Nodes :=
 if !s.1&&decide (cmpL p.toList x.1.toList<=0) then (true,if x.1=p then s.2++[(p,n)] else s.2++[(p,n)]++[x]) else (s.1,if x.1=p then s.2 else s.2++[x])
def withF (l:Nodes) (p:ByteArray) (n:Nd):Bool×Nodes:=l.foldl (withStep p n) (false,[])
theorem withF_next {l:Nodes} {p:ByteArray} {n:Nd} {k:Nat} {x:ByteArray×Nd} (h:l[k]?=some x):withF (l.take (k+1)) p n=withStep p n (withF (l.take k) p n) x:=by
 unfold withF;rw [take_next h,List.foldl_append];rfl
theorem with_done {p:ByteArray} {n:Nd}:∀ (l o:Nodes),(∀ x∈l,x.1≠p)->l.foldl (withStep p n) (true,o)=(true,o++l)
 | [],o,_=>by simp
 | x::r,o,h=>by
  rw [List.foldl_cons,show withStep p n (true,o) x=(true,o++[x]) from by unfold withStep;simp [h x List.mem_cons_self],with_done r _ fun y hy=>h y (List.mem_cons_of_mem _ hy)];simp
theorem with_go {p:ByteArray} {n:Nd}:∀ (l o:Nodes),Sorted l->(let s:=l.foldl (withStep p n) (false,o);if s.1 then s.2 else s.2++[(p,n)])=o++insS l p n
 | [],o,_=>by simp [insS]
 | (q,m)::r,o,h=>by
  obtain ⟨h1,h2⟩:=List.pairwise_cons.1 h;rw [List.foldl_cons];by_cases hpq:p=q
  ·subst hpq;rw [show withStep p n (false,o) (p,m)=(true,o++[(p,n)]) from by unfold withStep;simp [cmpL_self]];rw [with_done r _ fun x hx e=>cmp_lt_ne (h1 x hx) e.symm];simp [insS]
  ·by_cases hlt:cmpL p.toList q.toList=-1
   ·rw [show withStep p n (false,o) (q,m)=(true,o++[(p,n)]++[(q,m)]) from by unfold withStep;simp [hlt,Ne.symm hpq]]
    rw [with_done r _ fun x hx e=>by
     have h3:=cmpL_trans _ _ _ hlt (h1 x hx);rw [e,cmpL_self] at h3
     cases h3]
    simp [insS,hpq,hlt]
   ·have hgt:¬ cmpL p.toList q.toList<=0:=by
     rcases cmpL_vals p.toList q.toList with e | e | e
     ·exact absurd e hlt
     ·exact absurd (ba_ext (cmpL_zero _ _ e)) hpq
     ·rw [e];decide
    rw [show withStep p n (false,o) (q,m)=(false,o++[(q,m)]) from by unfold withStep;simp [hgt,Ne.symm hpq]];have:=with_go (p:=p) (n:=n) r (o++[(q,m)]) h2;rw [this];simp [insS,hpq,hlt]
theorem withF_end {l:Nodes} (h:Sorted l) (p:ByteArray) (n:Nd):(if (withF l p n).1 then (withF l p n).2 else (withF l p n).2++[(p,n)])=insS l p n:=by
 have:=with_go (p:=p) (n:=n) l [] h;rw [List.nil_append] at this;exact this
theorem withF_len (p:ByteArray) (n:Nd):∀ (l:Nodes) (s:Bool×Nodes),(l.foldl (withStep p n) s).2.length<=s.2.length+l.length+(if s.1 then 0 else 1)
 | [],s=>by simp
 | x::r,s=>by
  rw [List.foldl_cons];have:=withF_len p n r (withStep p n s x)
  have h2:(withStep p n s x).2.length+(if (withStep p n s x).1 then 0 else 1)<=s.2.length+1+(if s.1 then 0 else 1):=by
   unfold withStep;split
   ·rename_i h;simp only [Bool.and_eq_true,Bool.not_eq_true'] at h;rw [h.1];by_cases e:x.1=p <;> simp [e]
   ·by_cases e:x.1=p <;> simp [e] <;> split <;> omega
  simp only [List.length_cons];omega
theorem insS_len (l:Nodes) (p:ByteArray) (n:Nd):(insS l p n).length<=l.length+1:=by
 induction l with
 | nil=>simp [insS]
 | cons y r ih =>
  obtain ⟨q,m⟩:=y;unfold insS;split
  ·simp
  ·split <;> simp;omega
def idxA (l:Nodes) (p:ByteArray):Nat:=l.findIdx fun x=>decide (x.1=p)
theorem idx_some:∀ {l:Nodes} {p:ByteArray} {n:Nd},findA l p=some n->l[idxA l p]?=some (p,n)
 | [],_,_,h=>by cases h
 | (k,m)::r,p,n,h=>by
  unfold findA at h;unfold idxA;rw [List.findIdx_cons];by_cases e:k=p
  ·rw [if_pos e] at h
   cases h
   subst e;simp
  ·rw [if_neg e] at h;have:=idx_some (l:=r) h
   simpa [e,idxA] using this
theorem idx_first {l:Nodes} {p:ByteArray} {k:Nat} {x:ByteArray×Nd} (h:l[k]?=some x) (hx:x.1=p) (hb:∀ y∈l.take k,y.1≠p):findA l p=some x.2/\idxA l p=k:=by
 induction l generalizing k with
 | nil=>simp at h
 | cons y r ih =>
  obtain ⟨q,m⟩:=y
  cases k with
  | zero =>
   simp at h;subst h;simp only at hx;subst hx;exact ⟨by unfold findA;rw [if_pos rfl],by unfold idxA;rw [List.findIdx_cons];simp⟩
  | succ k =>
   have hq:q≠p:=hb (q,m) (by simp);obtain ⟨h1,h2⟩:=ih (k:=k) (by simpa using h) fun y hy=>hb y (by simp [hy]);refine ⟨by unfold findA;rw [if_neg hq];exact h1,?_⟩;unfold idxA at h2 ⊢;rw [List.findIdx_cons];simp [hq,h2]
theorem idx_none {l:Nodes} {p:ByteArray} (hb:∀ y∈l,y.1≠p):findA l p=none:=findA_none hb
theorem drop_many:∀ (N o:Nodes),N.foldl (fun o x=>dropA o x.1) o=o.filter fun y=>!N.any fun z=>decide (y.1=z.1)
 | [],o=>by simp only [List.foldl_nil,List.any_nil,Bool.not_false];exact (List.filter_eq_self.2 fun _ _=>rfl).symm
 | x::r,o=>by
  rw [List.foldl_cons,drop_many r];unfold dropA;rw [List.filter_filter];refine List.filter_congr fun y _=>?_;by_cases e:y.1=x.1
  ·simp [e]
  ·simp [e]
def outM (l:Nodes) (a b:ByteArray) (k:Nat):Nodes:=(movL (l.take k) a).foldl (fun o x=>dropA o x.1) (dropA l b)
def outN (l:Nodes) (a b:ByteArray) (k:Nat):Nodes:=((movL (l.take k) a).map (newX a b)).foldl (fun o x=>insS o x.1 x.2) (restL l a b)
theorem movL_next {l:Nodes} {a:ByteArray} {k:Nat} {x:ByteArray×Nd} (h:l[k]?=some x):movL (l.take (k+1)) a=movL (l.take k) a++(if movedB a x.1 then [x] else []):=by
 unfold movL;rw [take_next h,List.filter_append];by_cases e:movedB a x.1=true <;> simp [e]
theorem outM_start (l:Nodes) (a b:ByteArray):outM l a b 0=dropA l b:=by simp [outM,movL]
theorem outM_skip {l:Nodes} {a b:ByteArray} {k:Nat} {x:ByteArray×Nd} (h:l[k]?=some x) (hm:movedB a x.1=false):outM l a b (k+1)=outM l a b k:=by
 unfold outM;rw [movL_next h,hm];simp
theorem outM_take {l:Nodes} {a b:ByteArray} {k:Nat} {x:ByteArray×Nd} (h:l[k]?=some x) (hm:movedB a x.1=true):outM l a b (k+1)=dropA (outM l a b k) x.1:=by
 unfold outM;rw [movL_next h,hm,if_pos rfl,List.foldl_append];rfl
theorem outM_end (l:Nodes) (a b:ByteArray):outM l a b l.length=restL l a b:=by
 unfold outM restL;rw [List.take_length,drop_many];refine List.filter_congr fun y hy=>?_;have hyl:=(mem_drop.1 hy).1
 congr 1
 rw [Bool.eq_iff_iff,List.any_eq_true];constructor
 ·rintro ⟨z,hz,e⟩;rw [decide_eq_true_eq] at e;rw [e];exact (mem_mov.1 hz).2
 ·intro h;exact ⟨y,mem_mov.2 ⟨hyl,h⟩,decide_eq_true rfl⟩
theorem outN_start (l:Nodes) (a b:ByteArray):outN l a b 0=restL l a b:=by simp [outN,movL]
theorem outN_skip {l:Nodes} {a b:ByteArray} {k:Nat} {x:ByteArray×Nd} (h:l[k]?=some x) (hm:movedB a x.1=false):outN l a b (k+1)=outN l a b k:=by
 unfold outN;rw [movL_next h,hm];simp
theorem outN_take {l:Nodes} {a b:ByteArray} {k:Nat} {x:ByteArray×Nd} (h:l[k]?=some x) (hm:movedB a x.1=true):outN l a b (k+1)=insS (outN l a b k) (newP a b x.1) x.2:=by
 unfold outN;rw [movL_next h,hm,if_pos rfl,List.map_append,List.foldl_append];rfl
theorem outN_end (l:Nodes) (a b:ByteArray):outN l a b l.length=moveL l a b:=by
 unfold outN moveL;rw [List.take_length]
theorem outN_sorted {l:Nodes} (h:Sorted l) (a b:ByteArray) (k:Nat):Sorted (outN l a b k):=foldl_ins_sorted _ _ ((h.drop b).filter _)
theorem foldl_ins_len:∀ (N B:Nodes),(N.foldl (fun o x=>insS o x.1 x.2) B).length<=B.length+N.length
 | [],_=>by simp
 | x::N,B=>by
  rw [List.foldl_cons];have h1:=foldl_ins_len N (insS B x.1 x.2);have h2:=insS_len B x.1 x.2;simp only [List.length_cons];omega
theorem outN_len (l:Nodes) (a b:ByteArray) (k:Nat):(outN l a b k).length<=2*l.length:=by
 have h1:=foldl_ins_len ((movL (l.take k) a).map (newX a b)) (restL l a b);have h2:(restL l a b).length<=l.length:=Nat.le_trans (List.length_filter_le _ _) (List.length_filter_le _ _)
 have h3:(movL (l.take k) a).length<=l.length:=by
  unfold movL;refine Nat.le_trans (List.length_filter_le _ _) ?_;rw [List.length_take];omega
 rw [List.length_map] at h1;unfold outN;omega
theorem outM_len (l:Nodes) (a b:ByteArray) (k:Nat):(outM l a b k).length<=l.length:=by
 unfold outM;rw [drop_many];exact Nat.le_trans (List.length_filter_le _ _) (List.length_filter_le _ _)
def mayK (l:Nodes) (a b:ByteArray) (k:Nat):Prop:=∀ x∈l.take k,movedB a x.1=true->mayB (newP a b x.1)=true
theorem may_all {l:Nodes} {a b:ByteArray} (h:mayK l a b l.length):(l.all fun x=>!withinB x.1 a||mayB (newP a b x.1))=true:=by
 rw [List.all_eq_true];intro x hx
 cases hw:withinB x.1 a with
 | false=>rfl
 | true =>
  have:=h x (by rw [List.take_length];exact hx) (by unfold movedB;rw [hw,Bool.or_true]);rw [this];rfl
theorem may_not {l:Nodes} {a b:ByteArray} (hb:mayB b=true) {x:ByteArray×Nd} (hx:x∈l) (hm:movedB a x.1=true) (hn:mayB (newP a b x.1)=false):(l.all fun x=>!withinB x.1 a||mayB (newP a b x.1))=false:=by
 rw [List.all_eq_false];refine ⟨x,hx,?_⟩
 have hw:withinB x.1 a=true:=by
  cases hw:withinB x.1 a with
  | true=>rfl
  | false =>
   unfold movedB at hm;rw [hw,Bool.or_false,decide_eq_true_eq] at hm;rw [hm,newP_self,hb] at hn
   cases hn
 rw [hw,hn];decide
structure RE where
 k:Int
 p:ByteArray
 q:ByteArray
 data:ByteArray
 time:Int
def RE.eff (x:RE):Eff:=if x.k=1 then .write x.p x.data x.time else if x.k=2 then .add x.p x.data else if x.k=3 then .mkdir x.p else if x.k=4 then .link x.p x.data x.time else if x.k=5 then .rename x.p x.q else .remove x.p
end
end Go.Proofs.YtldppmjjgljinaaGreatDoor
