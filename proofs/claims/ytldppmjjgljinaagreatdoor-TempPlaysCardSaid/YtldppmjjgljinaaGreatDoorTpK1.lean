import Derived.Test.YtldppmjjgljinaaGreatDoorTpH1
import Derived.Test.YtldppmjjgljinaaGreatDoorTpJ3
import Derived.Test.YtldppmjjgljinaaGreatDoorTpE2
import Derived.Test.YtldppmjjgljinaaGreatDoorTpI1
import Derived.Test.YtldppmjjgljinaaGreatDoorTpE1
import Derived.Test.YtldppmjjgljinaaGreatDoorTpB2
open Go.Proofs.Tryz
namespace Go.Proofs.YtldppmjjgljinaaGreatDoor
section
open Go.RowKit Go.Shelf
attribute [local go_sem] Oper.semAt_some
theorem conv_row {w:World} {base:Nat} {v:Value} {l:List UInt8} (h:w.ownsRow base 5 1 v l.length (l.map bv)) :
  (convert 22 9 v).run prog w=.ok (.string (bytesB l)) w:=by
 obtain ⟨a,cap,rfl,h1,_,hz,hc⟩:=row_cells h
 cases a with
 | none =>
  obtain ⟨hl,rfl⟩:=hz rfl;have:l=[]:=List.length_eq_zero_iff.1 hl;subst this;rw [List.length_nil,run_convert_bytes_string w 22 9 5 none 0 0 underlying22 (by kernel_rfl) underlying9];rfl
 | some A =>
  by_cases h0:l=[]
  ·subst h0;exact run_convert_bytes_back w 22 9 5 A cap [] underlying22 (by kernel_rfl) underlying9 (fun j hj=>absurd hj (Nat.not_lt_zero j))
  ·have hp:0<l.length:=List.length_pos_iff.2 h0;obtain ⟨g,e,_⟩:=hc 0 (bv l[0]) (by rw [List.getElem?_map,List.getElem?_eq_getElem hp];rfl)
   cases e
   exact run_convert_bytes_back w 22 9 5 ⟨g,0,none⟩ cap l underlying22 (by kernel_rfl) underlying9 (fun j hj=>by
    obtain ⟨g',e,_,_,hc'⟩:=hc j (bv l[j]) (by rw [List.getElem?_map,List.getElem?_eq_getElem hj];rfl)
    cases e
    rw [append_kw.add_off,Nat.zero_add]
    exact hc')
theorem built_eff1 (a b:ByteArray) (t:Int):prog.built 163 [(0,.int .i64 1),(1,.string a),(3,.string b),(4,.int .i64 t)]=some #[.int .i64 1,.string a,.string ⟨#[]⟩,.string b,.int .i64 t,.int .i64 0,.bool false]:=by
 kernel_rfl
theorem built_eff6 (a:ByteArray):prog.built 163 [(0,.int .i64 6),(1,.string a)]=some #[.int .i64 6,.string a,.string ⟨#[]⟩,.string ⟨#[]⟩,.int .i64 0,.int .i64 0,.bool false]:=by
 kernel_rfl
set_option maxRecDepth 100000 in
set_option maxHeartbeats 2000000 in
theorem rsave23_any (w:World) (p g:Nat) (D cs:Array Value) (bl:Value) (J:List Nat) (r:RecS) (N:Nat) (name:ByteArray) (ps:List (Option (List UInt8))) (h:RDrIn w p g D cs bl J r N name ps) (ho:PsOk N r.hs ps) (hnz:name.size<=4294967200)
  (d:Nat) (M I:List Nat) (K:Dk) (hd:RkAt w d M I K) (O:DoFit K) (ha:p∉M) :
  Calls prog 53 #[.pointer (some ⟨p,0,none⟩),.pointer (some ⟨d,0,none⟩)] w (RkPost w d M I (K.act (.write name (bytesB (farL N ps)) r.time))):=by
 have hfl:=farL_len ho;have hN:=h.good.small
 have HFr:=lh (show Calls prog 118 #[.pointer (some ⟨p,0,none⟩)] w.drew (fun e w2=>∃ u,e=.returned u/\Ext w w2/\(convert 22 9 u).run prog w2=.ok (.string (bytesB (farL N ps))) w2) from
  (rfar23_any w.drew p g D cs bl J r N name ps (RDrIn.ext h (Ext.refl w).drew) ho).mono fun e w2 ⟨u,he,hh⟩=>by
   obtain ⟨h1,h2⟩:=hh.out
   exact ⟨u,he,(Ext.refl w).drew.trans h2,conv_row (by rw [hfl];exact h1)⟩)
 have k27:w.cell? ⟨p,27,none⟩=some (.string name):=(cellB (k:=27) h.blk).trans h.c27;have k4:w.cell? ⟨p,4,none⟩=some (.int .i64 r.time):=(cellB (k:=4) h.blk).trans (rec_cell 4 h.rc.c4);have HW:=fun w2 (x:Ext w w2)=>lh (rdo_1 (hd.ext x) O name ⟨#[]⟩ (bytesB (farL N ps)) r.time hnz (by unfold bytesB;rw [size_mk,List.size_toArray,hfl];omega));have hpl:=ltB h.blk
 have HS:=lh (show ∀ w2 w',Ext w w2->Chg M w2 w'->w'.cell? ⟨p,27,none⟩=some (.string name)/\w'.cell? ⟨p,4,none⟩=some (.int .i64 r.time) from fun w2 w' x c=>by
  have hp2:=Nat.lt_of_lt_of_le hpl x.size
  exact ⟨((c.cell hp2 ha).trans (x.cell hpl)).trans k27,((c.cell hp2 ha).trans (x.cell hpl)).trans k4⟩)
 have HT:=lh (show ∀ w2 e w',Ext w w2->RkPost w2 d M I (K.act (.write name (bytesB (farL N ps)) r.time)) e w'->RkPost w d M I (K.act (.write name (bytesB (farL N ps)) r.time)) e w' from fun w2 e w' x ⟨h1,M',I',h2,h3⟩=>⟨h1,M',I',h2,(DkStep.of_ext x M I).trans h3⟩);generalize K.act (.write name (bytesB (farL N ps)) r.time)=R at *;have hbu:=built_eff1;generalize bytesB (farL N ps)=S at *;generalize r.time=tm at *;clear h ho hd O ha hfl;go_enter func53,ntmps53;go_upto_region 1 with (fail)
 go_region_held (fun w'=>w'.cell? ⟨p,27,none⟩=some (.string name)/\w'.cell? ⟨p,4,none⟩=some (.int .i64 tm)) (first | go_keep | exact HS.out _ _ (by assumption) (Chg.refl _ _) | exact HS.out _ _ (by assumption) (by assumption)) (first
  | (go_at_call 118;refine HFr.out.mono ?_;rintro e w2 ⟨u,rfl,x2,hcv⟩;have HW2:=HW _ x2)
  | (go_at_call 97;refine HW2.out.mono ?_;rintro e w9 h9;have h10:=HT.out _ _ _ (by assumption) h9;obtain ⟨rfl,M',I',h7,h8⟩:=h9;have h11:=h8.chg;clear h7 h8))
 all_goals (go_wp2_with fail;go_ret;exact ⟨rfl,h10.2⟩)
set_option maxRecDepth 100000 in
set_option maxHeartbeats 2000000 in
theorem rdrop23_any (w:World) (p:Nat) (D:Array Value) (t:TypeId) (name:ByteArray) (hb:w.heap[p]?=some (.cells D t (0,0))) (hn:D[27]?=some (.string name)) (hnz:name.size<=4294967200)
  (d:Nat) (M I:List Nat) (K:Dk) (hd:RkAt w d M I K) (O:DoFit K) (hl:K.live.length<=1048576) (hk:kindAt K.live name=0↔(readE K.live name).2=5) :
  Calls prog 54 #[.pointer (some ⟨p,0,none⟩),.pointer (some ⟨d,0,none⟩)] w (RkPost w d M I (dropR K name)):=by
 have k27:w.cell? ⟨p,27,none⟩=some (.string name):=(cellB (k:=27) hb).trans hn;have HD:=lh (show dropR K name=if kindAt K.live name=0 then (0,K) else K.act (.remove name) from by unfold dropR;simp only [hk]);have HW:=fun w2 (x:Ext w w2)=>lh (rdo_6 (hd.ext x) O name ⟨#[]⟩ ⟨#[]⟩ 0 hnz (by decide));have HK:=lh hd;have hbu:=built_eff6;obtain ⟨lt,ls,lv,sv,lg,hi,rfl,rfl⟩:=hd;have c0:w.cell? ⟨d,0,none⟩=some (.pointer (some ⟨lt,0,none⟩)):=cellB hi.blk;have HKd:=fun w' (x:Ext w w')=>lh (rkind_any lt lv K.live K.room name w' (hi.live.ext x) hl);generalize dropR K name=R at *;generalize kindAt K.live name=z at *;have q0:=After.cell c0;have q27:=After.cell k27;clear hk hi hnz O;go_enter func54,ntmps54;go_upto_region 1 with (fail)
 refine wp_region_after (by kernel_rfl) (by kernel_rfl) ?_
 iterate 8 go_big_quiet_step (fail)
 go_big_quiet_step ((go_at_call 121;exact After.same (HKd _ (After.x _)).out));go_big_quiet_step (fail);refine wpQuiet_nil ?_;rintro _ ⟨y,rfl⟩;have HY:=lh y.x;have kk:=q27 y;clear q0 q27 HKd;by_cases hz:z=0
 ·have e1:(z==0)=true:=by rw [beq_iff_eq];exact hz
  have HR2:=lh (HD.out.trans (if_pos hz));clear HD;go_wp2_with fail;go_ret;exact RkPost.still HK.out HY.out HR2.out
 ·have e1:(z==0)=false:=by rw [beq_eq_false_iff_ne];exact hz
  have HR2:=lh (HD.out.trans (if_neg hz));clear HD;go_wp2_with fail;refine (HW _ HY.out).out.mono ?_;rintro e w3 h3;have H3:=lh h3;obtain ⟨rfl,_⟩:=h3;go_wp2_with fail;go_ret;rw [HR2.out];obtain ⟨h1,M',I',h4,h5⟩:=H3.out;exact ⟨rfl,M',I',h4,(DkStep.of_ext HY.out _ _).trans h5⟩
end
section
open Go.RowKit Go.Shelf
def finG (F q:Nat) (ff:ByteArray->Option (List UInt8)) (pl:List UInt8->List Pl):Gen where
 At w M I:=∃ bf bp vf vp,FinIn w F bf bp q ff vf pl vp M I
 lt:=by
  rintro w M I ⟨bf,bp,vf,vp,h⟩;exact ⟨fun b hb=>h.lt b (.inl hb),fun b hb=>h.lt b (.inr hb)⟩
 kept:=by
  rintro w w' M I ⟨bf,bp,vf,vp,h⟩ hs hk;exact ⟨bf,bp,vf,vp,h.kept hs hk⟩
def rfinG (g:Nat) (X:List RF):Gen where
 At w M I:=M=[g]/\∃ v,RFinIn w g v X I
 lt:=by
  rintro w M I ⟨rfl,v,h⟩;exact ⟨fun b hb=>by rw [List.mem_singleton.1 hb];exact ltB h.blk,h.lt⟩
 kept:=by
  rintro w w' M I ⟨rfl,v,h⟩ hs hk;exact ⟨rfl,v,h.kept hs hk⟩
def rdraftG (p:Nat) (r:RecS) (N:Nat) (name:ByteArray) (ps:List (Option (List UInt8))):Gen where
 At w M I:=∃ g D cs bl,M=[g]/\RDrIn w p g D cs bl I r N name ps
 lt:=by
  rintro w M I ⟨g,D,cs,bl,rfl,h⟩;exact ⟨fun b hb=>(by rw [List.mem_singleton.1 hb];exact ltB h.row),fun b hb=>(h.imm b hb).2⟩
 kept:=by
  rintro w w' M I ⟨g,D,cs,bl,rfl,h⟩ hs hk;refine ⟨g,D,cs,bl,rfl,h.kept hs fun b hb hm=>hk b hb ?_⟩;rcases List.mem_cons.1 hm with rfl | hm
  ·exact .inl (by simp)
  ·exact .inr hm
abbrev Thing.rdraft (p:Nat) (r:RecS) (N:Nat) (name:ByteArray) (ps:List (Option (List UInt8))):Thing:=.gen (rdraftG p r N name ps)
theorem Things.addOld {w0 w w':World} {L:List Thing} {t:Thing} {M I:List Nat} (h:Things w0 w L) (x:Ext w w') (ht:ThAt w' M I t) (hM:∀ b∈M,w.heap.size<=b) (hI:∀ b∈I,w.heap.size<=b\/b<w0.heap.size):Things w0 w' (L++[t]):=by
 obtain ⟨x0,X,hX,hall,hp⟩:=h;refine ⟨x0.trans x,X++[(t,M,I)],by simp [hX],fun z hz=>?_,List.pairwise_append.2 ⟨hp,List.pairwise_singleton _ _,fun z hz y hy=>?_⟩⟩
 ·rcases List.mem_append.1 hz with hz | hz
  ·exact ⟨(hall z hz).1.kept x.size fun _ hb _=>x.block hb,(hall z hz).2⟩
  ·obtain rfl:=List.mem_singleton.1 hz;exact ⟨ht,fun b hb=>Nat.le_trans x0.size (hM b hb)⟩
 ·obtain rfl:=List.mem_singleton.1 hy;have hl:=(hall z hz).1.lt;have hm:=(hall z hz).2
  exact ⟨fun b hb hb2=>by have:=hl.1 b hb;have:=hM b hb2;omega,fun b hb hb2=>by
   have h1:=hl.1 b hb;have h2:=hm b hb
   rcases hI b hb2 with h3 | h3 <;> omega,fun b hb hb2=>by have:=hl.2 b hb;have:=hM b hb2;omega⟩
theorem Things.at {w0 w:World} {L:List Thing} {t:Thing} (h:Things w0 w L) (ht:t∈L):∃ M I,ThAt w M I t/\∀ b∈M,w0.heap.size<=b:=by
 obtain ⟨x0,X,rfl,hall,hp⟩:=h;obtain ⟨⟨t0,M,I⟩,hm,e⟩:=List.mem_map.1 ht;simp only at e;subst e;exact ⟨M,I,hall _ hm⟩
section
variable {w0 w:World} {A B L:List Thing}
theorem fnew_many (h:Things w0 w L):Calls prog 108 #[] w fun e w'=>∃ F,e=.returned (.pointer (some ⟨F,0,none⟩))/\Hid (Ext w w'/\Things w0 w' (L++[.gen (finG F 0 (fun _=>none) fun _=>[])])):=by
 refine (fin_new w).mono ?_;rintro e w' ⟨he,rfl⟩;have hx:Ext w (((w.alloc (.map #[] 0)).alloc (.map #[] 0)).alloc (.cells #[.map (some w.heap.size),.map (some (w.heap.size+1))] 213)):=(((Ext.refl w).alloc _).alloc _).alloc _;exact ⟨_,he,hx,h.add hx (t:=.gen (finG (w.heap.size+2) 0 (fun _=>none) fun _=>[])) ⟨_,_,_,_,FinIn.made w⟩ (fun b hb=>by simp at hb;omega) (fun b hb=>by simp at hb;omega)⟩
theorem rfnew_many (h:Things w0 w L):Things w0 (w.alloc (.cells #[.slice none 0 0] 179)) (L++[.gen (rfinG w.heap.size [])]):=by
 have hat:RFinIn (w.alloc (.cells #[.slice none 0 0] 179)) w.heap.size (.slice none 0 0) [] [] :=
  ⟨block_alloc_new _ _,World.ownsRow_nil _ _ _ _,fun x hx=>(by cases hx),fun b hb=>(by simp [Value.ownBlock] at hb),fun x hx=>(by cases hx),by simp,fun b hb=>(by cases hb)⟩
 exact h.add ((Ext.refl w).alloc _) (t:=.gen (rfinG w.heap.size [])) (M:=[w.heap.size]) (I:=[]) ⟨rfl,_,hat⟩ (fun b hb=>by simp at hb;omega) (fun b hb=>by cases hb)
theorem fadd_many {F q:Nat} {ff:ByteArray->Option (List UInt8)} {pl:List UInt8->List Pl} (h:Things w0 w (A++.gen (finG F q ff pl)::B)) (R:FinRel ff pl) (hq:q<=4000) (nm:ByteArray) (hnm:nm.size<=1000000) (T:ShaTabs w) (l:List UInt8) (v:Value) (hv:BytesOff w.heap.size w v l) (ho:∀ a n c,v=.slice (some a) n c->0<n->a.block<w0.heap.size) (hl:l.length<=4096) :
  Calls prog 109 #[.pointer (some ⟨F,0,none⟩),.string nm,v] w fun e w'=>e=.returned (.int .i64 0)/\Things w0 w' (A++.gen (finG F (q+200) (addF nm l ff) (addTo nm (fun x=>restP nm (pl x)) (hashesL l) (countN l.length)))::B):=by
 obtain ⟨M,I,⟨bf,bp,vf,vp,h1⟩,h2,h3⟩:=h.opened;refine (fin_add h1 R hq nm hnm T l v hv (fun a n c e hp hm=>by have:=ho a n c e hp;have:=h2 _ hm;omega) hl).mono ?_;rintro e w' ⟨he,vf',vp',M',I',h4,h5⟩;exact ⟨he,h3 w' M' I' _ ⟨bf,bp,vf',vp',h4⟩ h5⟩
theorem fadd_bad {F q:Nat} {ff:ByteArray->Option (List UInt8)} {pl:List UInt8->List Pl} (h:Things w0 w L) (hm:Thing.gen (finG F q ff pl)∈L) (nm:ByteArray) (l:List UInt8) (v:Value) (hv:BytesOff w.heap.size w v l) (hl:4096<l.length) :
  Calls prog 109 #[.pointer (some ⟨F,0,none⟩),.string nm,v] w fun e w'=>e=.returned (.int .i64 3)/\Ext w w':=by
 obtain ⟨M,I,⟨bf,bp,vf,vp,h1⟩,_⟩:=h.at hm;exact fin_add_long h1 nm l v _ hv hl
theorem rfadd_many {g:Nat} {X:List RF} (h:Things w0 w (A++.gen (rfinG g X)::B)) (nm:ByteArray) (hn:X.length<=1000) (l:List UInt8) (v:Value) (hv:BytesOff w.heap.size w v l) (ho:∀ a n c,v=.slice (some a) n c->0<n->a.block<w0.heap.size) (hl:l.length<=4096) :
  Calls prog 110 #[.pointer (some ⟨g,0,none⟩),.string nm,v] w fun e w'=>e=.returned (.int .i64 0)/\∃ o,o.nm=nm/\o.d=l/\Things w0 w' (A++.gen (rfinG g (insX o (restF nm X)))::B):=by
 obtain ⟨M,I,⟨rfl,v0,h1⟩,h2,h3⟩:=h.opened;refine (radd h1 nm hn l v hv (fun a n c e hp hm=>by have:=ho a n c e hp;have:=h2 g (by simp);omega) hl).mono ?_;rintro e w' ⟨he,v',o,I',h4,h5,h6,h7⟩;exact ⟨he,o,h4,h5,h3 w' [g] I' _ ⟨rfl,v',h6⟩ h7⟩
theorem topenF_many {d F q:Nat} {K:Dk} {ff:ByteArray->Option (List UInt8)} {pl:List UInt8->List Pl} (h:Things w0 w L) (hd:Thing.disk d K∈L) (hf:Thing.gen (finG F q ff pl)∈L) (R:FinRel ff pl) (hq:q<=10000) (root:ByteArray) (r:RecS) (C:Array Value) (bl:Value) (N:Nat) (hC:RecC C r bl) (G:r.Good N) (hb:HashesAt w bl r.hs) (hsh:∃ a n c,bl=.slice a n c/\(a=none\/∃ g o,a=some ⟨g,o,none⟩)) (E:Env w) (T:ShaTabs w) (hs:r.path.size<4294967281) (hr:root.size<=2147483648) (hp:placeB root r.path=true)
  (hdt:(readE K.live (placeS root r.path)).1.data.size<=1048576) :
  Calls prog 15 #[.pointer (some ⟨d,0,none⟩),.string root,.agg C,.pointer (some ⟨F,0,none⟩)] w fun e w'=>∃ p,e=.returned (.tuple #[.pointer (some ⟨p,0,none⟩),.int .i64 0])/\Hid (Ext w w'/\Things w0 w' (L++[.draft p r N (placeS root r.path) (openP N r.hs (readE K.live (placeS root r.path)).1.data.toList (FB ff pl) (countN N))])):=by
 obtain ⟨M,I,h1,_⟩:=h.at hd;obtain ⟨M2,I2,⟨bf,bp,vf,vp,h2⟩,_⟩:=h.at hf;refine (openF_ok root r C bl N w hC G hb hsh E T hs hr hp d M I K h1 hdt _ (FB ff pl) (fun x p l hx=>?_) fun w' x xw hx=>(fin_find (h2.ext xw) R hq x hx).mono fun e w2 hh=>findB hx hh).mono ?_
 ·unfold FB at hx;split at hx
  ·cases hx
   unfold partL;simp only [List.length_take];have:=sizeN_spec ((ff (minN (pl x) ((pl x).length - 1)).1).getD []).length;omega
  ·cases hx
 ·rintro e w' ⟨p,g,D,cs,u,J,he,hh⟩;obtain ⟨hx,hd,hg,hJ⟩:=hh.out;exact ⟨p,he,hx,h.add hx (t:=.draft p r N _ _) (M:=[g]) (I:=J) ⟨g,D,cs,u,rfl,hd⟩ (fun b hb=>(by rw [List.mem_singleton.1 hb];exact hg)) hJ⟩
theorem ropen_many {d gf:Nat} {K:Dk} {X:List RF} (h:Things w0 w L) (hd:Thing.ref d K∈L) (hf:Thing.gen (rfinG gf X)∈L) (hX:X.length<=1000) (hK:K.live.length<=1048576) (root:ByteArray) (r:RecS) (C:Array Value) (bl:Value) (N:Nat) (hC:RecC C r bl) (G:r.Good N) (hb:HashesAt w bl r.hs) (hbl:∀ b o n c,bl=.slice (some ⟨b,o,none⟩) n c->b<w0.heap.size) (hs:r.path.size<4294967281) (hr:root.size<=2147483648) (hp:placeB root r.path=true)
  (hdt:(readE K.live (placeS root r.path)).1.data.size<=1048576) :
  Calls prog 51 #[.pointer (some ⟨d,0,none⟩),.string root,.agg C,.pointer (some ⟨gf,0,none⟩)] w fun e w'=>∃ p,e=.returned (.tuple #[.pointer (some ⟨p,0,none⟩),.int .i64 0])/\Hid (Ext w w'/\Things w0 w' (L++[.rdraft p r N (placeS root r.path) (openF N r.hs (FRd X) (openTo N r.hs (readE K.live (placeS root r.path)).1.data.toList (countN N)) (countN N))])):=by
 obtain ⟨M,I,h1,_⟩:=h.at hd;obtain ⟨M2,I2,⟨rfl,v,h2⟩,_⟩:=h.at hf
 have hnz:(placeS root r.path).size<4294967280:=by
  have:=tempR_le r.path;unfold placeS;simp only [ByteArray.size_append,size_mk];simp;omega
 have hw:=h.is_ext.size;refine (ropen23_ok root r C bl N w hC G hb (fun b o n c e=>Nat.lt_of_lt_of_le (hbl b o n c e) hw) hs hr hp d gf _ _ (fun w' x=>rread9_any (h1.ext x) hK _ hnz) hdt (FRd X) fun w' x xw hx=>(rfind (h2.ext xw) hX x hx).mono fun e w2 hh=>findR hx hh).mono ?_;rintro e w' ⟨p,g,D,cs,J,he,hh⟩;obtain ⟨hx,hd,hg,_,hJ⟩:=hh.out;exact ⟨p,he,hx,h.addOld hx (t:=.rdraft p r N _ _) (M:=[g]) (I:=J) ⟨g,D,cs,bl,rfl,hd⟩ (fun b hb=>(by rw [List.mem_singleton.1 hb];exact hg)) fun b hb=>(hJ b hb).imp id fun ⟨o,n,c,e⟩=>hbl b o n c e⟩
end
section
variable {w0 w:World} {A B L:List Thing} {p:Nat} {r:RecS} {N:Nat} {name:ByteArray} {ps:List (Option (List UInt8))}
theorem rput_many (h:Things w0 w (A++.rdraft p r N name ps::B)) (i:Nat) (hi:i<countN N) (l:List UInt8) (v:Value) (hv:BytesOff w.heap.size w v l) (hz:∀ cap,v=.slice none 0 cap->cap=0) (hr:rightB N r.hs i l=true) :
  Calls prog 55 #[.pointer (some ⟨p,0,none⟩),.int .i64 i,v] w fun e w'=>e=.returned (.int .i64 0)/\Things w0 w' (A++.rdraft p r N name (fillP N r.hs i l ps)::B):=by
 obtain ⟨M,I,⟨g,D,cs,bl,rfl,h1⟩,_,h3⟩:=h.opened;refine (rput23_any w p g D cs bl I r N name ps h1 i hi l v hv hz (by have:=right_len hr;have:=lenN_le N i;omega)).mono ?_;rintro e w' hp;obtain ⟨he,I',cs',hk,hd⟩:=hp.yes hr;exact ⟨he,h3 w' [g] I' (.rdraft p r N name (fillP N r.hs i l ps)) ⟨g,D,cs',bl,rfl,hd⟩ hk⟩
theorem rput_wrong (h:Things w0 w L) (hm:Thing.rdraft p r N name ps∈L) (i:Nat) (hi:i<countN N) (l:List UInt8) (v:Value) (hv:BytesOff w.heap.size w v l) (hz:∀ cap,v=.slice none 0 cap->cap=0) (hl:l.length<=1048576) (hr:rightB N r.hs i l=false) :
  Calls prog 55 #[.pointer (some ⟨p,0,none⟩),.int .i64 i,v] w fun e w'=>e=.returned (.int .i64 14)/\Ext w w':=by
 obtain ⟨M,I,⟨g,D,cs,bl,_,h1⟩,_⟩:=h.at hm;exact (rput23_any w p g D cs bl I r N name ps h1 i hi l v hv hz hl).mono fun e w' hp=>hp.no hr
theorem rput_out (h:Things w0 w L) (hm:Thing.rdraft p r N name ps∈L) (i:Int) (hi:i<0\/(countN N:Int)<=i) (v:Value) :
  Calls prog 55 #[.pointer (some ⟨p,0,none⟩),.int .i64 i,v] w fun e w'=>e=.returned (.int .i64 2)/\Ext w w':=by
 obtain ⟨M,I,⟨g,D,cs,bl,_,h1⟩,_⟩:=h.at hm;exact rput23_bad w p g D cs bl I r N name ps h1 i hi v
theorem rsave_at {d:Nat} {K K':Dk} {c:Int} (h:Things w0 w (A++.ref d K::B)) (hm:Thing.rdraft p r N name ps∈A++B) (ho:PsOk N r.hs ps) (hnz:name.size<=4294967200) (O:DoFit K) (hR:K.act (.write name (bytesB (farL N ps)) r.time)=(c,K')) :
  Calls prog 53 #[.pointer (some ⟨p,0,none⟩),.pointer (some ⟨d,0,none⟩)] w fun e w'=>e=.returned (.int .i64 c)/\Things w0 w' (A++.ref d K'::B):=by
 obtain ⟨M,I,M2,I2,h1,⟨g,D,cs,bl,rfl,h2⟩,hA,h3⟩:=h.opened_with hm;refine (rsave23_any w p g D cs bl I2 r N name ps h2 ho hnz d M I K h1 O (fun hm=>hA.mi p hm h2.self)).mono ?_;rw [hR];rintro e w' ⟨he,M',I',h4,h5⟩;exact ⟨he,h3 w' M' I' (.ref d K') h4 h5⟩
theorem rdrop_at {d:Nat} {K K':Dk} {c:Int} (h:Things w0 w (A++.ref d K::B)) (hm:Thing.rdraft p r N name ps∈A++B) (hnz:name.size<=4294967200) (O:DoFit K) (hl:K.live.length<=1048576) (hk:kindAt K.live name=0↔(readE K.live name).2=5) (hR:dropR K name=(c,K')) :
  Calls prog 54 #[.pointer (some ⟨p,0,none⟩),.pointer (some ⟨d,0,none⟩)] w fun e w'=>e=.returned (.int .i64 c)/\Things w0 w' (A++.ref d K'::B):=by
 obtain ⟨M,I,M2,I2,h1,⟨g,D,cs,bl,rfl,h2⟩,hA,h3⟩:=h.opened_with hm;refine (rdrop23_any w p D _ name h2.blk h2.c27 hnz d M I K h1 O hl hk).mono ?_;rw [hR];rintro e w' ⟨he,M',I',h4,h5⟩;exact ⟨he,h3 w' M' I' (.ref d K') h4 h5⟩
end
end
section
open Go.RowKit
section
variable {w0 w:World} {A B L:List Thing} {p:Nat} {r:RecS} {N:Nat} {name:ByteArray} {ps:List (Option (List UInt8))}
set_option maxRecDepth 100000 in
theorem tput_out (h:Things w0 w L) (hm:Thing.draft p r N name ps∈L) (hnm:name.toList.isEmpty=false) (i:Int) (hi:i<0\/(countN N:Int)<=i) (x:Value) :
  Calls prog 16 #[.pointer (some ⟨p,0,none⟩),.int .i64 i,x] w fun e w'=>e=.returned (.int .i64 2)/\w'=w:=by
 obtain ⟨M,I,⟨g,D,cs,bl,_,hd⟩,_⟩:=h.at hm;have HI:=lh (tis_any w p D _ _ name hd.blk hd.c27);rw [hnm] at HI;have k28:=(cellB (k:=28) hd.blk).trans hd.c28;rw [hd.len] at k28;obtain ⟨c,hc⟩:∃ c,c=countN N:=⟨_,rfl⟩;rw [<-hc] at k28 hi;clear h hd hc;by_cases h1:i<0
 ·go_enter func16,ntmps16;go_wp2_with fail;refine HI.out.mono ?_;rintro e w1 ⟨rfl,hw⟩;obtain rfl:=hw.symm;clear hw;go_wp2_with fail;go_ret;exact ⟨rfl,rfl⟩
 ·have h2:(c:Int)<=i:=by omega
  go_enter func16,ntmps16;go_wp2_with fail;refine HI.out.mono ?_;rintro e w1 ⟨rfl,hw⟩;obtain rfl:=hw.symm;clear hw;go_wp2_with fail;go_ret;exact ⟨rfl,rfl⟩
end
theorem kind_read {l:Nodes} {room:Nat} (T:TreeOk l room) {p:ByteArray} (hp:mayB p=true) (h0:p.toList.isEmpty=false):kindAt l p=0↔(readE l p).2=5:=by
 unfold kindAt readE;rw [if_neg (by rw [h0];decide),if_pos hp]
 cases hf:findA l p with
 | none=>simp
 | some n =>
  have h1:=T.kind _ (findA_mem hf)
  have h2:n.kind≠0:=by
   have h3:n.kind=1\/n.kind=2\/n.kind=3:=h1;omega
  simp [h2]
end
section
open Go.RowKit Go.Shelf
attribute [local go_sem] Oper.semAt_some
set_option maxRecDepth 100000 in
set_option maxHeartbeats 1000000 in
theorem sameInts15_any (w:World) (b1 b2:Nat) (l:List Nat) (u v:Value) (hl:l.length<=1048576) (hu:w.ownsRow b1 3 1 u l.length (l.map iv)) (hv:w.ownsRow b2 3 1 v l.length (l.map iv)) :
  Calls prog 119 #[u,v] w fun e w'=>e=.returned (.bool true)/\Ext w w':=by
 obtain ⟨ua,uc,rfl,_,_,_,hcu⟩:=row_cells hu;obtain ⟨va,vc,rfl,_,_,_,hcv⟩:=row_cells hv
 have HCu:=lh (show ∀ (k:Nat) n,l[k]?=some n->∃ g,ua=some ⟨g,0,none⟩/\w.cell? ⟨g,k,none⟩=some (.int .i64 n) from fun k n hk=>by
  obtain ⟨g,e,_,_,h⟩:=hcu k (iv n) (by rw [List.getElem?_map,hk];rfl)
  exact ⟨g,e,h⟩)
 have HCv:=lh (show ∀ (k:Nat) n,l[k]?=some n->∃ g,va=some ⟨g,0,none⟩/\w.cell? ⟨g,k,none⟩=some (.int .i64 n) from fun k n hk=>by
  obtain ⟨g,e,_,_,h⟩:=hcv k (iv n) (by rw [List.getElem?_map,hk];rfl)
  exact ⟨g,e,h⟩)
 obtain ⟨c,hc⟩:∃ c,c=l.length:=⟨_,rfl⟩;rw [<-hc] at hl ⊢;have HN:=lh hc;clear hcu hcv hu hv hc;go_enter func119,ntmps119;go_wp2_with fail;go_loopw [5] (fun kv wr=>Hid (∃ k:Nat,k<=c/\kv=.int .i64 k/\Ext w wr)) (fun kv _=>c - (intOf kv).toNat)
 case atStart=>exact ⟨0,Nat.zero_le _,rfl,Ext.refl _⟩
 case round =>
  obtain ⟨k,hk,rfl,hx⟩:=hrel.out;clear hrel;have HX:=lh hx;by_cases hlt:k<c
  ·obtain ⟨n,hn⟩:∃ n,l[k]?=some n:=⟨_,List.getElem?_eq_getElem (by have:=HN.out;omega)⟩;obtain ⟨g1,rfl,h1⟩:=HCu.out k n hn;obtain ⟨g2,rfl,h2⟩:=HCv.out k n hn;have q1:=After.cell ((hx.cell (lt_of_cell h1)).trans h1);have q2:=After.cell ((hx.cell (lt_of_cell h2)).trans h2);have hkn:(k:Int)<(c:Int):=by omega
   clear hx h1 h2 hn;go_upto_region 6 with (fail)
   refine wp_region_after (by kernel_rfl) (by kernel_rfl) ?_
   repeat (go_big_quiet_step (fail))
   refine wpQuiet_nil ?_;rintro _ ⟨y,rfl⟩;have HY:=lh (HX.out.trans y.x);clear q1 q2;go_wp2_with fail;go_roundw
   case rel=>exact ⟨k+1,by omega,by go_num,HY.out⟩
   case measure=>simp [intOf] <;> omega
  ·obtain rfl:k=c:=by omega
   have nlt:decide ((k:Int)<(k:Int))=false:=by simp
   clear hx;go_wp2_with fail;go_ret;exact ⟨rfl,HX.out⟩
end
section
open Go.RowKit Go.Shelf
def scrG (v:Value) (n:Nat):Gen where
 At w M I:=M=rowB v/\I=[]/\∃ l:List UInt8,w.ownsRow 0 5 1 v n (l.map bv)
 lt:=by
  rintro w M I ⟨rfl,rfl,l,h⟩;exact ⟨fun b hb=>own_lt h b (mem_rowB.1 hb),fun b hb=>(by cases hb)⟩
 kept:=by
  rintro w w' M I ⟨rfl,rfl,l,h⟩ _ hk;exact ⟨rfl,rfl,l,owns_blocks h fun b hb=>hk b (own_lt h b hb) (.inl (mem_rowB.2 hb))⟩
theorem Things.scr {w0 w w1:World} {A:List Thing} {base n:Nat} {v:Value} {l:List UInt8} (h:Things w0 w A) (x:Ext w w1) (hr:w1.ownsRow base 5 1 v n (l.map bv)) (hb:w.heap.size<=base):Things w0 w1 (A++[.gen (scrG v n)]):=by
 have hr0:w1.ownsRow 0 5 1 v n (l.map bv):=⟨hr.1,hr.2.imp id fun ⟨g,cap,cur,e,_,h⟩=>⟨g,cap,cur,e,Nat.zero_le _,h⟩⟩;refine h.add (t:=.gen (scrG v n)) (M:=rowB v) (I:=[]) x ⟨rfl,rfl,l,hr0⟩ (fun b hb'=>?_) fun _ hb=>(by cases hb);have h1:=mem_rowB.1 hb';rcases hr.2 with ⟨rfl,_⟩ | ⟨g,cap,cur,rfl,hg,_⟩
 ·simp [Value.ownBlock] at h1
 ·simp only [Value.ownBlock,Option.some.injEq] at h1;omega
theorem scr_turn {w0 w:World} {A B:List Thing} {v:Value} {n k:Nat} (h:Things w0 w (A++.gen (scrG v n)::B)) (hk:k<n) :
  ∃ (g cap:Nat) (x:UInt8) (cs:Array Value),v=.slice (some ⟨g,0,none⟩) n cap/\w.heap[g]?=some (.cells cs 5 (0,0))/\k<cs.size/\w.cell? ⟨g,k,none⟩=some (.int .u8 x.toNat)/\∀ y:UInt8,Things w0 (w.setCell ⟨g,k,none⟩ (bv y)) (A++.gen (scrG v n)::B):=by
 obtain ⟨M,I,⟨rfl,rfl,l,h1⟩,h2,h3⟩:=h.opened;obtain ⟨hl,hr⟩:=h1;rw [List.length_map,Nat.mul_one] at hl;rcases hr with ⟨_,h0⟩ | ⟨g,cap,cur,rfl,hg,hh,hn,hc,hsz,ht⟩
 ·omega
 ·rw [Nat.mul_one] at hsz ht;obtain ⟨x,hx⟩:∃ x,l[k]?=some x:=⟨_,List.getElem?_eq_getElem (by omega)⟩
  have hck:cur[k]?=some (bv x):=by
   have:(cur.toList.take n)[k]?=some (bv x):=by rw [ht,List.getElem?_map,hx];rfl
   rw [List.getElem?_take,if_pos hk] at this;rw [<-Array.getElem?_toList];exact this
  refine ⟨g,cap,x,cur,rfl,hh,by omega,(cellB hh).trans hck,fun y=>?_⟩;refine h3 _ (rowB (.slice (some ⟨g,0,none⟩) n cap)) [] (.gen (scrG (.slice (some ⟨g,0,none⟩) n cap) n)) ⟨rfl,rfl,l.set k y,by rw [List.length_map,List.length_set,hl,Nat.mul_one],.inr ⟨g,cap,cur.setIfInBounds k (bv y),rfl,Nat.zero_le _,setCellB hh,hn,hc,by simp [hsz],?_⟩⟩ ⟨⟨rfl,rfl,rfl,by unfold World.setCell;simp,fun b _ hb=>setCellO fun e=>hb (by subst e;exact mem_rowB.2 rfl)⟩,Sub.refl _ _,Sub.refl _ _⟩;rw [Nat.mul_one,Array.toList_setIfInBounds,List.take_set,ht,List.map_set]
theorem xor_byte (x:UInt8):Value.int .u8 (bits BinOp.xor IntKind.u8 (x.toNat:Nat) 255)=bv (x ^^^ 255):=by
 have h:∀ k,k<256->bits BinOp.xor IntKind.u8 ((k:Nat):Int) 255=((k ^^^ 255:Nat):Int):=by decide +kernel
 unfold bv;rw [h x.toNat x.toNat_lt,UInt8.toNat_xor];rfl
end
end Go.Proofs.YtldppmjjgljinaaGreatDoor
