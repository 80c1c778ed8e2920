import Derived.Test.YtldppmjjgljinaaGreatDoorTpK3
import Derived.Test.YtldppmjjgljinaaGreatDoorTpK1
open Go.Proofs.Tryz
namespace Go.Proofs.YtldppmjjgljinaaGreatDoor
open Go.RowKit Go.Shelf
theorem RowsAt.ext {α:Type} {m:Nat} {f:α->Value->List Value} {P Q:α->Value->Prop} {W W':World} {v:Value} {l:List α} (h:RowsAt m f P W v l) (x:Ext W W') (hP:∀ y pv,P y pv->Q y pv):RowsAt m f Q W' v l:=by
 obtain ⟨a,cap,h1,h2,h3,h4⟩:=h;refine ⟨a,cap,h1,h2,h3,fun k y hy=>?_⟩;obtain ⟨g,o,pv,h5,h6,h7⟩:=h4 k y hy;exact ⟨g,o,pv,h5,hP _ _ h6,fun j u hj=>(x.cell (lt_of_cell (h7 j u hj))).trans (h7 j u hj)⟩
theorem ActsIn23.ext {W W':World} {v:Value} {l:List Act23} (h:ActsIn23 W v l) (x:Ext W W'):ActsIn23 W' v l :=
 RowsAt.ext h x fun _ _ hh=>⟨hh.1.ext x,hh.2⟩
theorem CaseIn.ext {W W':World} {C:Array Value} {c:Case23} (h:CaseIn W C c) (x:Ext W W'):CaseIn W' C c:=by
 obtain ⟨vo,vf,e,h1,h2,h3⟩:=h;exact ⟨vo,vf,e,h1.ext x,RowsAt.ext h2 x fun _ _ hh=>⟨hh.1.ext x,hh.2⟩,h3⟩
theorem own_off {base n:Nat} {w:World} {v:Value} {l:List UInt8} (h:w.ownsRow base 5 1 v n (l.map bv)):BytesOff w.heap.size w v l:=by
 have hn:l.length=n:=by have:=h.1;simpa using this
 subst hn;rcases h.2 with ⟨h1,h2⟩ | ⟨g,cap,cur,hv,hbg,hh,hc,hm,hs,ht⟩
 ·exact ⟨none,0,by rw [h1,h2],by omega,by decide,fun hp=>by omega⟩
 ·refine ⟨_,cap,hv,hc,hm,fun _=>⟨g,0,rfl,by have:=ltB hh;omega,ltB hh,fun j x hj=>?_⟩⟩;have hj':j<l.length:=(List.getElem?_eq_some_iff.1 hj).1;rw [Nat.zero_add,cellB hh,<-Array.getElem?_toList];have:(cur.toList.take (l.length*1))[j]?=some (bv x):=by rw [ht,List.getElem?_map,hj];rfl
  rw [List.getElem?_take] at this;split at this
  ·exact this
  ·cases this
theorem Two.drop {k:Nat} {K:Dk} (T:Two k K) (name:ByteArray):Two (k+1) (dropR K name).2:=by
 unfold dropR;split
 ·exact T.mono (by omega)
 ·exact T.act _
abbrev six (d q F G t u qf:Nat) (K:Dk) (ff:ByteArray->Option (List UInt8)) (pl:List UInt8->List Pl) (X:List RF) (r:RecS) (N:Nat) (name:ByteArray) (ps:List (Option (List UInt8))):List Thing :=
 [.disk d K,.ref q K,.gen (finG F qf ff pl),.gen (rfinG G X),.draft t r N name ps,.rdraft u r N name ps]
section
variable {W1 w:World} {d q F G t u qf:Nat} {K:Dk} {ff:ByteArray->Option (List UInt8)} {pl:List UInt8->List Pl} {X:List RF} {r:RecS} {N:Nat} {name:ByteArray} {ps:List (Option (List UInt8))}
theorem obj_in {w0 w:World} {L:List Thing} {b:Nat} {o:Obj} (h:Things w0 w L) (hm:Thing.obj b o∈L):w.heap[b]?=some o:=by
 obtain ⟨M,I,⟨_,_,h1⟩,_⟩:=h.at hm;exact h1
theorem puts23 {vo:Value} {B:List Thing} (h:Things W1 w (six d q F G t u qf K ff pl X r N name ps++B)) (T:ShaTabs W1) (hnm:name.toList.isEmpty=false) (ho:PsOk N r.hs ps) (hlen:ps.length=countN N) (i:Int) (l:List UInt8) (hl:l.length<=30000) (pv:Value) (hpv:BytesOff W1.heap.size W1 pv l) (hz:∀ cap,pv=.slice none 0 cap->cap=0) (how:BytesOff w.heap.size w vo l) :
  ∃ (c:Int) (ps':List (Option (List UInt8))),PsOk N r.hs ps'/\ps'.length=countN N/\Calls prog 16 #[.pointer (some ⟨t,0,none⟩),.int .i64 i,vo] w fun e w'=>e=.returned (.int .i64 c)/\Hid ((∀ b o,Thing.obj b o∈B->w'.heap[b]?=some o) /\
   Calls prog 55 #[.pointer (some ⟨u,0,none⟩),.int .i64 i,pv] w' fun e w''=>e=.returned (.int .i64 c)/\Hid (Things W1 w'' (six d q F G t u qf K ff pl X r N name ps'++B))):=by
 by_cases hi:i<0\/(countN N:Int)<=i
 ·refine ⟨2,ps,ho,hlen,(tput_out (p:=t) (r:=r) (N:=N) (name:=name) (ps:=ps) h (by simp) hnm i hi vo).mono ?_⟩;rintro e w' ⟨he,rfl⟩;refine ⟨he,fun b o hm=>obj_in h (List.mem_append_right _ hm),(rput_out (p:=u) (r:=r) (N:=N) (name:=name) (ps:=ps) h (by simp) i hi pv).mono ?_⟩;rintro e w'' ⟨he,x⟩;exact ⟨he,h.ext x⟩
 ·obtain ⟨k,rfl⟩:∃ k:Nat,i=(k:Int):=⟨i.toNat,by omega⟩;have hk:k<countN N:=by omega
  cases hr:rightB N r.hs k l with
  | false =>
   refine ⟨14,ps,ho,hlen,(tput_wrong (A:=[.disk d K,.ref q K,.gen (finG F qf ff pl),.gen (rfinG G X)]) h (T.ext h.is_ext) hnm k hk l vo how (by omega) hr).mono ?_⟩;rintro e w' ⟨he,x⟩;have h':=h.ext x;refine ⟨he,fun b o hm=>obj_in h' (List.mem_append_right _ hm),(rput_wrong (p:=u) (r:=r) (N:=N) (name:=name) (ps:=ps) h' (by simp) k hk l pv (bytesOff_any hpv h'.is_ext h'.is_ext.size) hz (by omega) hr).mono ?_⟩;rintro e w'' ⟨he,x⟩;exact ⟨he,h'.ext x⟩
  | true =>
   refine ⟨0,fillP N r.hs k l ps,ho.fill hr,by rw [fillP_len];exact hlen,(tput_many (A:=[.disk d K,.ref q K,.gen (finG F qf ff pl),.gen (rfinG G X)]) h (T.ext h.is_ext) hnm k hk l vo how hr).mono ?_⟩;rintro e w' ⟨he,h'⟩;refine ⟨he,fun b o hm=>obj_in h' (by simp [hm]),(rput_many (A:=[.disk d K,.ref q K,.gen (finG F qf ff pl),.gen (rfinG G X),.draft t r N name (fillP N r.hs k l ps)]) h' k hk l pv (bytesOff_any hpv h'.is_ext h'.is_ext.size) hz hr).mono ?_⟩;rintro e w'' ⟨he,h''⟩;exact ⟨he,h''⟩
theorem saves23 {k:Nat} {B:List Thing} (h:Things W1 w (six d q F G t u qf K ff pl X r N name ps++B)) (E:Env W1) (T2:Two k K) (hk:k<=1000) (hnm:name.toList.isEmpty=false) (hnz:name.size<=160) (ho:PsOk N r.hs ps) :
  ∃ (c:Int) (K':Dk),Two (k+1) K'/\Calls prog 18 #[.pointer (some ⟨t,0,none⟩),.pointer (some ⟨d,0,none⟩)] w fun e w'=>e=.returned (.int .i64 c)/\Hid (Ext W1 w' /\
   Calls prog 53 #[.pointer (some ⟨u,0,none⟩),.pointer (some ⟨q,0,none⟩)] w' fun e w''=>e=.returned (.int .i64 c)/\Hid (Things W1 w'' (six d q F G t u qf K' ff pl X r N name ps++B))):=by
 refine ⟨(K.act (.write name (bytesB (farL N ps)) r.time)).1,(K.act (.write name (bytesB (farL N ps)) r.time)).2,T2.act _,(tsave_at (p:=t) (r:=r) (N:=N) (name:=name) (ps:=ps) (A:=[]) h (by simp) (E.ext h.is_ext) hnm ho (by omega) (T2.run.fit (by omega)) rfl).mono ?_⟩;rintro e w' ⟨he,h'⟩;refine ⟨he,h'.is_ext,(rsave_at (p:=u) (r:=r) (N:=N) (name:=name) (ps:=ps) (A:=[.disk d (K.act (.write name (bytesB (farL N ps)) r.time)).2]) h' (by simp) ho (by omega) (T2.dofit (by omega)) rfl).mono ?_⟩;rintro e w'' ⟨he,h''⟩;exact ⟨he,h''⟩
theorem drops23 {k:Nat} {B:List Thing} (h:Things W1 w (six d q F G t u qf K ff pl X r N name ps++B)) (E:Env W1) (T2:Two k K) (hk:k<=1000) (hnm:name.toList.isEmpty=false) (hmay:mayB name=true) :
  ∃ (c:Int) (K':Dk),Two (k+1) K'/\Calls prog 48 #[.pointer (some ⟨t,0,none⟩),.pointer (some ⟨d,0,none⟩)] w fun e w'=>e=.returned (.int .i64 c)/\Hid (Ext W1 w' /\
   Calls prog 54 #[.pointer (some ⟨u,0,none⟩),.pointer (some ⟨q,0,none⟩)] w' fun e w''=>e=.returned (.int .i64 c)/\Hid (Things W1 w'' (six d q F G t u qf K' ff pl X r N name ps++B))):=by
 have hnz:=mayB_size hmay;refine ⟨(dropR K name).1,(dropR K name).2,T2.drop name,(tdrop_at (p:=t) (r:=r) (N:=N) (name:=name) (ps:=ps) (A:=[]) h (by simp) (E.ext h.is_ext) hnm (by omega) (T2.run.fit (by omega)) rfl).mono ?_⟩;rintro e w' ⟨he,h'⟩;refine ⟨he,h'.is_ext,(rdrop_at (p:=u) (r:=r) (N:=N) (name:=name) (ps:=ps) (A:=[.disk d (dropR K name).2]) h' (by simp) (by omega) (T2.dofit (by omega)) (by have:=live_few T2.run;omega) (kind_read T2.run.ok.live hmay hnm) rfl).mono ?_⟩;rintro e w'' ⟨he,h''⟩;exact ⟨he,h''⟩
end
theorem opens23 {W1 w:World} {L:List Thing} {d q F G qf k:Nat} {K:Dk} {ff:ByteArray->Option (List UInt8)} {pl:List UInt8->List Pl} {X:List RF} (h:Things W1 w L) (hd:Thing.disk d K∈L) (hq:Thing.ref q K∈L) (hF:Thing.gen (finG F qf ff pl)∈L) (hG:Thing.gen (rfinG G X)∈L) (hR:FinRel ff pl) (hS:FinSame ff X) (hX:X.length<=1000) (hqf:qf<=10000) (T2:Two k K) (_hk:k<=1000)
  (root:ByteArray) (r:RecS) (C:Array Value) (bl:Value) (N:Nat) (hC:RecC C r bl) (G0:r.Good N) (hb:HashesAt W1 bl r.hs) (hsh:∃ a n c,bl=.slice a n c/\(a=none\/∃ g o,a=some ⟨g,o,none⟩)) (hbl:∀ b o n c,bl=.slice (some ⟨b,o,none⟩) n c->b<W1.heap.size) (E:Env W1) (T:ShaTabs W1) (hs:r.path.size<4294967281) (hr:root.size<=2147483648) (hp:placeB root r.path=true) :
  ∃ ps,PsOk N r.hs ps/\ps.length=countN N/\Calls prog 15 #[.pointer (some ⟨d,0,none⟩),.string root,.agg C,.pointer (some ⟨F,0,none⟩)] w fun e w'=>∃ t,e=.returned (.tuple #[.pointer (some ⟨t,0,none⟩),.int .i64 0])/\Hid (Ext W1 w' /\
   Calls prog 51 #[.pointer (some ⟨q,0,none⟩),.string root,.agg C,.pointer (some ⟨G,0,none⟩)] w' fun e w''=>∃ u,e=.returned (.tuple #[.pointer (some ⟨u,0,none⟩),.int .i64 0])/\Hid (Things W1 w'' (L++[.draft t r N (placeS root r.path) ps,.rdraft u r N (placeS root r.path) ps]))):=by
 have hdt:=T2.data (placeS root r.path);have hsame:=open_same N r.hs (readE K.live (placeS root r.path)).1.data.toList (find_same hR hS);obtain ⟨h1,_,_⟩:=openTo_spec N r.hs (readE K.live (placeS root r.path)).1.data.toList (countN N) (Nat.le_refl _);refine ⟨openF N r.hs (FRd X) (openTo N r.hs (readE K.live (placeS root r.path)).1.data.toList (countN N)) (countN N),openF_psOk N r.hs (FRd X) h1 _,by rw [openF_len,openTo_len],(topenF_many h hd hF hR hqf root r C bl N hC G0 (hb.ext h.is_ext) hsh (E.ext h.is_ext) (T.ext h.is_ext) hs hr hp hdt).mono ?_⟩;rintro e w' ⟨t,he,hh⟩;have h2:=hh.out.2;rw [hsame] at h2;refine ⟨t,he,h2.is_ext,(ropen_many h2 (List.mem_append_left _ hq) (List.mem_append_left _ hG) hX (by have:=live_few T2.run;omega) root r C bl N hC G0 (hb.ext h2.is_ext) hbl hs hr hp hdt).mono ?_⟩;rintro e w'' ⟨u,he,hh⟩;refine ⟨u,he,?_⟩;have h3:=hh.out.2;rw [List.append_assoc] at h3;exact h3
end Go.Proofs.YtldppmjjgljinaaGreatDoor
