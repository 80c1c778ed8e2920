import Derived.Test.YtldppmjjgljinaaGreatDoorTpA2
import Derived.Test.YtldppmjjgljinaaGreatDoorTpA1
import Derived.Test.YtldppmjjgljinaaGreatDoorTpD1
import Derived.Test.YtldppmjjgljinaaGreatDoorTpD2
import Derived.Test.YtldppmjjgljinaaGreatDoorTpC3
import Derived.Deep.RegionHeldLaw
import Derived.KernelRfl
import Derived.Deep.MidRow
open Go.Proofs.Tryz
namespace Go.Proofs.YtldppmjjgljinaaGreatDoor
open Go.RowKit
section
theorem grown_ext {w0 w w1:World} {base k:Nat} {e:TypeId} {v:Value} {n:Nat} {xs:List Value} (x:Ext w0 w) (hb:w0.heap.size<=base) (ho:w.ownsRow base e k v n xs) (hg:w.grownBy w1 v.ownBlock):Ext w0 w1 :=
 Below.trans x ⟨hg.os,hg.tape,hg.output,hg.size,fun i hi=>hg.block i (Nat.lt_of_lt_of_le hi x.size) fun e=>by have:=(ho.lt _ e.symm).1;omega⟩
end
section
end
section
theorem DkRun.fit {k:Nat} {D:Dk} (R:DkRun k D) (hk:k<=100000):DkFit D:=⟨R.ok,by have:=R.len;omega,by have:=R.lo;omega,R.hi⟩
structure ActFit (x:ActR):Prop where
 ok:ActOk x
 p:x.p.size<=1000
 q:x.q.size<=1000
 text:x.text.size<=10000
end
section
def cells5 (x:ByteArray×Nd):List Value:=[.string x.1,.int .i64 x.2.kind,.string x.2.data,.string x.2.target,.int .i64 x.2.time]
def rows5 (l:Nodes):List Value:=l.flatMap cells5
def cells7 (x:RE):List Value:=[.int .i64 x.k,.string x.p,.string x.q,.string x.data,.int .i64 x.time,.int .i64 0,.bool false]
def rows7 (l:List RE):List Value:=l.flatMap cells7
theorem rows5_snoc (l:Nodes) (x:ByteArray×Nd):rows5 (l++[x])=rows5 l++cells5 x:=by simp [rows5]
theorem rows7_snoc (l:List RE) (x:RE):rows7 (l++[x])=rows7 l++cells7 x:=by simp [rows7]
theorem flat_get {α:Type} {f:α->List Value} {n:Nat} (hf:∀ x,(f x).length=n):∀ (l:List α) (k j:Nat) (x:α),l[k]?=some x->j<n->(l.flatMap f)[k*n+j]?=(f x)[j]?
 | [],k,j,x,h,_=>by simp at h
 | y::r,0,j,x,h,hj=>by
  simp at h;subst h;rw [List.flatMap_cons,List.getElem?_append_left (by rw [hf];omega)];simp
 | y::r,k+1,j,x,h,hj=>by
  rw [List.flatMap_cons,List.getElem?_append_right (by rw [hf,Nat.succ_mul];omega),hf,show (k+1)*n+j - n=k*n+j from by rw [Nat.succ_mul];omega];exact flat_get hf r k j x (by simpa using h) hj
theorem rows5_get {l:Nodes} {k j:Nat} {x:ByteArray×Nd} (h:l[k]?=some x) (hj:j<5):(rows5 l)[k*5+j]?=(cells5 x)[j]?:=flat_get (n:=5) (fun _=>rfl) l k j x h hj
structure REOk (x:RE):Prop where
 k1:1<=x.k
 k6:x.k<=6
 data:x.data.size<=1048576
structure RTreeAt (w:World) (t:Nat) (v:Value) (l:Nodes) (room:Nat):Prop where
 blk:w.heap[t]?=some (.cells #[v,.int .i64 (room:Nat)] 157 (0,0))
 row:w.ownsRow 0 165 5 v l.length (rows5 l)
theorem RTreeAt.ext {w w':World} {t:Nat} {v:Value} {l:Nodes} {room:Nat} (h:RTreeAt w t v l room) (x:Ext w w'):RTreeAt w' t v l room:=⟨(x.block (ltB h.blk)).trans h.blk,owns_blocks h.row fun b hb=>x.block (own_lt h.row b hb)⟩
theorem RTreeAt.kept {w w':World} {t:Nat} {v:Value} {l:Nodes} {room:Nat} (h:RTreeAt w t v l room) (k:∀ b,b=t\/v.ownBlock=some b->w'.heap[b]?=w.heap[b]?):RTreeAt w' t v l room:=⟨(k t (.inl rfl)).trans h.blk,owns_blocks h.row fun b hb=>k b (.inr hb)⟩
structure RkIn (w:World) (r lt ls:Nat) (lv sv lg:Value) (D:Dk):Prop where
 blk:w.heap[r]?=some (.cells #[.pointer (some ⟨lt,0,none⟩),.pointer (some ⟨ls,0,none⟩),lg,.bool D.fused,.int .i64 D.left] 160 (0,0))
 live:RTreeAt w lt lv D.live D.room
 lasts:RTreeAt w ls sv D.lasts D.room
 log:∃ res:List RE,(res.map RE.eff=D.log/\∀ x∈res,REOk x)/\w.ownsRow 0 163 7 lg D.log.length (rows7 res)
 rlg:lg.ownBlock≠some r
 imm:∀ b∈[lt,ls]++rowB lv++rowB sv,b≠r/\lg.ownBlock≠some b
def RkAt (w:World) (r:Nat) (M I:List Nat) (D:Dk):Prop:=∃ lt ls lv sv lg,RkIn w r lt ls lv sv lg D/\M=[r]++rowB lg/\I=[lt,ls]++rowB lv++rowB sv
theorem RkAt.lt {w:World} {r:Nat} {M I:List Nat} {D:Dk} (h:RkAt w r M I D):(∀ b∈M,b<w.heap.size)/\∀ b∈I,b<w.heap.size:=by
 obtain ⟨lt,ls,lv,sv,lg,h,rfl,rfl⟩:=h;obtain ⟨res,_,hl⟩:=h.log;refine ⟨fun b hb=>?_,fun b hb=>?_⟩
 ·simp only [List.mem_append,List.mem_singleton] at hb;rcases hb with rfl | hb
  ·exact ltB h.blk
  ·exact own_lt hl b (mem_rowB.1 hb)
 ·simp only [List.mem_append,List.mem_cons,List.not_mem_nil,or_false] at hb;rcases hb with ((rfl | rfl) | hb) | hb
  ·exact ltB h.live.blk
  ·exact ltB h.lasts.blk
  ·exact own_lt h.live.row b (mem_rowB.1 hb)
  ·exact own_lt h.lasts.row b (mem_rowB.1 hb)
theorem RkAt.kept {w w':World} {r:Nat} {M I:List Nat} {D:Dk} (h:RkAt w r M I D) (hk:∀ b,b<w.heap.size->b∈M\/b∈I->w'.heap[b]?=w.heap[b]?):RkAt w' r M I D:=by
 have hlt:=h.lt;obtain ⟨lt,ls,lv,sv,lg,h,rfl,rfl⟩:=h;obtain ⟨res,hr,hl⟩:=h.log;have hM:∀ b,b∈[r]++rowB lg->w'.heap[b]?=w.heap[b]?:=fun b hb=>hk b (hlt.1 b hb) (.inl hb);have hI:∀ b,b∈[lt,ls]++rowB lv++rowB sv->w'.heap[b]?=w.heap[b]?:=fun b hb=>hk b (hlt.2 b hb) (.inr hb);refine ⟨lt,ls,lv,sv,lg,⟨(hM r (by simp)).trans h.blk,h.live.kept ?_,h.lasts.kept ?_,⟨res,hr,owns_blocks hl fun b hb=>hM b (by simp [mem_rowB.2 hb])⟩,h.rlg,h.imm⟩,rfl,rfl⟩
 ·rintro b (rfl | hb)
  ·exact hI b (by simp)
  ·exact hI b (by simp [mem_rowB.2 hb])
 ·rintro b (rfl | hb)
  ·exact hI b (by simp)
  ·exact hI b (by simp [mem_rowB.2 hb])
end
section
structure Gen where
 At:World->List Nat->List Nat->Prop
 lt:∀ {w M I},At w M I->(∀ b∈M,b<w.heap.size)/\∀ b∈I,b<w.heap.size
 kept:∀ {w w' M I},At w M I->w.heap.size<=w'.heap.size->(∀ b,b<w.heap.size->b∈M\/b∈I->w'.heap[b]?=w.heap[b]?)->At w' M I
inductive Thing where
 | gen (g:Gen)
 | disk (d:Nat) (D:Dk)
 | ref (r:Nat) (D:Dk)
 | obj (b:Nat) (o:Obj)
def ThAt (w:World) (M I:List Nat):Thing->Prop
 | .gen g=>g.At w M I
 | .disk d D=>DkAt w d M I D
 | .ref r D=>RkAt w r M I D
 | .obj b o=>M=[]/\I=[b]/\w.heap[b]?=some o
theorem ThAt.lt {w:World} {M I:List Nat} {t:Thing} (h:ThAt w M I t):(∀ b∈M,b<w.heap.size)/\∀ b∈I,b<w.heap.size:=by
 cases t with
 | gen g=>exact g.lt h
 | disk d D=>exact DkAt.lt h
 | ref r D=>exact RkAt.lt h
 | obj b o =>
  obtain ⟨rfl,rfl,h⟩:=h;exact ⟨fun _ h=>(by cases h),fun c hc=>by rw [List.mem_singleton.1 hc];exact ltB h⟩
theorem ThAt.kept {w w':World} {M I:List Nat} {t:Thing} (h:ThAt w M I t) (hs:w.heap.size<=w'.heap.size) (hk:∀ b,b<w.heap.size->b∈M\/b∈I->w'.heap[b]?=w.heap[b]?):ThAt w' M I t:=by
 cases t with
 | gen g=>exact g.kept h hs hk
 | disk d D=>exact DkAt.kept h hs hk
 | ref r D=>exact RkAt.kept h hk
 | obj b o =>
  obtain ⟨rfl,rfl,h⟩:=h;exact ⟨rfl,rfl,(hk b (ltB h) (.inr (by simp))).trans h⟩
theorem ThAt.step {w w':World} {M I M1 I1 M1' I1':List Nat} {t:Thing} (h:ThAt w M I t) (k:DkStep w M1 I1 w' M1' I1') (hA:Apart M1 I1 M I):ThAt w' M I t :=
 h.kept k.chg.size fun b hb hm=>k.chg.block b hb fun hb1=>hm.elim (hA.mm b hb1) (hA.mi b hb1)
def Things (w0 w:World) (L:List Thing):Prop :=
 Ext w0 w/\∃ X:List (Thing×List Nat×List Nat),X.map (·.1)=L/\(∀ x∈X,ThAt w x.2.1 x.2.2 x.1/\∀ b∈x.2.1,w0.heap.size<=b)/\X.Pairwise fun a b=>Apart a.2.1 a.2.2 b.2.1 b.2.2
theorem Things.start {w0 w:World} (x:Ext w0 w):Things w0 w []:=⟨x,[],rfl,fun _ h=>(by cases h),List.Pairwise.nil⟩
theorem Things.is_ext {w0 w:World} {L:List Thing} (h:Things w0 w L):Ext w0 w:=h.1
theorem Things.opened {w0 w:World} {A B:List Thing} {t:Thing} (h:Things w0 w (A++t::B)) :
  ∃ M I,ThAt w M I t/\(∀ b∈M,w0.heap.size<=b)/\∀ w' M' I' t',ThAt w' M' I' t'->DkStep w M I w' M' I'->Things w0 w' (A++t'::B):=by
 obtain ⟨x,X,hX,hall,hp⟩:=h;obtain ⟨XA,XR,rfl,rfl,hR⟩:=List.map_eq_append_iff.1 hX;obtain ⟨y,XB,rfl,rfl,rfl⟩:=List.map_eq_cons_iff.1 hR;obtain ⟨t0,M,I⟩:=y;have hy:=hall (t0,M,I) (by simp);obtain ⟨pA,pR,pAR⟩:=List.pairwise_append.1 hp;obtain ⟨pB1,pB⟩:=List.pairwise_cons.1 pR;refine ⟨M,I,hy.1,hy.2,fun w' M' I' t' h' k=>?_⟩;have hxe:=k.ext x hy.2;have hA:∀ z∈XA,Apart M I z.2.1 z.2.2:=fun z hz=>(pAR z hz _ List.mem_cons_self).symm;have hB:∀ z∈XB,Apart M I z.2.1 z.2.2:=fun z hz=>pB1 z hz;have hzl:∀ z,z∈XA\/z∈XB->ThAt w z.2.1 z.2.2 z.1/\∀ b∈z.2.1,w0.heap.size<=b:=fun z hz=>hall z (by rcases hz with hz | hz <;> simp [hz]);refine ⟨hxe.1,XA++(t',M',I')::XB,by simp,fun z hz=>?_,?_⟩
 ·rcases List.mem_append.1 hz with hz | hz
  ·exact ⟨(hzl z (.inl hz)).1.step k (hA z hz),(hzl z (.inl hz)).2⟩
  ·rcases List.mem_cons.1 hz with rfl | hz
   ·exact ⟨h',hxe.2⟩
   ·exact ⟨(hzl z (.inr hz)).1.step k (hB z hz),(hzl z (.inr hz)).2⟩
 ·have st:∀ z,z∈XA\/z∈XB->Apart M I z.2.1 z.2.2->Apart M' I' z.2.1 z.2.2:=fun z hz ha=>ha.step k (hzl z hz).1.lt.1 (hzl z hz).1.lt.2;refine List.pairwise_append.2 ⟨pA,List.pairwise_cons.2 ⟨fun z hz=>st z (.inr hz) (hB z hz),pB⟩,fun z hz y hy=>?_⟩;rcases List.mem_cons.1 hy with rfl | hy
  ·exact (st z (.inl hz) (hA z hz)).symm
  ·exact pAR z hz y (List.mem_cons_of_mem _ hy)
theorem Things.ext {w0 w w':World} {L:List Thing} (h:Things w0 w L) (x:Ext w w'):Things w0 w' L:=by
 obtain ⟨x0,X,hX,hall,hp⟩:=h;exact ⟨x0.trans x,X,hX,fun z hz=>⟨(hall z hz).1.kept x.size fun _ hb _=>x.block hb,(hall z hz).2⟩,hp⟩
theorem Things.add {w0 w w':World} {L:List Thing} {t:Thing} {M I:List Nat} (h:Things w0 w L) (x:Ext w w') (ht:ThAt w' M I t) (hM:∀ b∈M,w.heap.size<=b) (hI:∀ b∈I,w.heap.size<=b):Things w0 w' (L++[t]):=by
 obtain ⟨x0,X,hX,hall,hp⟩:=h;refine ⟨x0.trans x,X++[(t,M,I)],by simp [hX],fun z hz=>?_,List.pairwise_append.2 ⟨hp,List.pairwise_singleton _ _,fun z hz y hy=>?_⟩⟩
 ·rcases List.mem_append.1 hz with hz | hz
  ·exact ⟨(hall z hz).1.kept x.size fun _ hb _=>x.block hb,(hall z hz).2⟩
  ·obtain rfl:=List.mem_singleton.1 hz;exact ⟨ht,fun b hb=>Nat.le_trans x0.size (hM b hb)⟩
 ·obtain rfl:=List.mem_singleton.1 hy;have hl:=(hall z hz).1.lt;exact ⟨fun b hb hb2=>by have:=hl.1 b hb;have:=hM b hb2;omega,fun b hb hb2=>by have:=hl.1 b hb;have:=hI b hb2;omega,fun b hb hb2=>by have:=hl.2 b hb;have:=hM b hb2;omega⟩
theorem Things.fewer {w0 w:World} {L L':List Thing} (h:Things w0 w L) (hs:L'.Sublist L):Things w0 w L':=by
 obtain ⟨x0,X,rfl,hall,hp⟩:=h;obtain ⟨X',hx,rfl⟩:=List.sublist_map_iff.1 hs;exact ⟨x0,X',rfl,fun z hz=>hall z (hx.subset hz),hp.sublist hx⟩
theorem act_many {w0 w:World} {A B:List Thing} {d:Nat} {D:Dk} {R:Int×Dk} {F:FuncId} {args:Array Value} (h:Things w0 w (A++.disk d D::B))
  (hc:∀ M I,DkAt w d M I D->(∀ b∈M,w0.heap.size<=b)->Calls prog F args w (ActPost w d M I R)) :
  Calls prog F args w fun e w'=>e=.returned (.int .i64 R.1)/\Things w0 w' (A++.disk d R.2::B):=by
 obtain ⟨M,I,h1,h2,h3⟩:=h.opened;refine (hc M I h1 h2).mono ?_;rintro e w' ⟨he,M',I',h4,h5⟩;exact ⟨he,h3 w' M' I' (.disk d R.2) h4 h5⟩
end
section
section
variable {w0 w:World} {A B:List Thing} {d:Nat} {D:Dk}
theorem new_many (h:Things w0 w A) (room:Nat) (h1:1024<=room) (h2:room<=1048576) :
  Calls prog 41 #[.int .i64 (room:Nat)] w fun e w'=>∃ d,e=.returned (.tuple #[.pointer (some ⟨d,0,none⟩),.int .i64 0])/\Things w0 w' (A++[.disk d (Dk.made room)]):=by
 refine (New_ok room w h1 h2).mono ?_;rintro e w' ⟨d,M,he,h3,h4,h5⟩;exact ⟨d,he,h.add h4 h3 h5 fun _ hb=>(by cases hb)⟩
variable (h:Things w0 w (A++.disk d D::B)) (O:DkFit D)
include h O
omit O in
theorem act_mk {x:Eff} {r:Int} {D':Dk} (hR:D.act x=(r,D')) {F:FuncId} {args:Array Value} (hc:∀ M I,DkAt w d M I D->Calls prog F args w (ActPost w d M I (D.act x))) :
  Calls prog F args w fun e w'=>e=.returned (.int .i64 r)/\Things w0 w' (A++.disk d D'::B):=by
 have:=act_many (R:=D.act x) h fun M I h1 _=>hc M I h1;rw [hR] at this;exact this
theorem mkdir_many (E:Env w) (p:ByteArray) (hp:p.size<4294967281) {r:Int} {D':Dk} (hR:D.act (.mkdir p)=(r,D')) :
  Calls prog 57 #[.pointer (some ⟨d,0,none⟩),.string p] w fun e w'=>e=.returned (.int .i64 r)/\Things w0 w' (A++.disk d D'::B):=act_mk h hR fun _ _ hd=>Mkdir_any hd O E p hp
theorem write_many (E:Env w) (p a:ByteArray) (t:Int) (hp:p.size<4294967281) (ha:a.size<=4611686018427387904) {r:Int} {D':Dk} (hR:D.act (.write p a t)=(r,D')) :
  Calls prog 58 #[.pointer (some ⟨d,0,none⟩),.string p,.string a,.int .i64 t] w fun e w'=>e=.returned (.int .i64 r)/\Things w0 w' (A++.disk d D'::B):=act_mk h hR fun _ _ hd=>Write_any hd O E p a t hp ha
end
end
section
def sa:ByteArray:=⟨#[97]⟩
def k1:Dk:=⟨[(⟨#[97]⟩,⟨2,emp,emp,0⟩)],[],1024,[.mkdir ⟨#[97]⟩],false,-1⟩
def k2:Dk:=⟨[(⟨#[97]⟩,⟨2,emp,emp,0⟩),(⟨#[97,47,98]⟩,⟨1,⟨#[120]⟩,emp,1⟩)],[],1024,[.mkdir ⟨#[97]⟩,.write ⟨#[97,47,98]⟩ ⟨#[120]⟩ 1],false,-2⟩
def k3:Dk:=⟨[(⟨#[97]⟩,⟨2,emp,emp,0⟩),(⟨#[97,47,98]⟩,⟨1,⟨#[120,121]⟩,emp,1⟩)],[],1024,[.mkdir ⟨#[97]⟩,.write ⟨#[97,47,98]⟩ ⟨#[120]⟩ 1,.add ⟨#[97,47,98]⟩ ⟨#[121]⟩],false,-3⟩
end
section
end
section
end
section
structure TextsOwn (w:World) (v:Value) (l:List ByteArray):Prop where
 shape:∃ a cap,v=.slice a l.length cap/\l.length<=cap/\cap<=9223372036854775807
 get:∀ (a:Option Addr) (n cap:Nat),v=.slice a n cap->∀ (k:Nat) s,l[k]?=some s->∃ g,a=some ⟨g,0,none⟩/\w.cell? ⟨g,k,none⟩=some (.string s)
theorem live_few {k:Nat} {D:Dk} (R:DkRun k D):D.live.length<=16384:=by
 have h1:=len_used D.live;have h2:=R.ok.live.used;have h3:=R.ok.r2;omega
end
end Go.Proofs.YtldppmjjgljinaaGreatDoor
