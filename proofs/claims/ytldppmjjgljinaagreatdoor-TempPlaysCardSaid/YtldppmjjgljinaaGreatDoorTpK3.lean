import Derived.Test.YtldppmjjgljinaaGreatDoorTpA2
import Derived.Test.YtldppmjjgljinaaGreatDoorTpA1
import Derived.Test.YtldppmjjgljinaaGreatDoorTpE2
import Derived.Test.YtldppmjjgljinaaGreatDoorTpB2
import Derived.Test.YtldppmjjgljinaaGreatDoorTpK1
import Derived.Test.YtldppmjjgljinaaGreatDoorTpJ4
import Derived.Test.YtldppmjjgljinaaGreatDoorTpI1
import Derived.Deep.Slices
open Go.Proofs.Tryz
namespace Go.Proofs.YtldppmjjgljinaaGreatDoor
section
open Go.ChangeShapes Go.WideShapes Go.ChangeAt Go.RowKit
theorem reach_eq:reachBytes=reach:=by unfold reachBytes reach;rfl
section
variable {H:Type} {enc:TypeId×Value->H} {W:World} {base':Nat} {sp:Nat->Bool} {held:Bool}
theorem weights_mem {t e:TypeId} {D:Nat->DataW H} {len m:Nat} (ht:prog.underlying t=some (.slice e)) (h:(DataW.weights prog t (.slice ((List.range len).map D) ((List.range m).map fun j=>D (len+j)))).all (·<=reachBytes)=true) :
  (len*prog.bytesOf e<=reachBytes)/\∀ i,i<len->((D i).weights prog e).all (·<=reachBytes)=true:=by
 unfold DataW.weights at h;rw [ht] at h;simp only [List.all_cons,List.all_append,Bool.and_eq_true,decide_eq_true_eq,List.length_map,List.length_range] at h;refine ⟨Nat.le_trans (Nat.mul_le_mul_right _ (Nat.le_add_right _ _)) h.1,fun i hi=>?_⟩
 have key:∀ (l:List (DataW H)),(DataW.weightsAll prog e l).all (·<=reachBytes)=true->∀ d∈l,(d.weights prog e).all (·<=reachBytes)=true:=by
  intro l
  induction l with
  | nil=>intro _ d hd;cases hd
  | cons x r ih =>
   intro hl d hd;unfold DataW.weightsAll at hl;rw [List.all_append,Bool.and_eq_true] at hl;rcases List.mem_cons.1 hd with rfl | hd
   ·exact hl.1
   ·exact ih hl.2 d hd
 exact key _ h.2.1 _ (List.mem_map.2 ⟨i,List.mem_range.2 hi,rfl⟩)
theorem trod_rng {t:TypeId} {k:IntKind} {fuel:Nat} {cs:List Value} {x:DataW H×List MemPlace} (ht:prog.underlying t=some (.int k)) (h:DataW.trod enc prog W base' sp held fuel t cs=some x):∃ n,cs=[.int k n]/\k.min<=n/\n<=k.max:=by
 obtain ⟨n,h1,_,h2⟩:=DataW.trod_int ht h;unfold Lit.wf at h2;rw [Bool.and_eq_true,decide_eq_true_eq,decide_eq_true_eq] at h2;exact ⟨n,h1,h2⟩
theorem trod_str {t:TypeId} {fuel:Nat} {cs:List Value} {x:DataW H×List MemPlace} (ht:prog.underlying t=some .string) (h:DataW.trod enc prog W base' sp held fuel t cs=some x) (hw:(x.1.weights prog t).all (·<=reachBytes)=true):∃ s:ByteArray,cs=[.string s]/\s.size<=reach:=by
 obtain ⟨s,h1,rfl,_⟩:=DataW.trod_string ht h;refine ⟨s,h1,?_⟩;unfold DataW.weights at hw;simp only [List.all_cons,List.all_nil,Bool.and_true,decide_eq_true_eq] at hw;rw [<-reach_eq,Lib.size_eq];exact hw
set_option maxRecDepth 100000 in
theorem open_bytes_trod {fuel:Nat} {v:Value} {d:DataW H} {p:List MemPlace} (h:DataW.trod enc prog W base' sp held fuel 22 [v]=some (d,p)) (hw:(d.weights prog 22).all (·<=reachBytes)=true) :
  ∃ ks,BytesIn W v ks:=by
 rcases Go.Deep.open_slice1 (show prog.underlying 22=some (.slice 5) by kernel_rfl) (by kernel_rfl) h with ⟨hcs,_⟩ | ⟨a,len,cap,m,n,V,D,Pl,hcs,_,hl,hm,hmm,hx,hc⟩
 ·obtain rfl:v=.slice none 0 0:=by simpa using hcs
  exact ⟨[],none,0,rfl,Nat.le_refl _,by decide,by decide,fun k u hk=>by simp at hk⟩
 ·obtain rfl:v=.slice (some a) len cap:=by simpa using hcs
  have hlm:len<=m:=by rw [hmm];split <;> omega
  have hd:d=.slice ((List.range len).map D) ((List.range (m - len)).map fun j=>D (len+j)):=congrArg Prod.fst hx;subst hd;have hlen:=(weights_mem (show prog.underlying 22=some (.slice 5) by kernel_rfl) hw).1;rw [show prog.bytesOf 5=1 by kernel_rfl,Nat.mul_one,reach_eq] at hlen
  have each:∀ i,i<m->∃ u:UInt8,W.cell? (a.add i)=some (.int .u8 u.toNat):=by
   intro i hi;obtain ⟨h0,h1⟩:=hc i hi;obtain ⟨z,e0,z0,z1⟩:=trod_rng (show prog.underlying 5=some (.int .u8) by kernel_rfl) h1;have e0:V i=.int .u8 z:=by simpa using e0
   have hz0:(0:Int)<=z:=z0;have hz1:z<=255:=z1;refine ⟨UInt8.ofNat z.toNat,?_⟩;rw [h0,e0]
   congr 2
   rw [UInt8.toNat_ofNat',Nat.mod_eq_of_lt (by omega)];omega
  obtain ⟨q,hq⟩:=Go.Deep.choose_lt each;refine ⟨(List.range len).map q,some a,cap,by simp,by simpa using hl,hm,by simpa using hlen,fun k u hk=>?_⟩;have hk':k<len:=by simpa using (List.getElem?_eq_some_iff.1 hk).1
  have hu:u=q k:=by
   rw [List.getElem?_map,List.getElem?_range hk'] at hk
   simpa using hk.symm
  subst hu;have h0:=hq k (by omega);obtain ⟨g,o,rfl⟩:=addr_of_cell (by have:=hq 0 (by omega);rw [add_zero'] at this;exact this);rw [add_off] at h0;exact ⟨g,o,rfl,h0⟩
end
end
section
open Go.ChangeShapes Go.WideShapes Go.ChangeAt Go.RowKit
section
variable {H:Type} {enc:TypeId×Value->H} {W:World} {base':Nat} {sp:Nat->Bool} {held:Bool}
theorem open_hash {fuel:Nat} {cs:List Value} {x:DataW H×List MemPlace} (h:DataW.trod enc prog W base' sp held fuel 45 cs=some x):∃ l:List UInt8,l.length=32/\cs=l.map bv:=by
 obtain ⟨xs,m,_,_,hl,hxl,hf⟩:=DataW.trod_array (show prog.underlying 45=some (.array 32 5) by kernel_rfl) h;rw [show prog.cellsOf 45=32 by kernel_rfl] at hl;rw [show prog.cellsOf 5=1 by kernel_rfl] at hf
 have each:∀ i,i<32->∃ u:UInt8,cs[i]?=some (bv u):=by
  intro i hi;have h1:=hf i hi;rw [List.getElem?_eq_getElem (by omega)] at h1;obtain ⟨z,e0,z0,z1⟩:=trod_rng (show prog.underlying 5=some (.int .u8) by kernel_rfl) h1;have hz0:(0:Int)<=z:=z0;have hz1:z<=255:=z1;refine ⟨UInt8.ofNat z.toNat,?_⟩;have h2:((cs.drop (i*1)).take 1)[0]?=some (.int .u8 z):=by rw [e0];rfl
  rw [List.getElem?_take,if_pos (by decide),List.getElem?_drop,Nat.mul_one,Nat.add_zero] at h2;rw [h2];unfold bv
  congr 2
  rw [UInt8.toNat_ofNat',Nat.mod_eq_of_lt (by omega)];omega
 obtain ⟨q,hq⟩:=Go.Deep.choose_lt each;refine ⟨(List.range 32).map q,by simp,List.ext_getElem? fun i=>?_⟩;by_cases hi:i<32
 ·rw [hq i hi,List.getElem?_map,List.getElem?_map,List.getElem?_range hi];rfl
 ·rw [List.getElem?_eq_none (by omega),List.getElem?_eq_none (by simp;omega)]
theorem open_hashes {fuel:Nat} {v:Value} {x:DataW H×List MemPlace} (h:DataW.trod enc prog W base' sp held fuel 29 [v]=some x) (hw:∀ a n c,v=.slice (some a) n c->a.spot=none) :
  ∃ hs,HashesAt W v hs/\∃ a n c,v=.slice a n c/\(a=none\/∃ g o,a=some ⟨g,o,none⟩):=by
 rcases Go.Deep.open_slice (show prog.underlying 29=some (.slice 45) by kernel_rfl) h with ⟨hcs,_⟩ | ⟨a,len,cap,m,n,D,Pl,hcs,_,hl,hm,hmm,hx,hc⟩
 ·obtain rfl:v=.slice none 0 0:=by simpa using hcs
  exact ⟨[],⟨none,0,rfl,Nat.le_refl _,by decide,fun k u hk=>by simp at hk⟩,none,0,0,rfl,.inl rfl⟩
 ·obtain rfl:v=.slice (some a) len cap:=by simpa using hcs
  have hlm:len<=m:=by rw [hmm];split <;> omega
  have hsp:=hw a _ _ rfl;obtain ⟨g,o,rfl⟩:∃ g o,a=⟨g,o,none⟩:=⟨a.block,a.off,by cases a;simp at hsp;rw [hsp]⟩;rw [show prog.cellsOf 45=32 by kernel_rfl] at hc
  have each:∀ i,i<len->∃ l:List UInt8,l.length=32/\∀ (j:Nat) u,(l.map bv)[j]?=some u->W.cell? ⟨g,o+i*32+j,none⟩=some u:=by
   intro i hi;obtain ⟨cs',h1,h2⟩:=hc i (by omega);obtain ⟨l,hl32,rfl⟩:=open_hash h2;obtain ⟨_,_,hcell⟩:=World.cells?_some h1;refine ⟨l,hl32,fun j u hj=>?_⟩;have hj32:j<32:=by have:=(List.getElem?_eq_some_iff.1 hj).1;rw [List.length_map] at this;omega
   have:=hcell j hj32;rw [Go.Deep.add_add,add_off,<-Nat.add_assoc] at this;exact this.trans hj
  obtain ⟨q,hq⟩:=Go.Deep.choose_lt each;refine ⟨(List.range len).map q,⟨some ⟨g,o,none⟩,cap,by simp,by simpa using hl,by unfold maxLen at hm;omega,fun i y hy=>?_⟩,_,_,_,rfl,.inr ⟨g,o,rfl⟩⟩;have hi:i<len:=by simpa using (List.getElem?_eq_some_iff.1 hy).1
  have hu:y=q i:=by
   rw [List.getElem?_map,List.getElem?_range hi] at hy
   simpa using hy.symm
  subst hu;obtain ⟨h32,hcl⟩:=hq i hi;refine ⟨h32,g,o,rfl,?_,fun j u hj=>hcl j u hj⟩;obtain ⟨u0,hu0⟩:∃ u,((q i).map bv)[0]?=some u:=⟨_,List.getElem?_eq_getElem (by rw [List.length_map];omega)⟩;exact lt_of_cell (hcl 0 u0 hu0)
theorem slice_has {P:Program} {b:Nat} {r:Reach} {t e:TypeId} {v:Value} (ht:P.underlying t=some (.slice e)) (h:Cell.okWide P W r b t v):∀ a n c,v=.slice (some a) n c->a.spot=none/\a.block<W.heap.size:=by
 rintro a n c rfl;simp only [Cell.okWide,ht,Cell.ok] at h;obtain ⟨_,_,_,h1,row,cells,h2,_⟩:=h;refine ⟨h1,?_⟩;unfold World.shape? at h2
 cases hg:W.heap[a.block]? with
 | none=>rw [hg] at h2;simp at h2
 | some o=>exact (Array.getElem?_eq_some_iff.1 hg).1
set_option maxRecDepth 100000 in
theorem open_rec {b:Nat} {r:Reach} {v:Value} {d:DataW H} {p:List MemPlace} (hv:Value.okWide prog W r b 31 v) (h:DataW.Trod enc prog W base' sp held 31 v d p) (hw:(d.weights prog 31).all (·<=reachBytes)=true) :
  ∃ C R bl,v=.agg C/\RecC C R bl/\HashesAt W bl R.hs/\(∃ a n c,bl=.slice a n c/\(a=none\/∃ g o,a=some ⟨g,o,none⟩))/\(∀ b o n c,bl=.slice (some ⟨b,o,none⟩) n c->b<W.heap.size)/\R.path.size<=reach/\-9223372036854775808<=R.size/\R.size<=9223372036854775807:=by
 have hu:prog.underlying 31=some (.struct _):=underlying31
 obtain ⟨C,rfl,hz,ts,hts,_,hrow⟩:∃ cs,v=.agg cs/\cs.size=prog.cellsOf 31/\Row.okWide prog W r b 31 cs:=by
  unfold Value.okWide at hv;rw [hu] at hv;exact hv
 rw [show prog.cellsOf 31=27 by kernel_rfl] at hz;have hts2:(prog.cellTypes prog.depth 31).map (fun ts=>(ts.length,ts[23]?))=some (27,some 29):=by kernel_rfl
 rw [hts,Option.map_some,Option.some.injEq,Prod.mk.injEq] at hts2;obtain ⟨a0,a1,a2,a3,a4,a5,a6,a7,a8,a9,a10,a11,a12,a13,a14,a15,a16,a17,a18,a19,a20,a21,a22,a23,a24,a25,a26,rfl⟩:=cells27 hz;obtain ⟨u23,hu23,hc23⟩:=hrow 23 a23 rfl;rw [hts2.1] at hu23;have e23:u23=29:=Option.some.inj (hu23.symm.trans hts2.2);subst e23;have hhas:=slice_has (show prog.underlying 29=some (.slice 45) by kernel_rfl) hc23;obtain ⟨fuel,hf⟩:=h;obtain ⟨xs,k,rfl,hx,hl,hxl,hf⟩:=DataW.trod_struct hu hf
 match xs,hxl with
 | [y0,y1,y2,y3,y4,y5,y6,y7,y8,y9,y10,y11],_ =>
  have g0:DataW.trod enc prog W base' sp held k 9 [a0]=some y0:=hf 0 _ rfl;have g1:DataW.trod enc prog W base' sp held k 3 [a1]=some y1:=hf 1 _ rfl;have g2:DataW.trod enc prog W base' sp held k 4 [a2]=some y2:=hf 2 _ rfl;have g3:DataW.trod enc prog W base' sp held k 3 [a3]=some y3:=hf 3 _ rfl;have g4:DataW.trod enc prog W base' sp held k 2 [a4]=some y4:=hf 4 _ rfl;have g7:DataW.trod enc prog W base' sp held k 3 [a22]=some y7:=hf 7 _ rfl;have g8:DataW.trod enc prog W base' sp held k 29 [a23]=some y8:=hf 8 _ rfl;obtain ⟨rfl,rfl⟩:=Prod.mk.inj hx;unfold DataW.weights at hw;rw [hu] at hw;simp only [List.map_cons,List.map_nil,DataW.weightsEach,List.all_append,Bool.and_eq_true] at hw;obtain ⟨w0,_⟩:=hw;obtain ⟨s0,e0,r0⟩:=trod_str underlying9 g0 w0;obtain ⟨z1,e1,_⟩:=trod_rng underlying3 g1;obtain ⟨b2,e2,_⟩:=DataW.trod_bool (show prog.underlying 4=some .bool by kernel_rfl) g2;obtain ⟨z3,e3,r3,r3'⟩:=trod_rng underlying3 g3;obtain ⟨z4,e4,_⟩:=trod_rng (show prog.underlying 2=some (.int .i64) by kernel_rfl) g4;obtain ⟨z7,e7,_⟩:=trod_rng underlying3 g7;obtain ⟨hs,h1,h2⟩:=open_hashes g8 fun a n c e=>(hhas a n c e).1;simp only [List.cons.injEq,and_true] at e0 e1 e2 e3 e4 e7;subst e0 e1 e2 e3 e4 e7;exact ⟨_,⟨s0,z1,b2,z3,z4,z7,hs⟩,a23,rfl,⟨rfl,rfl,rfl,rfl,rfl,rfl,rfl,rfl⟩,h1,h2,fun b o n c e=>(hhas _ n c e).2,r0,r3,r3'⟩
end
end
section
open Go.ChangeShapes Go.WideShapes Go.ChangeAt Go.RowKit
def RowsAt {α:Type} (m:Nat) (f:α->Value->List Value) (P:α->Value->Prop) (W:World) (v:Value) (l:List α):Prop :=
 ∃ a cap,v=.slice a l.length cap/\l.length<=cap/\cap<=maxLen/\∀ (k:Nat) x,l[k]?=some x->∃ g o pv,a=some ⟨g,o,none⟩/\P x pv/\∀ (j:Nat) u,(f x pv)[j]?=some u->W.cell? ⟨g,o+k*m+j,none⟩=some u
section
variable {H:Type} {enc:TypeId×Value->H} {W:World} {base':Nat} {sp:Nat->Bool} {held:Bool}
theorem open_rows {t e:TypeId} {m0:Nat} (ht:prog.underlying t=some (.slice e)) (hm0:prog.cellsOf e=m0) (hpos:0<m0) {α:Type} (f:α->Value->List Value) (P:α->Value->Prop) (hlen:∀ x pv,(f x pv).length=m0)
  (each0:∀ (fuel:Nat) (cs:List Value) (d:DataW H) (p:List MemPlace),DataW.trod enc prog W base' sp held fuel e cs=some (d,p)->(d.weights prog e).all (·<=reachBytes)=true->∃ x pv,cs=f x pv/\P x pv)
  {fuel:Nat} {v:Value} {d:DataW H} {p:List MemPlace} (h:DataW.trod enc prog W base' sp held fuel t [v]=some (d,p)) (hw:(d.weights prog t).all (·<=reachBytes)=true) :
  ∃ l:List α,RowsAt m0 f P W v l:=by
 rcases Go.Deep.open_slice ht h with ⟨hcs,_⟩ | ⟨a,len,cap,m,n,D,Pl,hcs,_,hl,hm,hmm,hx,hc⟩
 ·obtain rfl:v=.slice none 0 0:=by simpa using hcs
  exact ⟨[],none,0,rfl,Nat.le_refl _,by decide,fun k u hk=>by simp at hk⟩
 ·obtain rfl:v=.slice (some a) len cap:=by simpa using hcs
  have hlm:len<=m:=by rw [hmm];split <;> omega
  have hd:d=.slice ((List.range len).map D) ((List.range (m - len)).map fun j=>D (len+j)):=congrArg Prod.fst hx;subst hd;have hwt:=(weights_mem ht hw).2;rw [hm0] at hc
  have each:∀ i,i<len->∃ y:α×Value,(∀ (j:Nat) u,(f y.1 y.2)[j]?=some u->W.cell? (a.add (i*m0+j))=some u)/\P y.1 y.2:=by
   intro i hi;obtain ⟨cs',h1,h2⟩:=hc i (by omega);obtain ⟨x,pv,rfl,hx1⟩:=each0 _ _ _ _ h2 (hwt i hi);obtain ⟨_,_,hcell⟩:=World.cells?_some h1;refine ⟨(x,pv),fun j u hj=>?_,hx1⟩;have hjm:j<m0:=by have:=(List.getElem?_eq_some_iff.1 hj).1;rw [hlen] at this;exact this
   have:=hcell j hjm;rw [Go.Deep.add_add] at this;exact this.trans hj
  by_cases h0:len=0
  ·subst h0;exact ⟨[],some a,cap,rfl,by simp,hm,fun k u hk=>by simp at hk⟩
  ·obtain ⟨y0,_⟩:=each 0 (by omega);have:Inhabited (α×Value):=⟨y0⟩;obtain ⟨q,hq⟩:=Go.Deep.choose_lt each;refine ⟨(List.range len).map fun i=>(q i).1,some a,cap,by simp,by simpa using hl,hm,fun k x hk=>?_⟩;have hk':k<len:=by simpa using (List.getElem?_eq_some_iff.1 hk).1
   have hu:x=(q k).1:=by
    rw [List.getElem?_map,List.getElem?_range hk'] at hk
    simpa using hk.symm
   subst hu;obtain ⟨h1,h2⟩:=hq k hk';obtain ⟨u0,hu0⟩:∃ u,(f (q 0).1 (q 0).2)[0]?=some u:=⟨_,List.getElem?_eq_getElem (by rw [hlen];exact hpos)⟩;obtain ⟨g,o,rfl⟩:=addr_of_cell (by have:=(hq 0 (by omega)).1 0 _ hu0;rw [Nat.zero_mul,add_zero'] at this;exact this);refine ⟨g,o,(q k).2,rfl,h2,fun j u hj=>?_⟩;have:=h1 j u hj;rw [add_off,<-Nat.add_assoc] at this;exact this
def fileV (x:ByteArray×List UInt8) (pv:Value):List Value:=[.string x.1,pv]
def FilesIn (W:World) (v:Value) (l:List (ByteArray×List UInt8)):Prop:=RowsAt 2 fileV (fun x pv=>BytesIn W pv x.2/\x.1.size<=reach) W v l
structure Act23 where
 k:Int
 i:Int
 d:List UInt8
 again:Bool
def actV23 (x:Act23) (pv:Value):List Value:=[.int .i64 x.k,.int .i64 x.i,pv,.bool x.again]
def ActsIn23 (W:World) (v:Value) (l:List Act23):Prop:=RowsAt 4 actV23 (fun x pv=>BytesIn W pv x.d/\(-9223372036854775808<=x.k/\x.k<=9223372036854775807)/\(-9223372036854775808<=x.i/\x.i<=9223372036854775807)/\∀ n c,pv=.slice none n c->c=0) W v l
set_option maxRecDepth 100000 in
theorem open_file23 {n:Nat} {cs:List Value} {d:DataW H} {p:List MemPlace} (h:DataW.trod enc prog W base' sp held n 175 cs=some (d,p)) (hw:(d.weights prog 175).all (·<=reachBytes)=true) :
  ∃ (x:ByteArray×List UInt8) (pv:Value),cs=fileV x pv/\BytesIn W pv x.2/\x.1.size<=reach:=by
 have hu:prog.underlying 175=some (.struct _):=underlying175;obtain ⟨xs,k,rfl,hx,hl,hxl,hf⟩:=DataW.trod_struct hu h;rw [show prog.cellsOf 175=2 by kernel_rfl] at hl
 match cs,hl,xs,hxl with
 | [v0,v1],_,[y0,y1],_ =>
  have g0:DataW.trod enc prog W base' sp held k 9 [v0]=some y0:=hf 0 _ rfl;have g1:DataW.trod enc prog W base' sp held k 22 [v1]=some y1:=hf 1 _ rfl;obtain ⟨rfl,rfl⟩:=Prod.mk.inj hx;unfold DataW.weights at hw;rw [hu] at hw;simp only [List.map_cons,List.map_nil,DataW.weightsEach,List.all_append,Bool.and_eq_true] at hw;obtain ⟨w0,w1,_⟩:=hw;obtain ⟨s0,e0,r0⟩:=trod_str underlying9 g0 w0;obtain ⟨ks,hk⟩:=open_bytes_trod (d:=y1.1) (p:=y1.2) g1 w1;simp only [List.cons.injEq,and_true] at e0;subst e0;exact ⟨(s0,ks),v1,rfl,hk,r0⟩
theorem open_nil_bytes {fuel:Nat} {v:Value} {x:DataW H×List MemPlace} (h:DataW.trod enc prog W base' sp held fuel 22 [v]=some x):∀ n c,v=.slice none n c->c=0:=by
 rcases Go.Deep.open_slice (show prog.underlying 22=some (.slice 5) by kernel_rfl) h with ⟨hcs,_⟩ | ⟨a,len,cap,m,n,D,Pl,hcs,_⟩
 ·rintro n c rfl;simp only [List.cons.injEq,Value.slice.injEq,and_true] at hcs;exact hcs.2.2
 ·rintro n' c rfl;simp at hcs
set_option maxRecDepth 100000 in
theorem open_act23 {n:Nat} {cs:List Value} {d:DataW H} {p:List MemPlace} (h:DataW.trod enc prog W base' sp held n 95 cs=some (d,p)) (hw:(d.weights prog 95).all (·<=reachBytes)=true) :
  ∃ (x:Act23) (pv:Value),cs=actV23 x pv/\BytesIn W pv x.d/\(-9223372036854775808<=x.k/\x.k<=9223372036854775807)/\(-9223372036854775808<=x.i/\x.i<=9223372036854775807)/\∀ n c,pv=.slice none n c->c=0:=by
 have hu:prog.underlying 95=some (.struct _):=underlying95;obtain ⟨xs,k,rfl,hx,hl,hxl,hf⟩:=DataW.trod_struct hu h;rw [show prog.cellsOf 95=4 by kernel_rfl] at hl
 match cs,hl,xs,hxl with
 | [v0,v1,v2,v3],_,[y0,y1,y2,y3],_ =>
  have g0:DataW.trod enc prog W base' sp held k 3 [v0]=some y0:=hf 0 _ rfl;have g1:DataW.trod enc prog W base' sp held k 3 [v1]=some y1:=hf 1 _ rfl;have g2:DataW.trod enc prog W base' sp held k 22 [v2]=some y2:=hf 2 _ rfl;have g3:DataW.trod enc prog W base' sp held k 4 [v3]=some y3:=hf 3 _ rfl;obtain ⟨rfl,rfl⟩:=Prod.mk.inj hx;unfold DataW.weights at hw;rw [hu] at hw;simp only [List.map_cons,List.map_nil,DataW.weightsEach,List.all_append,Bool.and_eq_true] at hw;obtain ⟨w0,w1,w2,w3,_⟩:=hw;obtain ⟨z0,e0,r0⟩:=trod_rng underlying3 g0;obtain ⟨z1,e1,r1⟩:=trod_rng underlying3 g1;obtain ⟨ks,hk⟩:=open_bytes_trod (d:=y2.1) (p:=y2.2) g2 w2;obtain ⟨b3,e3,_⟩:=DataW.trod_bool (show prog.underlying 4=some .bool by kernel_rfl) g3;simp only [List.cons.injEq,and_true] at e0 e1 e3;subst e0 e1 e3;exact ⟨⟨z0,z1,ks,b3⟩,v2,rfl,hk,r0,r1,open_nil_bytes g2⟩
set_option maxRecDepth 100000 in
theorem open_acts23 {b:Nat} {r:Reach} {v:Value} {d:DataW H} {p:List MemPlace} (hv:Value.okWide prog W r b 84 v) (h:DataW.Trod enc prog W base' sp held 84 v d p) (hw:(d.weights prog 84).all (·<=reachBytes)=true):∃ l,ActsIn23 W v l:=by
 obtain ⟨o,len,cap,rfl⟩:=okWide_slice (show prog.underlying 84=some (.slice 95) by kernel_rfl) hv;obtain ⟨fuel,hf⟩:=h;exact open_rows (m0:=4) (show prog.underlying 84=some (.slice 95) by kernel_rfl) (by kernel_rfl) (by decide) actV23 _ (fun _ _=>rfl) (fun _ _ _ _ h1 h2=>open_act23 h1 h2) hf hw
structure Case23 where
 room:Int
 root:ByteArray
 there:Int
 old:List UInt8
 files:List (ByteArray×List UInt8)
def CaseIn (W:World) (C:Array Value) (x:Case23):Prop :=
 ∃ vo vf,C=#[.int .i64 x.room,.string x.root,.int .i64 x.there,vo,vf]/\BytesIn W vo x.old/\FilesIn W vf x.files/\x.root.size<=reach/\(-9223372036854775808<=x.room/\x.room<=9223372036854775807)/\-9223372036854775808<=x.there/\x.there<=9223372036854775807
set_option maxRecDepth 100000 in
theorem open_case {b:Nat} {r:Reach} {v:Value} {d:DataW H} {p:List MemPlace} (hv:Value.okWide prog W r b 83 v) (h:DataW.Trod enc prog W base' sp held 83 v d p) (hw:(d.weights prog 83).all (·<=reachBytes)=true) :
  ∃ C x,v=.agg C/\CaseIn W C x:=by
 have hu:prog.underlying 83=some (.struct _):=underlying83
 obtain ⟨C,rfl,hz,_⟩:∃ cs,v=.agg cs/\cs.size=prog.cellsOf 83/\Row.okWide prog W r b 83 cs:=by
  unfold Value.okWide at hv;rw [hu] at hv;exact hv
 rw [show prog.cellsOf 83=5 by kernel_rfl] at hz;obtain ⟨l⟩:=C
 replace hz:l.length=5:=hz
 obtain ⟨fuel,hf⟩:=h;have hf:DataW.trod enc prog W base' sp held fuel 83 l=some (d,p):=hf;obtain ⟨xs,k,rfl,hx,hl,hxl,hf⟩:=DataW.trod_struct hu hf
 match l,hz,xs,hxl with
 | [v0,v1,v2,v3,v4],_,[y0,y1,y2,y3,y4],_ =>
  have g0:DataW.trod enc prog W base' sp held k 3 [v0]=some y0:=hf 0 _ rfl;have g1:DataW.trod enc prog W base' sp held k 9 [v1]=some y1:=hf 1 _ rfl;have g2:DataW.trod enc prog W base' sp held k 3 [v2]=some y2:=hf 2 _ rfl;have g3:DataW.trod enc prog W base' sp held k 22 [v3]=some y3:=hf 3 _ rfl;have g4:DataW.trod enc prog W base' sp held k 81 [v4]=some y4:=hf 4 _ rfl;obtain ⟨rfl,rfl⟩:=Prod.mk.inj hx;unfold DataW.weights at hw;rw [hu] at hw;simp only [List.map_cons,List.map_nil,DataW.weightsEach,List.all_append,Bool.and_eq_true] at hw;obtain ⟨w0,w1,w2,w3,w4,_⟩:=hw;obtain ⟨z0,e0,r0⟩:=trod_rng underlying3 g0;obtain ⟨s1,e1,r1⟩:=trod_str underlying9 g1 w1;obtain ⟨z2,e2,r2⟩:=trod_rng underlying3 g2;obtain ⟨ks,hk⟩:=open_bytes_trod (d:=y3.1) (p:=y3.2) g3 w3;obtain ⟨fs,hfs⟩:=open_rows (m0:=2) (show prog.underlying 81=some (.slice 175) by kernel_rfl) (by kernel_rfl) (by decide) fileV _ (fun _ _=>rfl) (fun _ _ _ _ h1 h2=>open_file23 h1 h2) (d:=y4.1) (p:=y4.2) g4 w4;simp only [List.cons.injEq,and_true] at e0 e1 e2;subst e0 e1 e2;exact ⟨_,⟨z0,s1,z2,ks,fs⟩,rfl,v3,v4,rfl,hk,hfs,r1,r0,r2⟩
end
end
section
open Go.RowKit Go.Shelf
attribute [local go_sem] Oper.semAt_some
def n023 (R:RecS) (x:Case23):Nat:=x.old.length+x.root.size+R.path.size
def sumF (l:List (ByteArray×List UInt8)) (k:Nat):Nat:=((l.take k).map fun f=>f.2.length+f.1.size).sum
def sumA (l:List Act23) (k:Nat):Nat:=((l.take k).map fun f=>f.d.length).sum
theorem sumF_succ {l:List (ByteArray×List UInt8)} {k:Nat} {x:ByteArray×List UInt8} (h:l[k]?=some x):sumF l (k+1)=sumF l k+(x.2.length+x.1.size):=by
 unfold sumF;rw [List.take_add_one,h];simp
theorem sumA_succ {l:List Act23} {k:Nat} {x:Act23} (h:l[k]?=some x):sumA l (k+1)=sumA l k+x.d.length:=by
 unfold sumA;rw [List.take_add_one,h];simp
def largeV (R:RecS) (x:Case23) (l:List Act23):Bool:=decide (10<x.files.length)||(decide (20<l.length)||(decide (30000<n023 R x+sumF x.files 20+sumA l 30)||decide (50<R.hs.length)))
set_option maxRecDepth 100000 in
set_option maxHeartbeats 4000000 in
theorem large23_any (R:RecS) (C:Array Value) (bl:Value) (CC:Array Value) (x:Case23) (va:Value) (l:List Act23) (w:World) (hC:RecC C R bl) (hb:∃ a cap,bl=.slice a R.hs.length cap) (hp:R.path.size<=reach) (hx:CaseIn w CC x) (hA:ActsIn23 w va l) (hl:l.length<=9223372036854775807) (hfl:x.files.length<=9223372036854775807) (hbl:R.hs.length<=9223372036854775807) :
  Calls prog 49 #[.agg C,.agg CC,va] w fun e w'=>e=.returned (.bool (largeV R x l))/\Ext w w':=by
 obtain ⟨vo,vf,rfl,⟨oa,oc,rfl,ho1,ho2,ho3,_⟩,⟨fa,fc,rfl,hf1,hf2,hf3⟩,hr,_,_⟩:=hx;obtain ⟨aa,ac,rfl,ha1,ha2,ha3⟩:=hA;obtain ⟨ba,bc,rfl⟩:=hb;have hre:reach=140737488351232:=rfl;unfold maxLen at ho2 hf2 ha2;have HF:=lh hf3;have HA:=lh ha3;obtain ⟨W1,hW1⟩:∃ W1,W1=(w.alloc (.cells C 31)).alloc (.cells #[.int .i64 x.room,.string x.root,.int .i64 x.there,.slice oa x.old.length oc,.slice fa x.files.length fc] 83):=⟨_,rfl⟩;have hX1:Ext w W1:=hW1▸((Ext.refl w).alloc _).alloc _;have HX1:=lh hX1
 have hB3:W1.heap[w.heap.size]?=some (.cells C 31 (0,0)):=by
  rw [hW1,block_alloc_old (by rw [size_alloc];omega)];exact block_alloc_new _ _
 have hB4:W1.heap[w.heap.size+1]?=some (.cells #[.int .i64 x.room,.string x.root,.int .i64 x.there,.slice oa x.old.length oc,.slice fa x.files.length fc] 83 (0,0)):=by
  have:=block_alloc_new (w.alloc (.cells C 31)) (.cells #[.int .i64 x.room,.string x.root,.int .i64 x.there,.slice oa x.old.length oc,.slice fa x.files.length fc] 83 (0,0));rw [size_alloc] at this;rw [hW1];exact this
 have c0:=(cellB (k:=0) hB3).trans hC.c0;have c23:=(cellB (k:=23) hB3).trans hC.c23;have d1:W1.cell? ⟨w.heap.size+1,1,none⟩=some (.string x.root):=cellB hB4;have d3:W1.cell? ⟨w.heap.size+1,3,none⟩=some (.slice oa x.old.length oc):=cellB hB4;have d4:W1.cell? ⟨w.heap.size+1,4,none⟩=some (.slice fa x.files.length fc):=cellB hB4;have HN0:=lh (show n023 R x=x.old.length+x.root.size+R.path.size from rfl);have HLV:=lh (show largeV R x l=(decide (10<x.files.length)||(decide (20<l.length)||(decide (30000<n023 R x+sumF x.files 20+sumA l 30)||decide (50<R.hs.length)))) from rfl);have HSF:=lh (show ∀ k,x.files.length<=k->sumF x.files k=sumF x.files x.files.length from fun k hk=>by unfold sumF;rw [List.take_of_length_le hk,List.take_length]);have HSA:=lh (show ∀ k,l.length<=k->sumA l k=sumA l l.length from fun k hk=>by unfold sumA;rw [List.take_of_length_le hk,List.take_length]);generalize largeV R x l=LV at *;generalize n023 R x=n0 at *;generalize R.hs.length=nb at *;obtain ⟨nf,hnf⟩:∃ nf,nf=x.files.length:=⟨_,rfl⟩;have HNF:=lh hnf;obtain ⟨na,hna⟩:∃ na,na=l.length:=⟨_,rfl⟩;have HNA:=lh hna;rw [<-hnf] at d4 hf1 hfl HLV hW1 ⊢;rw [<-hna] at ha1 hl HLV ⊢;have hn0:n0<=3*reach:=by have:=HN0.out;omega
 have hold:=ho3;generalize x.old.length=no at *;clear hC hnf hna hf3 ha3 hX1;go_enter func49,ntmps49;go_upto_region 1 with (fail)
 rw [<-hW1];clear hW1;rw [hre] at hn0 hold hr hp;have hN0:=HN0.out;go_wp2_with fail;go_loopw [7,8] (fun nv iv wr=>Hid (∃ k:Nat,k<=nf/\k<=20/\iv=.int .i64 k/\nv=.int .i64 ((n0+sumF x.files k:Nat):Int)/\n0+sumF x.files k<=422212465053696+k*281474976702464/\Ext W1 wr)) (fun _ iv _=>20 - (intOf iv).toNat)
 case atStart =>
  have hz:sumF x.files 0=0:=by simp [sumF]
  refine ⟨0,Nat.zero_le _,Nat.zero_le _,rfl,?_,?_,Ext.refl _⟩
  ·rw [hz,Nat.add_zero,hN0];go_num
  ·rw [hz];omega
 case round =>
  obtain ⟨k,hk,hk20,rfl,rfl,hsm,hxr⟩:=hrel.out;clear hrel hN0;have HXr:=lh hxr;have c23r:=(hxr.cell (lt_of_cell c23)).trans c23;have d4r:=(hxr.cell (lt_of_cell d4)).trans d4;by_cases hlt:k<nf/\k<20
  ·obtain ⟨hlt1,hlt2⟩:=hlt;obtain ⟨y,hy⟩:∃ y,x.files[k]?=some y:=⟨_,List.getElem?_eq_getElem (by have:=HNF.out;omega)⟩;obtain ⟨g,o,pv,rfl,⟨⟨pa,pc,rfl,hp1,hp2,hp3,_⟩,hys⟩,hcell⟩:=HF.out k y hy;rw [hre] at hp3 hys;unfold maxLen at hp2;have q0:=After.cell ((((HX1.out.trans hxr).cell (lt_of_cell (hcell 0 _ rfl)))).trans (hcell 0 _ rfl));have q1:=After.cell ((((HX1.out.trans hxr).cell (lt_of_cell (hcell 1 _ rfl)))).trans (hcell 1 _ rfl));rw [Nat.add_zero] at q0;have qd:=After.cell d4r;have HS:=lh (sumF_succ hy);have hkn:(k:Int)<(nf:Int):=by omega
   generalize sumF x.files k=sk at *;generalize y.2.length=yl at *;clear hxr hcell hy c23r;go_upto_region 5 with (fail)
   clear d4r;refine wp_region_after (by kernel_rfl) (by kernel_rfl) ?_
   repeat (go_big_quiet_step (fail))
   refine wpQuiet_nil ?_;rintro _ ⟨z,rfl⟩;have HZ:=lh (HXr.out.trans z.x);clear q0 q1 qd;go_wp2_with fail;go_roundw
   case rel=>exact ⟨k+1,by omega,by omega,by go_num,by rw [HS.out];go_num,by rw [HS.out];omega,HZ.out⟩
   case measure=>simp [intOf] <;> omega
  ·have HF20:=lh (show sumF x.files 20=sumF x.files k from by
    by_cases h20:k=20
    ·rw [h20]
    ·have hkk:k=nf:=by omega
     rw [HSF.out 20 (by rw [<-HNF.out];omega),<-HNF.out,hkk])
   have hg:(¬ ((k:Int)<(nf:Int))/\¬ k<nf)\/(((k:Int)<(nf:Int)/\k<nf)/\¬ ((k:Int)<20)/\¬ k<20):=by
    by_cases h:k<nf
    ·exact .inr ⟨⟨by omega,h⟩,by omega,by omega⟩
    ·exact .inl ⟨by omega,h⟩
   rw [<-HF20.out] at hsm ⊢;clear hxr HF20 HSF HF hlt;generalize sumF x.files 20=s20 at *;obtain ⟨w9,rfl⟩:∃ w9,w9=wr:=⟨_,rfl⟩;rcases hg with ⟨hga,hgb⟩ | ⟨⟨hga,hgb⟩,hgc,hgd⟩
   all_goals
    go_wp2_with fail;go_loopw [7,9] (fun nv iv wr=>Hid (∃ j:Nat,j<=na/\j<=30/\iv=.int .i64 j/\nv=.int .i64 ((n0+s20+sumA l j:Nat):Int)/\n0+s20+sumA l j<=422212465053696+20*281474976702464+j*140737488351232/\Ext w9 wr)) (fun _ iv _=>30 - (intOf iv).toNat)
    case atStart =>
     have hz:sumA l 0=0:=by simp [sumA]
     refine ⟨0,Nat.zero_le _,Nat.zero_le _,rfl,?_,?_,Ext.refl _⟩
     ·rw [hz,Nat.add_zero];go_num
     ·have hz2:=hz;generalize sumA l 0=q0 at *;omega
    case round =>
     obtain ⟨j,hj,hj30,rfl,rfl,hsm2,hxr2⟩:=hrel.out;clear hrel;have HXq:=lh hxr2;have c23q:=(hxr2.cell (lt_of_cell c23r)).trans c23r;have d4q:=(hxr2.cell (lt_of_cell d4r)).trans d4r;by_cases hlt:j<na/\j<30
     ·obtain ⟨hlt1,hlt2⟩:=hlt;obtain ⟨y,hy⟩:∃ y,l[j]?=some y:=⟨_,List.getElem?_eq_getElem (by have:=HNA.out;omega)⟩;obtain ⟨g,o,pv,rfl,⟨⟨pa,pc,rfl,hp1,hp2,hp3,_⟩,_⟩,hcell⟩:=HA.out j y hy;rw [hre] at hp3;unfold maxLen at hp2;have q2:=(((HX1.out.trans HXr.out).trans hxr2).cell (lt_of_cell (hcell 2 _ rfl))).trans (hcell 2 _ rfl);have HS:=lh (sumA_succ hy);have hkn:(j:Int)<(na:Int):=by omega
      generalize sumA l j=sk at *;generalize y.d.length=yl at *;clear hxr2 hcell hy c23q;go_wp2_with fail;go_roundw
      case rel=>exact ⟨j+1,by omega,by omega,by go_num,by rw [HS.out];go_num,by rw [HS.out];omega,HXq.out⟩
      case measure=>simp [intOf] <;> omega
     ·have HA30:=lh (show sumA l 30=sumA l j from by
       by_cases h30:j=30
       ·rw [h30]
       ·have hkk:j=na:=by omega
        rw [HSA.out 30 (by rw [<-HNA.out];omega),<-HNA.out,hkk])
      have hg9:(¬ ((j:Int)<(na:Int))/\¬ j<na)\/(((j:Int)<(na:Int)/\j<na)/\¬ ((j:Int)<30)/\¬ j<30):=by
       by_cases h:j<na
       ·exact .inr ⟨⟨by omega,h⟩,by omega,by omega⟩
       ·exact .inl ⟨by omega,h⟩
      rw [HA30.out] at HLV;generalize sumA l j=sa at *
      have hlv:LV=(decide ((10:Int)<(nf:Int))||(decide ((20:Int)<(na:Int))||(decide ((30000:Int)<(n0:Int)+(s20:Int)+(sa:Int))||decide ((50:Int)<(nb:Int))))):=by
       rw [HLV.out]
       congr 1
       ·rw [decide_eq_decide];omega
       ·congr 1
        ·rw [decide_eq_decide];omega
        ·congr 1
         ·rw [decide_eq_decide];omega
         ·rw [decide_eq_decide];omega
      have HX9:=lh ((HX1.out.trans HXr.out).trans hxr2);clear hxr2 HA30 HSA HA hlt HLV;rcases hg9 with ⟨hh1,hh2⟩ | ⟨⟨hh1,hh2⟩,hh3,hh4⟩
      all_goals
       cases e1:decide ((10:Int)<(nf:Int))
       case' false =>
        cases e2:decide ((20:Int)<(na:Int))
        case' false =>
         cases e3:decide ((30000:Int)<(n0:Int)+(s20:Int)+(sa:Int))
         case' false =>
          cases e4:decide ((50:Int)<(nb:Int))
       all_goals
        simp only [*] at hlv;have HLV:=lh hlv;clear hlv;go_wp2_with fail;go_ret;exact ⟨ret_bool (HLV.out.symm),HX9.out⟩
end
section
open Go.RowKit Go.Shelf
attribute [local go_sem] Oper.semAt_some
theorem Things.from {w0 w1 w:World} {L:List Thing} (x:Ext w0 w1) (h:Things w1 w L):Things w0 w L:=by
 obtain ⟨x1,X,hX,hall,hp⟩:=h;exact ⟨x.trans x1,X,hX,fun z hz=>⟨(hall z hz).1,fun b hb=>Nat.le_trans x.size ((hall z hz).2 b hb)⟩,hp⟩
structure Two (k:Nat) (K:Dk):Prop where
 run:DkRun k K
 fl:Fl K
theorem Two.made {room:Nat} (h1:1024<=room) (h2:room<=1048576):Two 0 (Dk.made room):=⟨DkRun.made h1 h2,Fl.made room⟩
theorem Two.act {k:Nat} {K:Dk} (T:Two k K) (x:Eff):Two (k+1) (K.act x).2:=⟨T.run.act x,T.fl.act x⟩
theorem Two.mono {k m:Nat} {K:Dk} (T:Two k K) (h:k<=m):Two m K:=⟨T.run.mono h,T.fl⟩
theorem Two.dofit {k:Nat} {K:Dk} (T:Two k K) (h:k<=100000):DoFit K:=T.run.dofit T.fl (by omega)
theorem usedL_mem:∀ {l:Nodes} {x:ByteArray×Nd},x∈l->64+x.2.data.size<=usedL l
 | y::r,x,h=>by
  rw [usedL];rcases List.mem_cons.1 h with rfl | h
  ·omega
  ·have:=usedL_mem h;omega
theorem Two.data {k:Nat} {K:Dk} (T:Two k K) (p:ByteArray):(readE K.live p).1.data.size<=1048576:=by
 have h0:nd0.data.size<=1048576:=by decide
 unfold readE;split
 ·split
  ·rename_i n hn;have h1:=usedL_mem (findA_mem hn);have h2:=T.run.ok.live.used;have h3:=T.run.ok.r2;dsimp only at h1 ⊢;omega
  ·exact h0
 ·exact h0
theorem conv_in {w:World} {v:Value} {l:List UInt8} (h:BytesIn w v l):(convert 22 9 v).run prog w=.ok (.string (bytesB l)) w:=by
 obtain ⟨a,cap,rfl,h1,h2,h3,h4⟩:=h
 cases a with
 | none =>
  cases l with
  | nil =>
   rw [List.length_nil,run_convert_bytes_string w 22 9 5 none 0 cap underlying22 (by kernel_rfl) underlying9];rfl
  | cons x r =>
   obtain ⟨g,o,e,_⟩:=h4 0 x rfl
   cases e
 | some A =>
  exact run_convert_bytes_back w 22 9 5 A cap l underlying22 (by kernel_rfl) underlying9 (fun j hj=>by
   obtain ⟨g,o,e,hc⟩:=h4 j l[j] (List.getElem?_eq_getElem hj)
   cases e
   rw [append_kw.add_off]
   exact hc)
theorem wpQuiet_conv {P:Program} {ops:Array Oper} {C:World->Prop} {Q:Act->Prop} {a:Act} {o:Oper} {rest:List Oper} (hgd:o.guard=none) (src dst:TypeId) (x:Operand) (ho:o.op=.convert src dst x) (v u:Value) (hx:a.eval x=v)
  (hr:∀ w,C w->(convert src dst v).run P w=.ok u w) (h:wpQuiet P ops C Q rest (a.put o.dst u)):wpQuiet P ops C Q (o::rest) a :=
 wpQuiet_step fun K hK=>by
  rw [if_pos (by simp only [Region.wanted,hgd])];refine ⟨u,fun w hw=>?_,hK _ h⟩;have:=hr w hw;unfold Oper.quietAt;rw [run_convertOp _ _ _ ho _ _ _ (by rw [hx];exact this)];exact ⟨rfl,rfl⟩
def Set23 (w0 w:World) (d q F G:Nat) (K:Dk):Prop :=
 ∃ qf ff pl X,Things w0 w [.disk d K,.ref q K,.gen (finG F qf ff pl),.gen (rfinG G X)]/\FinRel ff pl/\FinSame ff X/\X.length<=10/\qf<=2000
def rec16C (p:ByteArray):Array Value:=#[.string p,.int .i64 1,.bool false,.int .i64 0,.int .i64 0,.int .i64 0,.int .u32 0,.int .u32 0,.int .u32 0,.int .u32 0,.int .u32 0,.int .u32 0,.int .u32 0,.int .u32 0,.int .u32 0,.int .u32 0,.int .u32 0,.int .u32 0,.int .u32 0,.int .u32 0,.int .u32 0,.int .u32 0,.int .i64 16,.slice none 0 0,.string ⟨#[]⟩,.int .i64 0,.int .i64 0]
def rec16 (p:ByteArray):RecS:=⟨p,1,false,0,0,16,[]⟩
theorem rec16C_rec (p:ByteArray):RecC (rec16C p) (rec16 p) (.slice none 0 0):=⟨rfl,rfl,rfl,rfl,rfl,rfl,rfl,rfl⟩
theorem rec16_good (p:ByteArray):(rec16 p).Good 0:=⟨rfl,rfl,rfl,Nat.zero_le _,rfl,rfl⟩
theorem rec16_hs (w:World) (p:ByteArray):HashesAt w (.slice none 0 0) (rec16 p).hs:=⟨none,0,rfl,Nat.le_refl _,by decide,fun i h hh=>by cases hh⟩
set_option maxRecDepth 100000 in
set_option maxHeartbeats 1000000 in
theorem opened23_bad (C:Array Value) (CC:Array Value) (x:Case23) (w:World) (hx:CaseIn w CC x) (hr:x.room<1024\/1048576<x.room) :
  Calls prog 50 #[.agg C,.agg CC] w fun e w'=>e=.returned (.tuple #[.pointer none,.pointer none,.pointer none,.pointer none])/\Ext w w':=by
 obtain ⟨vo,vf,rfl,-,-,-,-,-⟩:=hx;obtain ⟨W1,hW1⟩:∃ W1,W1=(w.alloc (.cells C 31)).alloc (.cells #[.int .i64 x.room,.string x.root,.int .i64 x.there,vo,vf] 83):=⟨_,rfl⟩;have HX1:=lh (show Ext w W1 from hW1▸((Ext.refl w).alloc _).alloc _)
 have hB4:W1.heap[w.heap.size+1]?=some (.cells #[.int .i64 x.room,.string x.root,.int .i64 x.there,vo,vf] 83 (0,0)):=by
  have:=block_alloc_new (w.alloc (.cells C 31)) (.cells #[.int .i64 x.room,.string x.root,.int .i64 x.there,vo,vf] 83 (0,0));rw [size_alloc] at this;rw [hW1];exact this
 have d0:W1.cell? ⟨w.heap.size+1,0,none⟩=some (.int .i64 x.room):=cellB hB4;have HNw:=fun w1=>lh (New_bad x.room w1 hr);clear hr hB4;go_enter func50,ntmps50;go_upto_region 1 with (fail)
 rw [<-hW1];clear hW1;go_wp2_with fail;refine (HNw _).out.mono ?_;rintro e w2 ⟨rfl,hw⟩;obtain rfl:=hw.symm;clear hw;go_wp2_with fail
 (try simp only [Exit.inBlock,Exit.then])
 refine bodyPost_ret (results_tmp4 rfl _ _) rfl ?_;exact ⟨rfl,HX1.out⟩
def AddsIn (W1 w:World) (d q F G:Nat) (D0:Dk) (k:Nat):Prop :=
 ∃ (qf:Nat) (ff:ByteArray->Option (List UInt8)) (pl:List UInt8->List Pl) (X:List RF),Things W1 w [.disk d D0,.ref q D0,.gen (finG F qf ff pl),.gen (rfinG G X)]/\FinRel ff pl/\FinSame ff X/\X.length<=k/\qf<=200*k
theorem AddsIn.is_ext {W1 w:World} {d q F G:Nat} {D0:Dk} {k:Nat} (h:AddsIn W1 w d q F G D0 k):Ext W1 w:=by
 obtain ⟨_,_,_,_,h1,_⟩:=h;exact h1.is_ext
theorem adds23 {W1 wr:World} {d q F G:Nat} {D0:Dk} {k:Nat} (h:AddsIn W1 wr d q F G D0 k) (hk:k<10) (nm:ByteArray) (hnm:nm.size<=30000) (l:List UInt8) (pv:Value) (T:ShaTabs W1) (hbo:BytesOff W1.heap.size W1 pv l) (ho:∀ a n c,pv=.slice (some a) n c->0<n->a.block<W1.heap.size) :
  ∃ Mid:World->Prop,(∀ z:After wr,Calls prog 109 #[.pointer (some ⟨F,0,none⟩),.string nm,pv] z.v fun e w'=>(∃ c,e=.returned (.int .i64 c))/\Mid w') /\
   ∀ w',Mid w'->Ext W1 w'/\∀ z:After w',Calls prog 110 #[.pointer (some ⟨G,0,none⟩),.string nm,pv] z.v fun e w''=>(∃ c,e=.returned (.int .i64 c))/\AddsIn W1 w'' d q F G D0 (k+1):=by
 obtain ⟨qf,ff,pl,X,h1,hR,hS,hX,hq⟩:=h;by_cases hl:l.length<=4096
 ·refine ⟨fun w'=>Things W1 w' [.disk d D0,.ref q D0,.gen (finG F (qf+200) (addF nm l ff) (addTo nm (fun x=>restP nm (pl x)) (hashesL l) (countN l.length))),.gen (rfinG G X)],fun z=>?_,fun w' hw=>⟨hw.is_ext,fun z=>?_⟩⟩
  ·have hz:=h1.ext z.x;exact (fadd_many (A:=[.disk d D0,.ref q D0]) (B:=[.gen (rfinG G X)]) hz hR (by omega) nm (by omega) (T.ext hz.is_ext) l pv (bytesOff_any hbo hz.is_ext hz.is_ext.size) ho hl).mono fun e w' hh=>⟨⟨_,hh.1⟩,hh.2⟩
  ·have hz:=hw.ext z.x;refine (rfadd_many (A:=[.disk d D0,.ref q D0,.gen (finG F (qf+200) (addF nm l ff) (addTo nm (fun x=>restP nm (pl x)) (hashesL l) (countN l.length)))]) (B:=[]) hz nm (by omega) l pv (bytesOff_any hbo hz.is_ext hz.is_ext.size) ho hl).mono ?_;rintro e w'' ⟨he,o,ho1,ho2,h3⟩;refine ⟨⟨_,he⟩,_,_,_,_,h3,hR.add nm (by omega) l,hS.add nm l o ho1 ho2,?_,by omega⟩;exact insX_len o _ (Nat.le_trans (List.length_filter_le (fun x:RF=>!(x.nm.toList==nm.toList)) X) hX)
 ·refine ⟨fun w'=>Things W1 w' [.disk d D0,.ref q D0,.gen (finG F qf ff pl),.gen (rfinG G X)],fun z=>?_,fun w' hw=>⟨hw.is_ext,fun z=>?_⟩⟩
  ·have hz:=h1.ext z.x;exact (fadd_bad (F:=F) (q:=qf) (ff:=ff) (pl:=pl) hz (by simp) nm l pv (bytesOff_any hbo hz.is_ext hz.is_ext.size) (by omega)).mono fun e w' hh=>⟨⟨_,hh.1⟩,hz.ext hh.2⟩
  ·have hz:=hw.ext z.x;exact (radd_long z.v G nm l pv _ (bytesOff_any hbo hz.is_ext hz.is_ext.size) (by omega)).mono fun e w'' hh=>⟨⟨_,hh.1⟩,qf,ff,pl,X,hz.ext hh.2,hR,hS,by omega,by omega⟩
theorem rdraft_name {w0 w:World} {L:List Thing} {p:Nat} {r:RecS} {N:Nat} {name:ByteArray} {ps:List (Option (List UInt8))} (h:Things w0 w L) (hm:Thing.rdraft p r N name ps∈L):w.cell? ⟨p,27,none⟩=some (.string name):=by
 obtain ⟨M,I,⟨g,D,cs,bl,_,hd⟩,_⟩:=h.at hm;exact (cellB hd.blk).trans hd.c27
end
end Go.Proofs.YtldppmjjgljinaaGreatDoor
