import Derived.Test.YtodickpibbbiiaaGreatDoorAgG3
import Derived.Test.YtodickpibbbiiaaGreatDoorAgG2
import Derived.Deep.CutRange
open Go.Proofs.Tryz
namespace Go.Proofs.YtodickpibbbiiaaGreatDoor
section
open Go.RowKit
attribute [local go_sem] Oper.semAt_some
theorem ord_any {w:World} {v:Value} {l d:List Ent} (h:EntsSl w v l) (hf:Fst l d) (hl:l.length<=100000):OrdAt w v d:=fun w1 x1=>by
 refine (aclone_row (h.ext x1) hl).mono ?_;rintro e w2 ⟨u,rfl,hu⟩;obtain ⟨g,cap,rfl,hg,hc1,hc2,hrow,x2⟩:=hu.out;refine ⟨_,rfl,x2,(asort_any hrow rfl hl hc1).mono ?_⟩;rintro e w3 ⟨rfl,h3⟩;obtain ⟨l',k1,k2,k3,k4,k5⟩:=h3.out;have x3:Ext w1 w3:=k5.fresh x2 hg;have hd:ddN l' l.length=d:=(ddN_is k2 k3 k1).one hf;refine ⟨rfl,x3,(acompactG k4 k1.symm hl hc1 hc2).mono ?_⟩;rintro e w4 ⟨u4,rfl,h4⟩;obtain ⟨rfl,r1,r2⟩:=h4.out;rw [hd] at r1 ⊢;have hdl:d.length<=l.length:=by rw [<-hd];exact ddN_len l' l.length
 exact ⟨_,rfl,(show EntsSl w4 (.slice (some ⟨g,0,none⟩) d.length cap) d from ⟨g,0,cap,rfl,by omega,hc2,r1⟩).gen,r2.fresh x3 hg⟩
theorem Fst.sub {l d:List Ent} (h:Fst l d) {x:Ent} (hx:x∈d):x∈l:=by
 have:x∈d.filter (fun z=>keyE z==keyE x):=List.mem_filter.2 ⟨hx,by simp⟩;rw [h.fl] at this;exact (List.mem_filter.1 (List.mem_of_mem_take this)).1
theorem nd_len:∀ (d l:List Ent),d.Pairwise (fun x y=>keyE x<keyE y)->(∀ x∈d,x∈l)->d.length<=l.length
 | [],_,_,_=>Nat.zero_le _
 | x::t,l,hp,hs=>by
  obtain ⟨h1,h2⟩:=List.pairwise_cons.1 hp;obtain ⟨A,B,rfl⟩:=List.append_of_mem (hs x (List.mem_cons_self ..))
  have:=nd_len t (A++B) h2 fun y hy=>by
   rcases List.mem_append.1 (hs y (List.mem_cons_of_mem _ hy)) with h | h
   ·exact List.mem_append.2 (.inl h)
   ·rcases List.mem_cons.1 h with rfl | h
    ·exact absurd (h1 y hy) (kl_irr _)
    ·exact List.mem_append.2 (.inr h)
  rw [List.length_append] at this;rw [List.length_append,List.length_cons,List.length_cons];omega
theorem Fst.len {l d:List Ent} (h:Fst l d):d.length<=l.length:=nd_len d l h.so fun _ hx=>h.sub hx
theorem agoesA {w:World} {v:Value} {l d:List Ent} (h:EntsSl w v l) (hf:Fst l d) (hl:l.length<=1000) (hpz:∀ x∈l,x.path.size<=100000) (p:Pol) (now:Int) :
  Calls prog 41 #[polV p,v,.int .i64 now] w fun e w'=>∃ u,e=.returned u/\Hid (CellsAt w' u ((outY p now d).map Value.string)/\Ext w w'):=by
 by_cases hp:okP p=true
 ·obtain ⟨K,hK,hm⟩:=paths_of d;have hg:=goesS_is (p:=p) (now:=now) hK hm (rise_data hf.rise);refine (agoes_core (ord_any h hf (by omega)) (Nat.le_trans hf.len hl) (fun x hx=>hpz x (hf.sub hx)) p hp now K hK hm).mono ?_;rintro e w' ⟨u,rfl,hu⟩;obtain ⟨h1,h2⟩:=hu.out;refine ⟨u,rfl,?_,h2⟩;unfold outY;rw [if_pos hp,<-hg];refine CellsAt.of_owns (base:=w.heap.size) (e:=9) ?_;rw [List.length_map];exact h1
 ·obtain ⟨g,o,c,rfl,_⟩:=h;refine (agoes_no w _ _ c p (by simpa using hp) now).mono ?_;rintro e w' ⟨rfl,x⟩;refine ⟨_,rfl,.inl ⟨rfl,?_⟩,x⟩;unfold outY;rw [if_neg hp];rfl
theorem policy19 (p:Pol) (w:World):Calls prog 43 #[polV p] w fun e w'=>e=.returned (polV p)/\Ext w w':=by
 have HN:=lh (block_alloc_new (w.alloc (.cells #[.int .i64 p.kind,.int .i64 p.keep,.int .i64 p.age] 89 (0,0))) (.cells #[.int .i64 0,.int .i64 0,.int .i64 0] 97 (0,0)));have X0:=lh (((Ext.refl w).alloc (.cells #[.int .i64 p.kind,.int .i64 p.keep,.int .i64 p.age] 89 (0,0))).alloc (.cells #[.int .i64 0,.int .i64 0,.int .i64 0] 97 (0,0)));have HI:=lh (show (prog.info? 97).map (·.size)=some 3 from by kernel_rfl);have HO:=lh (by simp [Value.oneCell']:(#[.int .i64 p.kind,.int .i64 p.keep,.int .i64 p.age]:Array Value).all (·.oneCell')=true);have HSz:=lh (show (w.alloc (.cells #[.int .i64 p.kind,.int .i64 p.keep,.int .i64 p.age] 89 (0,0))).heap.size=w.heap.size+1 from by simp);rw [HSz.out] at HN;unfold polV;go_enter func43,ntmps43;go_wp2_with (refine wpList_storeT rfl 97 (.tmp 2) (.tmp 9) rfl (w.heap.size+1) #[.int .i64 p.kind,.int .i64 p.keep,.int .i64 p.age] rfl rfl 97 _ HN.out HI.out rfl HO.out ?_;intro W6 hb6 ht6;have HB6:=lh hb6;have HT6:=lh ht6;clear hb6 ht6;go_frame);exact bodyPost_ret (results_cell_row rfl _ _ (w.heap.size+1) 97 _ (0,0) _ rfl HB6.out underlying97 rfl HI.out) rfl ⟨rfl,HT6.out.fresh X0.out (by omega)⟩
theorem cells_texts {w:World} {v:Value} {l:List ByteArray} (h:CellsAt w v (l.map Value.string)):TextsOwn w v l:=by
 rcases h with ⟨rfl,h0⟩ | ⟨g,cap,rfl,h2,h3,h4,h5⟩
 ·have:l=[]:=by simpa using h0
  subst this;exact ⟨⟨none,0,rfl,Nat.le_refl _,by decide⟩,fun a n c e k s hs=>by simp at hs⟩
 ·rw [List.length_map] at h3;refine ⟨⟨_,cap,by rw [List.length_map],h3,h4⟩,fun a n c e k s hs=>?_⟩
  cases e
  exact ⟨g,rfl,h5 k _ (by rw [List.getElem?_map,hs];rfl)⟩
def EntsIn (w:World) (v:Value) (l:List Ent):Prop:=∃ (a:Option Addr) (cap:Nat),v=.slice a l.length cap/\l.length<=cap/\cap<=9223372036854775807/\(a=none->cap=0) /\
 ∀ (k:Nat) (x:Ent),l[k]?=some x->(x.name.size<=reach/\x.path.size<=reach)/\∃ g o,a=some ⟨g,o,none⟩/\w.rangeAt g (o+k*4) (entV x)
section
open Go.ChangeShapes Go.WideShapes Go.ChangeAt
variable {H:Type} {enc:TypeId×Value->H} {W:World} {base':Nat} {sp:Nat->Bool} {held:Bool}
set_option maxRecDepth 100000 in
theorem open_ent {n:Nat} {cs:List Value} {d:DataW H} {p:List MemPlace} (h:DataW.trod enc prog W base' sp held n 93 cs=some (d,p)) (hw:(d.weights prog 93).all (·<=reachBytes)=true) :
  ∃ x:Ent,cs=entV x/\x.name.size<=reach/\x.path.size<=reach:=by
 have hu:prog.underlying 93=some (.struct _):=underlying93;obtain ⟨xs,k,rfl,hx,hl,hxl,hf⟩:=DataW.trod_struct hu h;rw [show prog.cellsOf 93=4 by kernel_rfl] at hl
 match cs,hl,xs,hxl with
 | [v0,v1,v2,v3],_,[y0,y1,y2,y3],_ =>
  have g0:=hf 0 _ rfl;have g1:=hf 1 _ rfl;have g2:=hf 2 _ rfl;have g3:=hf 3 _ rfl;rw [show prog.cellsOf _=1 by kernel_rfl] at g0 g1 g2 g3;have g0:DataW.trod enc prog W base' sp held k 9 [v0]=some y0:=g0;have g1:DataW.trod enc prog W base' sp held k 9 [v1]=some y1:=g1;have g2:DataW.trod enc prog W base' sp held k 2 [v2]=some y2:=g2;have g3:DataW.trod enc prog W base' sp held k 3 [v3]=some y3:=g3;obtain ⟨rfl,rfl⟩:=Prod.mk.inj hx;unfold DataW.weights at hw;rw [hu] at hw;simp only [List.map_cons,List.map_nil,DataW.weightsEach,List.all_append,Bool.and_eq_true] at hw;obtain ⟨w0,w1,w2,w3,_⟩:=hw;obtain ⟨s0,e0,r0⟩:=trod_str underlying9 g0 w0;obtain ⟨s1,e1,r1⟩:=trod_str underlying9 g1 w1;obtain ⟨z2,e2,_⟩:=trod_rng (show prog.underlying 2=some (.int .i64) by kernel_rfl) g2;obtain ⟨z3,e3,_⟩:=trod_rng underlying3 g3;simp only [List.cons.injEq,and_true] at e0 e1 e2 e3;subst e0 e1 e2 e3;exact ⟨⟨s0,s1,z2,z3⟩,rfl,r0,r1⟩
set_option maxRecDepth 100000 in
theorem open_ents {b:Nat} {r:Reach} {v:Value} {d:DataW H} {p:List MemPlace} (hv:Value.okWide prog W r b 90 v) (h:DataW.Trod enc prog W base' sp held 90 v d p) (hw:(d.weights prog 90).all (·<=reachBytes)=true) :
  ∃ l,EntsIn W v l:=by
 obtain ⟨o,len,cap,rfl⟩:=okWide_slice (show prog.underlying 90=some (.slice 93) by kernel_rfl) hv;obtain ⟨fuel,hf⟩:=h;rcases Go.Deep.open_slice (show prog.underlying 90=some (.slice 93) by kernel_rfl) hf with ⟨hcs,_⟩ | ⟨a,len',cap',m,n,D,Pl,hcs,_,hl,hm,hmm,hx,hc⟩
 ·obtain ⟨rfl,rfl,rfl⟩:o=none/\len=0/\cap=0:=by simpa [Value.cells] using hcs
  exact ⟨[],none,0,rfl,Nat.le_refl _,by decide,fun _=>rfl,fun k u hk=>by simp at hk⟩
 ·obtain ⟨rfl,rfl,rfl⟩:o=some a/\len=len'/\cap=cap':=by simpa [Value.cells] using hcs
  have hlm:len<=m:=by rw [hmm];split <;> omega
  have hd:d=.slice ((List.range len).map D) ((List.range (m - len)).map fun j=>D (len+j)):=congrArg Prod.fst hx;subst hd;have hwt:=(weights_mem (show prog.underlying 90=some (.slice 93) by kernel_rfl) hw).2;rw [show prog.cellsOf 93=4 by kernel_rfl] at hc
  have each:∀ i,i<len->∃ y:Ent,(∀ (j:Nat) u,(entV y)[j]?=some u->W.cell? (a.add (i*4+j))=some u)/\y.name.size<=reach/\y.path.size<=reach:=by
   intro i hi;obtain ⟨cs',h1,h2⟩:=hc i (by omega);obtain ⟨x,rfl,hx1⟩:=open_ent h2 (hwt i hi);obtain ⟨_,_,hcell⟩:=World.cells?_some h1;refine ⟨x,fun j u hj=>?_,hx1⟩;have hj5:j<4:=(List.getElem?_eq_some_iff.1 hj).1;have:=hcell j hj5;rw [Go.Deep.add_add] at this;exact this.trans hj
  have:Inhabited Ent:=⟨⟨⟨#[]⟩,⟨#[]⟩,0,0⟩⟩;obtain ⟨q,hq⟩:=Go.Deep.choose_lt each;refine ⟨(List.range len).map q,some a,cap,by simp,by simpa using hl,hm,fun e=>(by cases e),fun k x hk=>?_⟩;have hk':k<len:=by simpa using (List.getElem?_eq_some_iff.1 hk).1
  have hu:x=q k:=by
   rw [List.getElem?_map,List.getElem?_range hk'] at hk
   simpa using hk.symm
  subst hu;obtain ⟨h1,h2⟩:=hq k hk';obtain ⟨g,o,rfl⟩:=addr_of_cell (by have:=(hq 0 (by omega)).1 0 _ rfl;rw [Nat.zero_mul,add_zero'] at this;exact this);refine ⟨h2,g,o,rfl,fun j u hj=>?_⟩;have:=h1 j u hj;rw [add_off,<-Nat.add_assoc] at this;exact this
end
end
section
open Go.RowKit
attribute [local go_sem] Oper.semAt_some
section
variable {P:Program} {ops:Array Oper} {Q:Exit->Act->World->Prop} {md:Region.Mode} {S:World->Prop} {a:Act}
theorem wpAnyH_append {i:Nat} {o:Oper} {fuel:Nat} {listed:Array Bool} {w:World} {rest:List Oper} (hr:Region.ready md ops listed=[i]) (hi:ops.toList.drop i=o::rest) (hgd:o.guard=none)
  {t e:TypeId} {z:Value} {k bytes:Nat} (el:ElemK P t e z k bytes)
  (base:Nat) (v:Value) (m:Nat) (xs:List Value) (hown:w.ownsRow base e k v m xs) (g:Nat) (us:List Value) (hus:us.length=k) (s x:Operand)
  (ho:o.op=.call { callee:=.builtin .append,args:=#[s,x],argTypes:=#[t,t] })
  (hs:a.eval s=v) (hx:a.eval x=.slice (some ⟨g,0,none⟩) 1 1) (hnew:∀ (j:Nat) u,us[j]?=some u->w.cell? ⟨g,j,none⟩=some u) (h1:∀ u∈us,u.oneCell'=true) (hn:m<=68719476736) (hbase:base<=w.heap.size)
  (h:∀ v' w',w'.ownsRow base e k v' (m+1) (xs++us)->w.grownBy w' v.ownBlock->(v'.ownBlock=v.ownBlock\/v'.ownBlock=some w.heap.size)->S w'/\wpAnyH P md ops Q S fuel (listed.setIfInBounds i true) (a.put o.dst v') w'):wpAnyH P md ops Q S (fuel+1) listed a w:=by
 obtain ⟨v',w',hrun,h2,h3,h4⟩:=run_append_kwOp (a:=a) el base v m xs hown g us hus s x ho hs hx hnew h1 hn hbase;obtain ⟨h5,h6⟩:=h v' w' h2 h3 h4;exact wpAnyH_one hr hi hgd hrun h5 h6
end
set_option maxRecDepth 100000 in
set_option maxHeartbeats 16000000 in
theorem goes_walk (p:Pol) (v:Value) (l:List Ent) (now:Int) (w:World) (hv:EntsIn w v l) (E:EnvA w):Calls prog 8 #[polV p,v,.int .i64 now] w fun e w'=>e=.returned (.bool true)/\Ext w w':=by
 have HAw:=lh (fun w1 (x:Ext w w1)=>awake19 w1 (E.ext x));obtain ⟨va,vc,rfl,hv1,hv2,hv4,hv3⟩:=hv;have HV:=lh hv3;obtain ⟨n,hn⟩:∃ n,n=l.length:=⟨_,rfl⟩;have HN:=lh hn;rw [<-hn] at hv1 ⊢;clear E hv3 hn;have HP:=lh (show polV p=.agg #[.int .i64 p.kind,.int .i64 p.keep,.int .i64 p.age] from rfl);obtain ⟨pc,hpc⟩:∃ pc,pc=(#[.int .i64 p.kind,.int .i64 p.keep,.int .i64 p.age]:Array Value):=⟨_,rfl⟩;have HI:=lh (show (prog.info? 89).map (·.size)=some pc.size from by rw [hpc];kernel_rfl);have HPc:=lh (show polV p=.agg pc from by rw [hpc];rfl);rw [HPc.out];have HB:=lh (block_alloc_new w (.cells pc 89 (0,0)));have X0:=lh ((Ext.refl w).alloc (.cells pc 89 (0,0)));clear hpc HP;go_enter func8,ntmps8;by_cases h60:n<=60
 case neg =>
  have g1:decide ((60:Int)<(n:Int))=true:=decide_eq_true (by omega);go_wp2_with fail;refine (HAw.out _ X0.out).mono ?_;rintro e w2 ⟨rfl,x2⟩;have X2:=lh (X0.out.trans x2);go_wp2;go_ret;exact ⟨rfl,X2.out⟩
 have g1:decide ((60:Int)<(n:Int))=false:=decide_eq_false (by omega);go_upto_region 4 with (fail)
 generalize w.alloc (.cells pc 89 (0,0))=wA at *;go_cut [8] from 15 to 17 (fun sx wx=>Hid (∃ (ob oc:Nat),sx=.slice (some ⟨ob,0,none⟩) n oc/\EntsSl wx (.slice (some ⟨ob,0,none⟩) n oc) l/\Ext wA wx))
 case first =>
  obtain ⟨iT,hiT,hzT,hsT,hbT⟩:=info_parts elEnt.info
  cases va with
  | none =>
   have hl0:l=[]:=by
    cases l with
    | nil=>rfl
    | cons x t=>obtain ⟨_,g,o,e,_⟩:=HV.out 0 x rfl;cases e
   subst hl0;have hn0:n=0:=HN.out;subst hn0;have hvc:vc=0:=hv4 rfl;subst hvc;have X1:=lh ((Ext.refl wA).alloc (.cells #[] 93 (0,0)));go_wp2_with (at_builtin;refine wpList_append_own_none rfl _ _ _ rfl wA.heap.size 93 iT 4 elEnt.ut hiT (.slice (some ⟨wA.heap.size,0,none⟩) 0 0) 0 [] rfl (World.ownsRow_made wA #[] 0 (Nat.le_refl _) (Nat.zero_le _) (by simp)) rfl ?_;go_frame);go_meet
   case rel=>exact ⟨wA.heap.size,0,rfl,⟨wA.heap.size,0,0,rfl,Nat.le_refl _,by decide,fun j u hj=>by simp [entsV] at hj⟩,X1.out⟩
  | some ad =>
   have hsrc:∀ (j:Nat) u,(entsV l)[j]?=some u->wA.cell? (ad.add j)=some u:=fun j u hj=>by
    obtain ⟨x,hx,hu⟩:=ents_div hj;obtain ⟨_,g,o,e1,hra⟩:=HV.out (j / 4) x hx
    cases e1
    rw [show (⟨g,o,none⟩:Addr).add j=⟨g,o+j,none⟩ from by unfold Addr.add;split <;> simp_all];have:=hra (j % 4) u hu;rw [show o+j / 4*4+j % 4=o+j from by omega] at this;exact (X0.out.cell (lt_of_cell this)).trans this
   have HSr:=lh hsrc;have HEl:=lh (entsV_len l);rw [<-HN.out] at HEl;clear hsrc;go_wp2_with (at_builtin;refine wpList_append_own _ rfl _ _ 90 rfl wA.heap.size 93 iT _ 4 48 elEnt.ut hiT hzT hsT hbT rfl (by decide) _ _ _ rfl (World.ownsRow_made wA #[] 0 (Nat.le_refl _) (Nat.zero_le _) (by simp)) ad n vc (entsV l) rfl ?qc1 ?qc2 ?qc3 ?qc4 ?qc5 ?qc6 ?_)
   case qc1=>exact HEl.out
   case qc2 =>
    intro j u hj;exact Lib.cell?_alloc_some _ (HSr.out j u hj)
   case qc3=>exact entsV_one
   case qc4=>rw [Nat.zero_add];unfold maxLen;omega
   case qc5=>rw [Nat.zero_add];omega
   case qc6=>simp
   intro v' w1 hown hgrow hnil;have XA1:=lh (show Ext wA w1 from ((Below.refl _ wA).alloc (Nat.le_refl _) _).grown hgrow (by simp) (by intro k hk;simp [Value.ownBlock] at hk;omega))
   have K1:=lh (show ∃ ob oc,v'=.slice (some ⟨ob,0,none⟩) n oc/\EntsSl w1 (.slice (some ⟨ob,0,none⟩) n oc) l from by
    have hq:=(row_ents (l:=l) hown HN.out hnil).1;rcases hown.2 with ⟨rfl,_⟩ | ⟨ob,oc,cur,rfl,_⟩
    ·exact absurd rfl hnil
    ·exact ⟨ob,oc,rfl,hq⟩)
   clear hown hgrow hnil;obtain ⟨ob,oc,rfl,hes⟩:=K1.out;have HES:=lh hes;clear K1 hes;go_wp2;go_meet
   case rel=>exact ⟨ob,oc,rfl,HES.out,XA1.out⟩
 case rest =>
  obtain ⟨ob,oc,rfl,hes,hxc⟩:=hcut.out;obtain ⟨wC,rfl⟩:∃ x,x=wc:=⟨_,rfl⟩;have HES:=lh hes;have HXC:=lh hxc;clear hcut hes hxc;go_wp2_with fail;go_loopw [7,9] (fun mv iv wr=>Hid (∃ i:Nat,i<=n/\iv=.int .i64 i/\(∀ x∈l.take i,x.path.size<=400)/\wr.ownsRow wC.heap.size 94 4 mv i (entsV (l.take i))/\Ext wC wr)) (fun _ iv _=>n - (intOf iv).toNat)
  case atStart=>exact ⟨0,Nat.zero_le _,rfl,fun x hx=>by simp at hx,World.ownsRow_nil _ _ _ _,Ext.refl _⟩
  case round =>
   obtain ⟨i,hi,rfl,hps,ho,hx⟩:=hrel.out;clear hrel;have HPs:=lh hps;have HO:=lh ho;have HX:=lh hx;obtain ⟨ma,mc,hmv⟩:=rowk_shape ho;subst hmv;by_cases hlt:i<n
   ·obtain ⟨x,hxi⟩:∃ x,l[i]?=some x:=⟨_,List.getElem?_eq_getElem (by have:=HN.out;omega)⟩;obtain ⟨⟨hs1,hs2⟩,g,o,rfl,hra⟩:=HV.out i x hxi;have HRA:=lh (fun w' (y:Ext wC w')=>(fun j u hj=>(((X0.out.trans HXC.out).trans y).cell (lt_of_cell (hra j u hj))).trans (hra j u hj):w'.rangeAt g (o+i*4) (entV x)));have HT:=lh (show l.take (i+1)=l.take i++[x] from by rw [List.take_add_one,hxi];rfl);have k0:∀ z:After wr,z.v.cell? ⟨g,o+i*4,none⟩=some (.string x.name):=fun z=>HRA.out z.v (HX.out.trans z.x) 0 _ rfl;have k1:∀ z:After wr,z.v.cell? ⟨g,o+i*4+1,none⟩=some (.string x.path):=fun z=>HRA.out z.v (HX.out.trans z.x) 1 _ rfl;obtain ⟨nm,pt,tm,sz⟩:=x;dsimp only at hs1 hs2 k0 k1;unfold reach at hs1 hs2;have qs:IntKind.i64.wrap ((nm.size:Int)+(pt.size:Int))=((nm.size+pt.size:Nat):Int):=by rw [IntWalk.i64_in _ (by omega)];omega
    have HTp:=lh (fun (hle:nm.size+pt.size<=400)=>(fun y hy=>by
     rw [HT.out] at hy;rcases List.mem_append.1 hy with hy | hy
     ·exact HPs.out y hy
     ·obtain rfl:=List.mem_singleton.1 hy
      show pt.size<=400
      omega:∀ y∈l.take (i+1),y.path.size<=400))
    clear hra hxi hps ho hx;by_cases hbig:400<nm.size+pt.size
    ·have gb:decide ((400:Int)<((nm.size+pt.size:Nat):Int))=true:=decide_eq_true (by omega);have gb2:decide ((400:Int)<(nm.size:Int)+(pt.size:Int))=true:=decide_eq_true (by omega);clear hbig;go_upto_region 8 with (fail)
     refine wp_region_after (by kernel_rfl) (by kernel_rfl) ?_
     iterate 14 go_big_quiet_step (fail)
     refine wpQuiet_nil ?_;rintro _ ⟨z,rfl⟩;have XZ:=lh ((X0.out.trans HXC.out).trans (HX.out.trans z.x));clear k0 k1;go_wp2_with fail;refine (HAw.out _ XZ.out).mono ?_;rintro e w2 ⟨rfl,x2⟩;have X2:=lh (XZ.out.trans x2);go_wp2;go_ret;exact ⟨rfl,X2.out⟩
    ·have gb:decide ((400:Int)<((nm.size+pt.size:Nat):Int))=false:=decide_eq_false (by omega);have HPn:=lh (HTp.out (by omega));have gb2:decide ((400:Int)<(nm.size:Int)+(pt.size:Int))=false:=decide_eq_false (by omega);clear hbig HTp;go_upto_region 8 with (fail)
     refine wp_region_after (by kernel_rfl) (by kernel_rfl) ?_
     iterate 14 go_big_quiet_step (fail)
     refine wpQuiet_nil ?_;rintro _ ⟨z,rfl⟩;obtain ⟨wq,hwq⟩:∃ wq,wq=z.v:=⟨_,rfl⟩;have HXQ:=lh (show Ext wC wq from hwq▸HX.out.trans z.x);have HOQ:=lh (show wq.ownsRow wC.heap.size 94 4 (.slice ma i mc) i (entsV (l.take i)) from hwq▸owns_ext HO.out z.x);rw [<-hwq];clear hwq k0 k1 HX HO;go_upto_region 10 with (fail)
     have HA2:=lh (fun w=>(show (isAgg 2).run prog w=.ok false w from rfl));have HA3:=lh (fun w=>(show (isAgg 3).run prog w=.ok false w from rfl));refine wp_region_held (S:=fun w'=>Ext wC w') (by kernel_rfl) ?_;change wpAnyH _ _ _ _ _ _ _ _ (World.drew _);have SD:=HXQ.out.drew;have HOD:=lh (owns_ext HOQ.out (Ext.refl wq).drew);generalize wq.drew=wd at *;refine wpAnyH_takeL (i:=0) (v:=.slice ma i mc) rfl (by kernel_rfl) (by kernel_rfl) (by kernel_rfl) (fun _ _ _ h=>h) (yieldsIf_move rfl _ rfl rfl) SD ?_;go_frame;refine wpAnyH_takeL (i:=1) (v:=.slice (some ⟨g,o,none⟩) n vc) rfl (by kernel_rfl) (by kernel_rfl) (by kernel_rfl) (fun _ _ _ h=>h) (yieldsIf_move rfl _ rfl rfl) SD ?_;go_frame;refine wpAnyH_takeL (i:=2) (v:=.int .i64 i) rfl (by kernel_rfl) (by kernel_rfl) (by kernel_rfl) (fun _ _ _ h=>h) (yieldsIf_move rfl _ rfl rfl) SD ?_;go_frame;refine wpAnyH_takeL (i:=3) (v:=.pointer (some ⟨g,o+i*4,none⟩)) rfl (by kernel_rfl) (by kernel_rfl) (by kernel_rfl) (fun _ _ _ h=>h) (Or.inl ⟨rfl,fun w' _=>by go_simp⟩) SD ?_;go_frame;refine wpAnyH_takeL (i:=4) (v:=.pointer (some ⟨g,o+i*4,none⟩)) rfl (by kernel_rfl) (by kernel_rfl) (by kernel_rfl) (fun _ _ _ h=>h) (Or.inl ⟨rfl,fun w' _=>by go_simp⟩) SD ?_;go_frame;refine wpAnyH_takeL (i:=5) (v:=.string nm) rfl (by kernel_rfl) (by kernel_rfl) (by kernel_rfl) (fun _ _ _ h=>h) (yieldsIf_cell rfl _ _ rfl g (o+i*4) rfl agg9 (fun w' h=>HRA.out w' h 0 _ rfl)) SD ?_;go_frame;refine wpAnyH_takeL (i:=6) (v:=.slice (some ⟨g,o,none⟩) n vc) rfl (by kernel_rfl) (by kernel_rfl) (by kernel_rfl) (fun _ _ _ h=>h) (yieldsIf_move rfl _ rfl rfl) SD ?_;go_frame;refine wpAnyH_takeL (i:=7) (v:=.int .i64 i) rfl (by kernel_rfl) (by kernel_rfl) (by kernel_rfl) (fun _ _ _ h=>h) (yieldsIf_move rfl _ rfl rfl) SD ?_;go_frame;refine wpAnyH_takeL (i:=8) (v:=.pointer (some ⟨g,o+i*4,none⟩)) rfl (by kernel_rfl) (by kernel_rfl) (by kernel_rfl) (fun _ _ _ h=>h) (Or.inl ⟨rfl,fun w' _=>by go_simp⟩) SD ?_;go_frame;refine wpAnyH_takeL (i:=9) (v:=.pointer (some ⟨g,o+i*4+1,none⟩)) rfl (by kernel_rfl) (by kernel_rfl) (by kernel_rfl) (fun _ _ _ h=>h) (Or.inl ⟨rfl,fun w' _=>by go_simp⟩) SD ?_;go_frame;refine wpAnyH_takeL (i:=10) (v:=.string pt) rfl (by kernel_rfl) (by kernel_rfl) (by kernel_rfl) (fun _ _ _ h=>h) (yieldsIf_cell rfl _ _ rfl g (o+i*4+1) rfl agg9 (fun w' h=>HRA.out w' h 1 _ rfl)) SD ?_;go_frame;refine wpAnyH_takeL (i:=11) (v:=.slice (some ⟨g,o,none⟩) n vc) rfl (by kernel_rfl) (by kernel_rfl) (by kernel_rfl) (fun _ _ _ h=>h) (yieldsIf_move rfl _ rfl rfl) SD ?_;go_frame;refine wpAnyH_takeL (i:=12) (v:=.int .i64 i) rfl (by kernel_rfl) (by kernel_rfl) (by kernel_rfl) (fun _ _ _ h=>h) (yieldsIf_move rfl _ rfl rfl) SD ?_;go_frame;refine wpAnyH_takeL (i:=13) (v:=.pointer (some ⟨g,o+i*4,none⟩)) rfl (by kernel_rfl) (by kernel_rfl) (by kernel_rfl) (fun _ _ _ h=>h) (Or.inl ⟨rfl,fun w' _=>by go_simp⟩) SD ?_;go_frame;refine wpAnyH_takeL (i:=14) (v:=.pointer (some ⟨g,o+i*4+2,none⟩)) rfl (by kernel_rfl) (by kernel_rfl) (by kernel_rfl) (fun _ _ _ h=>h) (Or.inl ⟨rfl,fun w' _=>by go_simp⟩) SD ?_;go_frame;refine wpAnyH_takeL (i:=15) (v:=.int .i64 tm) rfl (by kernel_rfl) (by kernel_rfl) (by kernel_rfl) (fun _ _ _ h=>h) (yieldsIf_cell rfl _ _ rfl g (o+i*4+2) rfl HA2.out (fun w' h=>HRA.out w' h 2 _ rfl)) SD ?_;go_frame;refine wpAnyH_takeL (i:=16) (v:=.slice (some ⟨g,o,none⟩) n vc) rfl (by kernel_rfl) (by kernel_rfl) (by kernel_rfl) (fun _ _ _ h=>h) (yieldsIf_move rfl _ rfl rfl) SD ?_;go_frame;refine wpAnyH_takeL (i:=17) (v:=.int .i64 i) rfl (by kernel_rfl) (by kernel_rfl) (by kernel_rfl) (fun _ _ _ h=>h) (yieldsIf_move rfl _ rfl rfl) SD ?_;go_frame;refine wpAnyH_takeL (i:=18) (v:=.pointer (some ⟨g,o+i*4,none⟩)) rfl (by kernel_rfl) (by kernel_rfl) (by kernel_rfl) (fun _ _ _ h=>h) (Or.inl ⟨rfl,fun w' _=>by go_simp⟩) SD ?_;go_frame;refine wpAnyH_takeL (i:=19) (v:=.pointer (some ⟨g,o+i*4+3,none⟩)) rfl (by kernel_rfl) (by kernel_rfl) (by kernel_rfl) (fun _ _ _ h=>h) (Or.inl ⟨rfl,fun w' _=>by go_simp⟩) SD ?_;go_frame;refine wpAnyH_takeL (i:=20) (v:=.int .i64 sz) rfl (by kernel_rfl) (by kernel_rfl) (by kernel_rfl) (fun _ _ _ h=>h) (yieldsIf_cell rfl _ _ rfl g (o+i*4+3) rfl HA3.out (fun w' h=>HRA.out w' h 3 _ rfl)) SD ?_;go_frame;refine wpAnyH_takeL (i:=21) (v:=.agg #[.string nm,.string pt,.int .i64 tm,.int .i64 sz]) rfl (by kernel_rfl) (by kernel_rfl) (by kernel_rfl) (fun _ _ _ h=>h) (yieldsIf_build rfl _ _ rfl _ (by kernel_rfl)) SD ?_;go_frame;have Bn:=lh (block_alloc_new wd (.cells #[.string nm,.string pt,.int .i64 tm,.int .i64 sz] 94 (0,0)));have Xn:=lh (SD.alloc (.cells #[.string nm,.string pt,.int .i64 tm,.int .i64 sz] 94 (0,0)));have On:=lh (owns_ext HOD.out ((Ext.refl wd).alloc (.cells #[.string nm,.string pt,.int .i64 tm,.int .i64 sz] 94 (0,0))));refine wpAnyH_one (i:=22) (v:=.slice (some ⟨wd.heap.size,0,none⟩) 1 1) (w':=wd.alloc (.cells #[.string nm,.string pt,.int .i64 tm,.int .i64 sz] 94 (0,0))) (by kernel_rfl) rfl rfl (run_buildOneOp elRef (by decide) _ rfl #[.string nm,.string pt,.int .i64 tm,.int .i64 sz] rfl rfl) Xn.out ?_;go_frame;generalize wd.alloc (.cells #[.string nm,.string pt,.int .i64 tm,.int .i64 sz] 94 (0,0))=wn at *;refine wpAnyH_append (i:=23) (by kernel_rfl) rfl rfl elRef wC.heap.size (.slice ma i mc) i (entsV (l.take i)) On.out wd.heap.size [.string nm,.string pt,.int .i64 tm,.int .i64 sz] rfl _ _ rfl rfl rfl (fun j u hj=>(cellB Bn.out).trans (by simpa using hj)) (by simp [Value.oneCell']) (by omega) Xn.out.size ?_;intro v7 w7 ho7 hg7 hv7;have X7:=lh (ext_own Xn.out (Nat.le_refl _) On.out hg7);have HO7:=lh (show w7.ownsRow wC.heap.size 94 4 v7 (i+1) (entsV (l.take (i+1))) from by rw [HT.out];exact entsV_sn ho7);clear ho7 hg7 hv7;refine ⟨X7.out,?_⟩;go_frame;refine wpAnyH_takeL (i:=24) (v:=v7) rfl (by kernel_rfl) (by kernel_rfl) (by kernel_rfl) (fun _ _ _ h=>h) (yieldsIf_assign rfl _ rfl rfl) X7.out ?_;go_frame;refine wpAnyH_done (by kernel_rfl) ?_ _;go_wp2_with fail;go_roundw
     case rel=>exact ⟨i+1,by omega,by go_num,HPn.out,HO7.out,X7.out⟩
     case measure=>simp [intOf] <;> omega
   ·obtain rfl:i=n:=by omega
    have htk:l.take i=l:=by rw [HN.out,List.take_length]
    rw [htk] at HPs HO;obtain ⟨d,hd⟩:=ordF_ex l;obtain ⟨wR,rfl⟩:∃ q,q=wr:=⟨_,rfl⟩;have HRI:=lh (RowsIn.of_owns HO.out HN.out);have HBR:=lh (((HXC.out.trans HX.out).block (ltB HB.out)).trans HB.out);have XWR:=lh ((X0.out.trans HXC.out).trans HX.out);have HESr:=lh (HES.out.ext HX.out);have H3:=lh (fun w' (y:Ext wR w')=>agoesA (p:=p) (now:=now) (by have:=HESr.out.ext y;rw [HN.out] at this;exact this) hd (by rw [<-HN.out];omega) (fun x hx=>Nat.le_trans (HPs.out x hx) (by decide)));have H5:=lh (fun w'=>policy19 p w');have H8:=lh (fun w' (y:Ext wR w')=>rGoes19 (HRI.out.ext y) (by rw [<-HN.out];omega) p now);rw [HPc.out] at H3 H5 H8;rw [<-HN.out] at H3;have HFd:=lh hd;generalize hT:outY p now d=T at *;have HTT:=lh hT;have hap:=lh hps;clear hps ho hx hd hT htk hap;go_upto_region 11 with (fail)
    refine wp_region_held (S:=fun w'=>Ext wR w') (by kernel_rfl) ?_;change wpAnyH _ _ _ _ _ _ _ _ (World.drew _);have SD:=(Ext.refl wR).drew;generalize wR.drew=wd at *;refine wpAnyH_takeL (i:=0) (v:=.agg pc) rfl (by kernel_rfl) (by kernel_rfl) (by kernel_rfl) (fun _ _ _ h=>h) (yieldsIf_load_row rfl 89 (.tmp 3) rfl w.heap.size rfl 89 pc (0,0) _ (fun w' h=>(h.block (ltB HBR.out)).trans HBR.out) underlying89 rfl HI.out) SD ?_;go_frame;refine wpAnyH_takeL (i:=1) (v:=.slice (some ⟨ob,0,none⟩) i oc) rfl (by kernel_rfl) (by kernel_rfl) (by kernel_rfl) (fun _ _ _ h=>h) (yieldsIf_move rfl _ rfl rfl) SD ?_;go_frame;refine wpAnyH_takeL (i:=2) (v:=.int .i64 now) rfl (by kernel_rfl) (by kernel_rfl) (by kernel_rfl) (fun _ _ _ h=>h) (yieldsIf_move rfl _ rfl rfl) SD ?_;go_frame;refine wpAnyH_takeL (i:=4) (v:=.agg pc) rfl (by kernel_rfl) (by kernel_rfl) (by kernel_rfl) (fun _ _ _ h=>h) (yieldsIf_load_row rfl 89 (.tmp 3) rfl w.heap.size rfl 89 pc (0,0) _ (fun w' h=>(h.block (ltB HBR.out)).trans HBR.out) underlying89 rfl HI.out) SD ?_;go_frame;refine wpAnyH_takeL (i:=6) (v:=.slice ma i mc) rfl (by kernel_rfl) (by kernel_rfl) (by kernel_rfl) (fun _ _ _ h=>h) (yieldsIf_move rfl _ rfl rfl) SD ?_;go_frame;refine wpAnyH_takeL (i:=7) (v:=.int .i64 now) rfl (by kernel_rfl) (by kernel_rfl) (by kernel_rfl) (fun _ _ _ h=>h) (yieldsIf_move rfl _ rfl rfl) SD ?_;go_frame;refine wpAnyH_call (i:=3) (F:=41) (args:=#[.agg pc,.slice (some ⟨ob,0,none⟩) i oc,.int .i64 now]) (by kernel_rfl) rfl rfl (by go_simp) ?_;refine (H3.out _ SD).mono ?_;rintro e y1 ⟨u1,rfl,q1⟩;have S1:=SD.trans q1.out.2;have T1:=cells_texts q1.out.1;clear q1;refine ⟨_,rfl,S1,?_⟩;go_frame;refine wpAnyH_call (i:=5) (F:=43) (args:=#[.agg pc]) (by kernel_rfl) rfl rfl (by go_simp) ?_;refine (H5.out _).mono ?_;rintro e y2 ⟨rfl,q5⟩;have S2:=S1.trans q5;have T1:=T1.ext q5;clear q5;refine ⟨_,rfl,S2,?_⟩;go_frame;refine wpAnyH_call (i:=8) (F:=42) (args:=#[.agg pc,.slice ma i mc,.int .i64 now]) (by kernel_rfl) rfl rfl (by go_simp) ?_;refine (H8.out _ S2).mono ?_;rintro e y3 ⟨u2,rfl,q8⟩;obtain ⟨d2,e1,e2,e3⟩:=q8.out;have S3:=S2.trans e3;obtain rfl:=HFd.out.one e1;rw [HTT.out] at e2;have T2:=cells_texts e2;have T1:=T1.ext e3;clear q8 e1 e2 e3;refine ⟨_,rfl,S3,?_⟩;go_frame;obtain ⟨a1,c1,rfl,r1,r2⟩:=T1.shape;obtain ⟨a2,c2,rfl,_,_⟩:=T2.shape;have H9:=rsame_true T a1 a2 c1 c2 _ T1 T2 r1 r2;clear T1 T2;refine wpAnyH_call (i:=9) (F:=40) (args:=#[.slice a1 T.length c1,.slice a2 T.length c2]) (by kernel_rfl) rfl rfl (by go_simp) ?_;refine H9.mono ?_;rintro e y9 ⟨rfl,q9⟩;have S9:=S3.trans q9;clear q9 H9;refine ⟨_,rfl,S9,?_⟩;go_frame;refine wpAnyH_takeL (i:=10) (v:=.bool false) rfl (by kernel_rfl) (by kernel_rfl) (by kernel_rfl) (fun _ _ _ h=>h) (Or.inl ⟨rfl,fun w' _=>by go_simp⟩) S9 ?_;go_frame;refine wpAnyH_done (by kernel_rfl) ?_ _;have HS9:=lh S9;clear S9;go_wp2_with fail;go_loopw [10] (fun iv wr=>Hid (∃ k:Nat,k<=i/\iv=.int .i64 k/\Ext wR wr)) (fun iv _=>i - (intOf iv).toNat)
    case atStart=>exact ⟨0,Nat.zero_le _,rfl,HS9.out⟩
    case round =>
     obtain ⟨k,hk,rfl,hxk⟩:=hrel.out;clear hrel;have HXk:=lh hxk;by_cases hlt2:k<i
     ·obtain ⟨x,hxi⟩:∃ x,l[k]?=some x:=⟨_,List.getElem?_eq_getElem (by have:=HN.out;omega)⟩;obtain ⟨_,g,of,rfl,hra⟩:=HV.out k x hxi;obtain ⟨g2,o2,cp2,e2,_,_,hcs⟩:=HESr.out
      cases e2
      have r1:=lh (fun (z:After wr)=>(fun j u hj=>(((XWR.out.trans HXk.out).trans z.x).cell (lt_of_cell (hra j u hj))).trans (hra j u hj):z.v.rangeAt g (of+k*4) (entV x)))
      have r2:=lh (fun (z:After wr)=>(fun j u hj=>by
       have hj4:j<4:=(List.getElem?_eq_some_iff.1 hj).1;have:=hcs (k*4+j) u ((ents_get hxi hj4).trans hj);rw [Nat.zero_add] at this
       exact ((HXk.out.trans z.x).cell (lt_of_cell this)).trans this:z.v.rangeAt ob (k*4) (entV x)))
      have he:∀ w',(Go.Op.equalIn 10000 93 (.agg (entV x).toArray) (.agg (entV x).toArray)).run prog w'=.ok true w':=fun w'=>by
       have h4:=eq_ent x x w';rw [decide_eq_true (⟨rfl,rfl,rfl,rfl⟩:x.name=x.name/\x.path=x.path/\x.time=x.time/\x.size=x.size)] at h4;exact h4
      clear hra hxi hcs hxk;go_upto_region 16 with (fail)
      refine wp_region_after (by kernel_rfl) (by kernel_rfl) ?_
      iterate 3 go_big_quiet_step (fail)
      refine wpQuiet_load_ag rfl _ _ rfl ob (k*4) rfl (entV x).toArray _ (by rintro _ ⟨z,rfl⟩;exact r2.out z) underlying93 rfl (by kernel_rfl) ?_;go_frame
      iterate 3 go_big_quiet_step (fail)
      refine wpQuiet_load_ag rfl _ _ rfl g (of+k*4) rfl (entV x).toArray _ (by rintro _ ⟨z,rfl⟩;exact r1.out z) underlying93 rfl (by kernel_rfl) ?_;go_frame;go_big_quiet_step (fail);refine wpQuiet_nil ?_;rintro _ ⟨z,rfl⟩;have XZ:=lh (HXk.out.trans z.x);clear r1 r2 he;go_wp2_with fail;go_roundw
      case rel=>exact ⟨k+1,by omega,by go_num,XZ.out⟩
      case measure=>simp [intOf] <;> omega
     ·obtain rfl:k=i:=by omega
      go_wp2_with fail;refine (HAw.out _ (XWR.out.trans HXk.out)).mono ?_;rintro e w8 ⟨rfl,x8⟩;have X8:=lh ((XWR.out.trans HXk.out).trans x8);go_wp2;go_ret;exact ⟨rfl,X8.out⟩
end
end Go.Proofs.YtodickpibbbiiaaGreatDoor
