/- caravan/walk's Walk: what a round keeps. Laws of operations in a fenced walk: a struct that is loaded or stored whole; a slice of one struct that is built. caravan/walk's Walk. caravan/walk in plain words: each path is found or passed over, just once; patterns leave out and change nothing else. What a walk finds, as it lies in memory: paths, texts, counts. Some of the chapter's answers. How many of some texts are, or hold, a path; the patterns of files; a path that is too long. Walks of no disk at all. Walks of a disk from a root of whatever length. One cell stored in a plain walk. A result that lies in a cell of its own. What Each tells is what the disk holds; each has its home among them. A region that draws its order, walked quietly in a fenced walk, in a round too: its operations are no defers. Contracts of caravan/caravanref01: turned, digit, prime, times, above. Contracts of caravan/caravanref01: Primes, Square, Cube; their tables. Contracts of caravan/caravanref01: Square, Cube; their tables. -/
import Derived.Test.YtodickpibbbiiaaGreatDoorWiF1
import Derived.Test.YtodickpibbbiiaaGreatDoorWiB1
import Derived.Test.YtodickpibbbiiaaGreatDoorWiA1
import Derived.Test.YtodickpibbbiiaaGreatDoorWiC3
import Derived.Test.YtodickpibbbiiaaGreatDoorShelf
import Derived.OwnWalkIn
import Derived.Great.BuildSlice
import Derived.Lib.ReflectliteSwap
import Derived.Sort.QuietIn
namespace Go.Proofs.YtodickpibbbiiaaGreatDoor
open Go.RowKit

theorem KpK.ext {K:World→List Nat} {nb n0:Nat} (hK:Reads K n0) {W W':World} (x:Ext W W') (h0:n0≤W.heap.size) (hb:nb≤W.heap.size):KpK K nb W W' :=
  ⟨Below.mono x hb,fun _ _ ho _ _=>(x.block (ltB ho)).trans ho,fun b hm=>.inl (by rw [hK W W' fun b hb=>x.block (by omega)] at hm;exact hm)⟩
theorem ko_ext {W W':World} (x:Ext W W'):KeepsOthers W W':=⟨x.size,fun _ _ ho _=>(x.block (ltB ho)).trans ho⟩
theorem rowOf_over (s:WSt) (p:ByteArray) (us:List Value) (j:Nat):rowOf { s with over:=p } us j=rowOf s us j:=by
  match j with
  | 0=>rfl
  | 1=>rfl
  | 2=>rfl
  | _+3=>rfl
theorem FoundIn.k {n0 b6 b9:Nat} {s:WSt} {w:World} {vs:Nat→Value} {us:List Value} (h:FoundIn n0 b6 b9 s w vs us):walkK b6 b9 w=[b6,b9]++(rowB (vs 0)++rowB (vs 1)++rowB (vs 2)++rowB (vs 3)):=by
  unfold walkK
  rw [h.blk]
  rfl
theorem FoundIn.mem_k {n0 b6 b9:Nat} {s:WSt} {w:World} {vs:Nat→Value} {us:List Value} (h:FoundIn n0 b6 b9 s w vs us) (b:Nat):b∈walkK b6 b9 w↔b=b6∨b=b9∨∃ j,j<4∧(vs j).ownBlock=some b:=by
  rw [h.k]
  simp only [List.mem_append,List.mem_cons,List.not_mem_nil,or_false,mem_rowB]
  constructor
  · rintro ((h | h) | ((h | h) | h) | h)
    · exact .inl h
    · exact .inr (.inl h)
    · exact .inr (.inr ⟨0,by omega,h⟩)
    · exact .inr (.inr ⟨1,by omega,h⟩)
    · exact .inr (.inr ⟨2,by omega,h⟩)
    · exact .inr (.inr ⟨3,by omega,h⟩)
  · rintro (h | h | ⟨j,hj,h⟩)
    · exact .inl (.inl h)
    · exact .inl (.inr h)
    · match j,hj with
      | 0,_=>exact .inr (.inl (.inl (.inl h)))
      | 1,_=>exact .inr (.inl (.inl (.inr h)))
      | 2,_=>exact .inr (.inl (.inr h))
      | 3,_=>exact .inr (.inr h)
structure Rnd (b6 b9 nb:Nat) (W W':World):Prop where
  ko:KeepsOthers W W'
  kp:KpK (walkK b6 b9) nb W W'
theorem Rnd.trans {b6 b9 nb:Nat} {A B C:World} (h:Rnd b6 b9 nb A B) (k:Rnd b6 b9 nb B C):Rnd b6 b9 nb A C:=⟨h.ko.trans k.ko,h.kp.trans k.kp⟩
theorem Rnd.ext {b6 b9 nb:Nat} {W W':World} (x:Ext W W') (h6:b6<W.heap.size) (hb:nb≤W.heap.size):Rnd b6 b9 nb W W':=⟨ko_ext x,KpK.ext (walkK_reads (b9:=b9) (n0:=b6+1) (by omega)) x (by omega) hb⟩
theorem HashU.kept {w w':World} {n0:Nat} {x:ByteArray×Nd} {u:Value} (h:HashU w n0 [] x u) (k:∀ b,u.ownBlock=some b→w'.heap[b]?=w.heap[b]?):HashU w' n0 [] x u:=by
  rcases h with h1 | ⟨h1,h2,h3,h4⟩
  · exact .inl h1
  · exact .inr ⟨h1,h2,owns_blocks h3 k,h4⟩
theorem HashU.own {w:World} {n0:Nat} {x:ByteArray×Nd} {u:Value} (h:HashU w n0 [] x u) (b:Nat) (hb:u.ownBlock=some b):n0≤b∧b<w.heap.size:=by
  rcases h with ⟨_,rfl⟩ | ⟨_,_,h3,_⟩
  · simp [Value.ownBlock] at hb
  · exact ⟨own_ge h3 b hb,own_lt h3 b hb⟩
theorem FoundIn.kept {n0 b6 b9:Nat} {s:WSt} {w w':World} {vs:Nat→Value} {us:List Value} (h:FoundIn n0 b6 b9 s w vs us) (k:∀ b,b<w.heap.size→(∃ c t f,w.heap[b]?=some (.cells c t f))→w'.heap[b]?=w.heap[b]?):FoundIn n0 b6 b9 s w' vs us:=by
  have kr:∀ {e:TypeId} {m n:Nat} {v:Value} {xs:List Value},w.ownsRow n0 e m v n xs→∀ b,v.ownBlock=some b→w'.heap[b]?=w.heap[b]?:=fun {e m n v xs} hr b hb=>by
    refine k b (own_lt hr b hb) ?_
    rcases hr.2 with ⟨he,_⟩ | ⟨g,cap,cur,he,_,hh,_⟩
    · rw [he] at hb;simp [Value.ownBlock] at hb
    · rw [he] at hb
      simp [Value.ownBlock] at hb
      subst hb
      exact ⟨_,_,_,hh⟩
  refine ⟨(k b6 (ltB h.blk) ⟨_,_,_,h.blk⟩).trans h.blk,(k b9 (ltB h.over) ⟨_,_,_,h.over⟩).trans h.over,fun j hj=>owns_blocks (h.row j hj) (kr (h.row j hj)),h.nd,h.len,fun i x u hx hu=>?_,h.hd,h.lt⟩
  rcases h.hs i x u hx hu with h1 | ⟨h1,h2,h3,h4⟩
  · exact .inl h1
  · exact .inr ⟨h1,h2,owns_blocks h3 (kr h3),h4⟩
theorem FoundIn.ext {n0 b6 b9:Nat} {s:WSt} {w w':World} {vs:Nat→Value} {us:List Value} (h:FoundIn n0 b6 b9 s w vs us) (x:Ext w w'):FoundIn n0 b6 b9 s w' vs us:=h.kept fun _ hb _=>x.block hb
theorem FoundIn.setOver {n0 b6 b9 nb:Nat} {s:WSt} {w:World} {vs:Nat→Value} {us:List Value} (h:FoundIn n0 b6 b9 s w vs us) (p:ByteArray) (hb:nb≤b9) :
    FoundIn n0 b6 b9 { s with over:=p } (w.setCell ⟨b9,0,none⟩ (.string p)) vs us∧Rnd b6 b9 nb w (w.setCell ⟨b9,0,none⟩ (.string p)):=by
  have hne:=h.lt.2.2
  have ho:∀ b,b≠b9→(w.setCell ⟨b9,0,none⟩ (.string p)).heap[b]?=w.heap[b]?:=fun b hb=>setCellO hb
  have h9:=setCellB (k:=0) (u:=.string p) h.over
  have hl9:=ltB h.over
  have c:Chg [b9] w (w.setCell ⟨b9,0,none⟩ (.string p)):=Chg.setCell w ⟨b9,0,none⟩ _ (by simp)
  refine ⟨⟨(ho b6 hne).trans h.blk,h9,fun j hj=>?_,h.nd,h.len,fun i x u hx hu=>(h.hs i x u hx hu).kept fun b hb=>?_,h.hd,h.lt⟩,⟨c.size,fun k o hk hc=>?_⟩,⟨c.os,c.tape,c.output,c.size,fun k hk=>?_⟩,fun b o hbo hs hn=>?_,fun b hm=>.inl ?_⟩
  · rw [rowOf_over]
    exact owns_blocks (h.row j hj) fun b hb=>ho b (by have:=(h.below j hj b hb).1;have:=h.lt.2.1;omega)
  · exact ho b (by have:=((h.hs i x u hx hu).own b hb).1;have:=h.lt.2.1;omega)
  · refine (ho k fun e=>?_).trans hk
    subst e
    rw [h.over] at hk
    cases hk
    cases hc
  · exact ho k (by omega)
  · refine (ho b fun e=>hn ?_).trans hbo
    rw [h.k,e]
    simp
  · unfold walkK at hm ⊢
    rw [ho b6 hne] at hm
    exact hm
theorem FoundIn.addR {n0 b6 b9 nb:Nat} {s:WSt} {w w1:World} {vs:Nat→Value} {us:List Value} {v':Value} {j:Nat} (h:FoundIn n0 b6 b9 s w vs us) (hj:j<4) 
    (hg:w.grownBy w1 (vs j).ownBlock) (hw:v'.ownBlock=(vs j).ownBlock∨v'.ownBlock=some w.heap.size) (hb:nb≤b6) (hb2:nb≤n0):Rnd b6 b9 nb w (w1.setCell ⟨b6,j,none⟩ v'):=by
  have hb6:b6<w.heap.size:=ltB h.blk
  have c:Chg (b6::rowB (vs j)) w (w1.setCell ⟨b6,j,none⟩ v') :=
    ((Chg.grownO hg (F:=rowB (vs j)) fun b hb=>.inl (mem_rowB.2 hb)).mono (fun x hx=>List.mem_cons_of_mem _ hx)).trans (Chg.setCell w1 ⟨b6,j,none⟩ v' (F:=[b6]) (by simp)) fun x hx=>.inl (by rw [List.mem_singleton.1 hx];simp)
  have h6j:(vs j).ownBlock≠some b6:=fun e=>by have:=(h.below j hj b6 e).1;have:=h.lt.1;omega
  have hb61:w1.heap[b6]?=some (.cells #[vs 0,vs 1,vs 2,vs 3] 37 (0,0)):=(hg.block b6 hb6 fun e=>h6j e.symm).trans h.blk
  refine ⟨⟨c.size,fun k o hk hc=>?_⟩,⟨c.os,c.tape,c.output,c.size,fun k hk=>c.block k (by omega) fun hm=>?_⟩,fun b o hbo hs hn=>?_,fun b hm=>?_⟩
  · refine (c.block k (ltB hk) fun hm=>?_).trans hk
    rcases List.mem_cons.1 hm with e | e
    · subst e
      rw [h.blk] at hk
      cases hk
      cases hc
    · have e:=mem_rowB.1 e
      rcases (h.row j hj).2 with ⟨he,_⟩ | ⟨g,cap,cur,he,_,hh,_⟩
      · rw [he] at e;simp [Value.ownBlock] at e
      · rw [he] at e
        simp [Value.ownBlock] at e
        subst e
        rw [hh] at hk
        cases hk
        cases hc
  · rcases List.mem_cons.1 hm with e | e
    · omega
    · have:=(h.below j hj k (mem_rowB.1 e)).1
      omega
  · refine (c.block b (ltB hbo) fun hm=>hn ?_).trans hbo
    rw [h.mem_k]
    rcases List.mem_cons.1 hm with e | e
    · exact .inl e
    · exact .inr (.inr ⟨j,hj,mem_rowB.1 e⟩)
  · rw [h.mem_k]
    have h1:=setCellB (k:=j) (u:=v') hb61
    unfold walkK at hm
    rw [h1] at hm
    have key:∀ i,i<4→((fun i=>if i=j then v' else vs i) i).ownBlock=some b→(b=b6∨b=b9∨∃ j,j<4∧(vs j).ownBlock=some b)∨w.heap.size≤b:=fun i hi hb=>by
      by_cases e:i=j
      · simp only [e,if_true] at hb
        rcases hw with e2 | e2
        · rw [hb] at e2
          exact .inl (.inr (.inr ⟨j,hj,e2.symm⟩))
        · rw [hb] at e2
          exact .inr (by rw [Option.some.inj e2];exact Nat.le_refl _)
      · simp only [if_neg e] at hb
        exact .inl (.inr (.inr ⟨i,hi,hb⟩))
    rcases List.mem_append.1 hm with hm | hm
    · simp only [List.mem_cons,List.not_mem_nil,or_false] at hm
      exact .inl (hm.elim .inl fun e=>.inr (.inl e))
    · have hcs:(#[vs 0,vs 1,vs 2,vs 3]:Array Value).setIfInBounds j v'=#[(fun i=>if i=j then v' else vs i) 0,(fun i=>if i=j then v' else vs i) 1,(fun i=>if i=j then v' else vs i) 2,(fun i=>if i=j then v' else vs i) 3]:=by
        match j,hj with
        | 0,_=>rfl
        | 1,_=>rfl
        | 2,_=>rfl
        | 3,_=>rfl
      dsimp only at hm
      rw [hcs] at hm
      unfold foundB at hm
      simp only [List.mem_append,mem_rowB] at hm
      rcases hm with ((hm | hm) | hm) | hm
      · exact key 0 (by omega) hm
      · exact key 1 (by omega) hm
      · exact key 2 (by omega) hm
      · exact key 3 (by omega) hm
theorem FoundIn.own {β:Type} {n0 b6 b9 b5 B:Nat} {w0:World} {o5:Array Value} {t5:TypeId} {f5:Nat×Nat} (S:β→WSt) (hB:w0.heap.size≤B) :
    OwnFrom B (fun pre W=>∃ vs us,Hid (FoundIn n0 b6 b9 (S pre) W vs us∧Ext w0 W∧W.heap[b5]?=some (.cells o5 t5 f5))):=by
  rintro pre W W' row ⟨vs,us,h,x,h5⟩ hg hr
  have key:∀ (b:Nat) (c:Array Value) (t:TypeId) (f:Nat×Nat),W.heap[b]?=some (Obj.cells c t f)→W'.heap[b]?=W.heap[b]?:=fun b c t f hc=>hg.block b (ltB hc) fun e=>by
    obtain ⟨_,o,ho,hn⟩:=hr b e.symm
    rw [hc] at ho
    cases ho
    cases hn
  exact ⟨vs,us,h.kept fun b hb ⟨c,t,f,hc⟩=>key b c t f hc,x.grown hg x.size fun k e=>Nat.le_trans hB (hr k e).1,(key _ _ _ _ h5).trans h5⟩
theorem Rnd.keep {n0 b6 b9 nb b5:Nat} {s:WSt} {W W':World} {vs:Nat→Value} {us:List Value} {o5:Array Value} {t5:TypeId} {f5:Nat×Nat} (h:Rnd b6 b9 nb W W') (hF:FoundIn n0 b6 b9 s W vs us) (h5:W.heap[b5]?=some (.cells o5 t5 f5)) (hn:b5<n0) (h6:b5≠b6) (h9:b5≠b9):W'.heap[b5]?=some (.cells o5 t5 f5):=by
  refine h.kp.same b5 _ h5 (.inl rfl) fun hm=>?_
  rcases (hF.mem_k b5).1 hm with e | e | ⟨j,hj,e⟩
  · exact h6 e
  · exact h9 e
  · have:=(hF.below j hj b5 e).1
    omega
def addT (s:WSt) (p:ByteArray):Nat→WSt
  | 1=>{ s with temps:=s.temps++[p] }
  | 2=>{ s with ign:=s.ign++[p] }
  | _=>{ s with bad:=s.bad++[p] }
theorem FoundIn.addText {n0 b6 b9:Nat} {s:WSt} {w w1:World} {vs:Nat→Value} {us:List Value} {v':Value} {j:Nat} (h:FoundIn n0 b6 b9 s w vs us) (h1:1≤j) (hj:j<4) (p:ByteArray)
    (hr:w1.ownsRow n0 9 1 v' ((rowOf s us j).2.2.1+1) ((rowOf s us j).2.2.2++[.string p])) (hg:w.grownBy w1 (vs j).ownBlock) (hw:v'.ownBlock=(vs j).ownBlock∨v'.ownBlock=some w.heap.size) :
    FoundIn n0 b6 b9 (addT s p j) (w1.setCell ⟨b6,j,none⟩ v') (fun i=>if i=j then v' else vs i) us:=by
  have hd:∀ (k:Nat) u,us[k]?=some u→∀ b,u.ownBlock=some b→b<w.heap.size∧∀ i,i<4→(vs i).ownBlock≠some b:=fun k u hu b hb=>by
    have hk:k<s.items.length:=by rw [←h.len];exact (List.getElem?_eq_some_iff.1 hu).1
    exact ⟨((h.hs k _ u (List.getElem?_eq_getElem hk) hu).own b hb).2,h.hd k u hu b hb⟩
  have h3:j=1∨j=2∨j=3:=by omega
  rcases h3 with rfl | rfl | rfl
  · exact h.add (s':=addT s p 1) (j:=1) (by omega) hr hg hw (by simp [rowOf,addT]) (fun i hi hne=>by rcases (by omega:i=0∨i=2∨i=3) with rfl | rfl | rfl <;> rfl) rfl h.len h.hs hd
  · exact h.add (s':=addT s p 2) (j:=2) (by omega) hr hg hw (by simp [rowOf,addT]) (fun i hi hne=>by rcases (by omega:i=0∨i=1∨i=3) with rfl | rfl | rfl <;> rfl) rfl h.len h.hs hd
  · exact h.add (s':=addT s p 3) (j:=3) (by omega) hr hg hw (by simp [rowOf,addT]) (fun i hi hne=>by rcases (by omega:i=0∨i=1∨i=2) with rfl | rfl | rfl <;> rfl) rfl h.len h.hs hd
theorem rowsU_snoc {l:Nodes} {us:List Value} (h:us.length=l.length) (x:ByteArray×Nd) (u:Value):rowsU (l++[x]) (us++[u])=rowsU l us++itemU x u:=by
  unfold rowsU
  rw [List.zip_append h.symm]
  simp
theorem FoundIn.addItem {n0 b6 b9:Nat} {s:WSt} {w w1:World} {vs:Nat→Value} {us:List Value} {v' u:Value} (h:FoundIn n0 b6 b9 s w vs us) (x:ByteArray×Nd)
    (hr:w1.ownsRow n0 45 27 v' (s.items.length+1) (rowsU s.items us++itemU x u)) (hg:w.grownBy w1 (vs 0).ownBlock) (hw:v'.ownBlock=(vs 0).ownBlock∨v'.ownBlock=some w.heap.size)
    (hu:HashU w n0 [] x u) (hun:∀ b,u.ownBlock=some b→∀ i,i<4→(vs i).ownBlock≠some b) :
    FoundIn n0 b6 b9 { s with items:=s.items++[x] } (w1.setCell ⟨b6,0,none⟩ v') (fun i=>if i=0 then v' else vs i) (us++[u]):=by
  have snoc:∀ {α:Type} {l:List α} {k:Nat} {a y:α},(l++[a])[k]?=some y→l[k]?=some y∨(k=l.length∧y=a):=fun {α l k a y} hk=>by
    rcases Nat.lt_trichotomy k l.length with h | h | h
    · rw [List.getElem?_append_left h] at hk;exact .inl hk
    · subst h;simp at hk;exact .inr ⟨rfl,hk.symm⟩
    · rw [List.getElem?_append_right (by omega)] at hk
      rw [List.getElem?_eq_none (by simp;omega)] at hk
      cases hk
  refine h.add (s':={ s with items:=s.items++[x] }) (j:=0) (news:=itemU x u) (by omega) hr hg hw ?_ (fun i hi hne=>by rcases (by omega:i=1∨i=2∨i=3) with rfl | rfl | rfl <;> rfl) rfl (by simp [h.len]) (fun k y z hy hz=>?_) (fun k z hz b hb=>?_)
  · simp [rowOf,rowsU_snoc h.len]
  · rcases snoc hz with hz | ⟨hk,rfl⟩
    · rcases snoc hy with hy | ⟨hk,rfl⟩
      · exact h.hs k y z hy hz
      · have:=(List.getElem?_eq_some_iff.1 hz).1
        have:=h.len
        omega
    · rcases snoc hy with hy | ⟨_,rfl⟩
      · have:=(List.getElem?_eq_some_iff.1 hy).1
        have:=h.len
        omega
      · exact hu
  · rcases snoc hz with hz | ⟨hk,rfl⟩
    · have hk:k<s.items.length:=by rw [←h.len];exact (List.getElem?_eq_some_iff.1 hz).1
      exact ⟨((h.hs k _ z (List.getElem?_eq_getElem hk) hz).own b hb).2,h.hd k z hz b hb⟩
    · exact ⟨(hu.own b hb).2,hun b hb⟩
def WSt.total (s:WSt):Nat:=s.items.length+s.temps.length+s.ign.length+s.bad.length
theorem stepW_total (ig:ByteArray→Bool) (s:WSt) (x:ByteArray×Nd):(stepW ig s x).total≤s.total+1:=by
  unfold stepW WSt.total
  split
  · omega
  · split
    · simp;omega
    · split
      · simp;omega
      · split
        · simp;omega
        · simp;omega
theorem walkS_total (ig:ByteArray→Bool) (pre:Nodes):(walkS ig pre).total≤pre.length:=by
  have key:∀ (l:Nodes) (s:WSt),(l.foldl (stepW ig) s).total≤s.total+l.length:=by
    intro l
    induction l with
    | nil=>intro s;simp
    | cons x r ih =>
      intro s
      have h1:=ih (stepW ig s x)
      have h2:=stepW_total ig s x
      rw [List.foldl_cons,List.length_cons]
      omega
  have:=key pre wst0
  have h0:wst0.total=0:=rfl
  unfold walkS
  omega
theorem rowOf_le (s:WSt) (us:List Value) (j:Nat) (h:j<4):(rowOf s us j).2.2.1≤s.total:=by
  unfold WSt.total
  match j,h with
  | 0,_=>show s.items.length≤_;omega
  | 1,_=>show s.temps.length≤_;omega
  | 2,_=>show s.ign.length≤_;omega
  | 3,_=>show s.bad.length≤_;omega
theorem stepW_skip {ig:ByteArray→Bool} {s:WSt} {x:ByteArray×Nd} (h:(!s.over.toList.isEmpty&&withinB x.1 s.over)=true):stepW ig s x=s:=by
  unfold stepW
  rw [h,if_pos rfl]
theorem stepW_temp {ig:ByteArray→Bool} {s:WSt} {x:ByteArray×Nd} (h:(!s.over.toList.isEmpty&&withinB x.1 s.over)=false) (h1:isTempB x.1=true):stepW ig s x=addT { s with over:=x.1 } x.1 1:=by
  unfold stepW
  rw [h,if_neg (by simp),h1,if_pos rfl]
  rfl
theorem stepW_ign {ig:ByteArray→Bool} {s:WSt} {x:ByteArray×Nd} (h:(!s.over.toList.isEmpty&&withinB x.1 s.over)=false) (h1:isTempB x.1=false) (h2:ig x.1=true):stepW ig s x=addT { s with over:=x.1 } x.1 2:=by
  unfold stepW
  rw [h,if_neg (by simp),h1,if_neg (by simp),h2,if_pos rfl]
  rfl
theorem stepW_bad {ig:ByteArray→Bool} {s:WSt} {x:ByteArray×Nd} (h:(!s.over.toList.isEmpty&&withinB x.1 s.over)=false) (h1:isTempB x.1=false) (h2:ig x.1=false) (h3:badN x.2=true):stepW ig s x=addT { s with over:=x.1 } x.1 3:=by
  unfold stepW
  rw [h,if_neg (by simp),h1,if_neg (by simp),h2,if_neg (by simp),h3,if_pos rfl]
  rfl
theorem stepW_item {ig:ByteArray→Bool} {s:WSt} {x:ByteArray×Nd} (h:(!s.over.toList.isEmpty&&withinB x.1 s.over)=false) (h1:isTempB x.1=false) (h2:ig x.1=false) (h3:badN x.2=false):stepW ig s x={ ({ s with over:=x.1 }:WSt) with items:=s.items++[x],over:=⟨#[]⟩ }:=by
  unfold stepW
  rw [h,if_neg (by simp),h1,if_neg (by simp),h2,if_neg (by simp),h3,if_neg (by simp)]
theorem walkS_over (ig:ByteArray→Bool) (pre:Nodes) (h:∀ z∈pre,z.1.size≤160):(walkS ig pre).over.size≤160:=by
  have key:∀ (l:Nodes) (s:WSt),(∀ z∈l,z.1.size≤160)→s.over.size≤160→(l.foldl (stepW ig) s).over.size≤160:=by
    intro l
    induction l with
    | nil=>intro s _ hs;exact hs
    | cons x r ih =>
      intro s hl hs
      rw [List.foldl_cons]
      refine ih _ (fun z hz=>hl z (by simp [hz])) ?_
      have hx:=hl x (by simp)
      unfold stepW
      split
      · exact hs
      · split
        · exact hx
        · split
          · exact hx
          · split
            · exact hx
            · show (0:Nat)≤160;omega
  exact key pre wst0 h (by show (0:Nat)≤160;omega)
end Go.Proofs.YtodickpibbbiiaaGreatDoor

namespace Go.Proofs.YtodickpibbbiiaaGreatDoor
open Go.RowKit

theorem wpListIn_run {F:Fence} {m:Nat} {P:Program} {ops:Array Oper} {rest:List Oper} {o:Oper} {a:Act} {Q:Exit→Act→World→Prop} {w w':World} {v:Value} (hgd:o.guard=none) (hd:∀ c,o.op≠.defer c) (hc:∀ c,o.op≠.call c)
    (hr:(execOp a.eval o).run P w=.ok (.value v) w') (h:wpListIn F m P ops Q rest (a.put o.dst v) w'):wpListIn F m P ops Q (o::rest) a w:=by
  refine wpListIn_plain hgd fun K hK=>?_
  unfold Oper.wpIn
  refine ⟨fun f hf=>?_,?_⟩
  · unfold Oper.about at hf
    split at hf
    · rename_i c e
      exact absurd e (hc c)
    · cases hf
  · rw [Oper.semAt_plain F _ _ hd,hr]
    exact hK _ _ h
theorem wpListIn_runs {F:Fence} {m:Nat} {P:Program} {ops:Array Oper} {rest:List Oper} {o:Oper} {a:Act} {Q:Exit→Act→World→Prop} {w w':World} (hgd:o.guard=none) (hd:∀ c,o.op≠.defer c) (hc:∀ c,o.op≠.call c)
    (hr:(execOp a.eval o).run P w=.ok .skip w') (h:wpListIn F m P ops Q rest (a.put o.dst undef) w'):wpListIn F m P ops Q (o::rest) a w:=by
  refine wpListIn_plain hgd fun K hK=>?_
  unfold Oper.wpIn
  refine ⟨fun f hf=>?_,?_⟩
  · unfold Oper.about at hf
    split at hf
    · rename_i c e
      exact absurd e (hc c)
    · cases hf
  · rw [Oper.semAt_plain F _ _ hd,hr]
    exact hK _ _ h
theorem wpListIn_load_row {F:Fence} {m:Nat} {P:Program} {ops:Array Oper} {rest:List Oper} {o:Oper} {a:Act} {Q:Exit→Act→World→Prop} {w:World} (hgd:o.guard=none) (ty:TypeId) (x:Operand) (ho:o.op=.load ty x)
    (g:Nat) (hx:a.eval x=.pointer (some ⟨g,0,none⟩)) (t:TypeId) (cs:Array Value) (fr:Nat×Nat) (d:TypeDesc) (hg:w.heap[g]?=some (.cells cs t fr))
    (hu:P.underlying ty=some d) (hd:(match d with | .struct _ | .array _ _=>true | _=>false)=true) (hi:(P.info? ty).map (·.size)=some cs.size)
    (h:wpListIn F m P ops Q rest (a.put o.dst (.agg cs)) w):wpListIn F m P ops Q (o::rest) a w:=by
  refine wpListIn_run hgd (fun c e=>by rw [ho] at e;cases e) (fun c e=>by rw [ho] at e;cases e) ?_ h
  unfold execOp
  simp only [ho,hx,Instr.loadAt,Instr.sureAddr,Sem.run_bind,Sem.run_pure,Result.andThen_ok,run_loadVar_row w g t ty cs fr d hg hu hd hi]
theorem wpListIn_storeT {F:Fence} {m:Nat} {P:Program} {ops:Array Oper} {rest:List Oper} {o:Oper} {a:Act} {Q:Exit→Act→World→Prop} {w:World} (hgd:o.guard=none) (ty:TypeId) (x y:Operand) (ho:o.op=.store ty x y)
    (g:Nat) (cells:Array Value) (hx:a.eval x=.pointer (some ⟨g,0,none⟩)) (hy:a.eval y=.agg cells)
    (t:TypeId) (old:Array Value) (hg:w.heap[g]?=some (.cells old t (0,0))) (hi:(P.info? ty).map (·.size)=some cells.size)
    (hold:old.size=cells.size) (h1:cells.all (·.oneCell')=true)
    (h:∀ w1,w1.heap[g]?=some (.cells cells t (0,0))→Touch g w w1→wpListIn F m P ops Q rest (a.put o.dst undef) w1):wpListIn F m P ops Q (o::rest) a w:=by
  have h':=h _ (setRow_heap _ _ _ _ _ _ hg) ⟨rfl,rfl,rfl,by rw [setRow_size];exact Nat.le_refl _,fun i _ hne=>setRow_other _ _ _ _ fun e=>hne (by rw [e])⟩
  refine wpListIn_runs hgd (fun c e=>by rw [ho] at e;cases e) (fun c e=>by rw [ho] at e;cases e) ?_ h'
  unfold execOp
  simp only [ho,hx,hy,Instr.storeAt,Instr.sureAddr,Sem.run_bind,Sem.run_pure,Result.andThen_ok,run_storeVar_row w g t ty old cells hg hi hold h1]
theorem wpListIn_store1 {F:Fence} {m:Nat} {P:Program} {ops:Array Oper} {rest:List Oper} {o:Oper} {a:Act} {Q:Exit→Act→World→Prop} {w:World} (hgd:o.guard=none) (ty:TypeId) (x y:Operand) (ho:o.op=.store ty x y)
    (g k:Nat) (v:Value) (hx:a.eval x=.pointer (some ⟨g,k,none⟩)) (hy:a.eval y=v) (hi:(P.info? ty).map (·.size)=some 1) (h1:v.oneCell'=true)
    (cs:Array Value) (t:TypeId) (hg:w.heap[g]?=some (.cells cs t (0,0))) (hk:k<cs.size)
    (h:∀ w1,w1=w.setCell ⟨g,k,none⟩ v→wpListIn F m P ops Q rest (a.put o.dst undef) w1):wpListIn F m P ops Q (o::rest) a w:=by
  refine wpListIn_runs hgd (fun c e=>by rw [ho] at e;cases e) (fun c e=>by rw [ho] at e;cases e) ?_ (h _ rfl)
  cases hq:P.info? ty with
  | none=>simp [hq] at hi
  | some i =>
    have hs:i.size=1:=by simpa [hq] using hi
    have hc:w.cell? ⟨g,k,none⟩=some cs[k]:=(cellB hg).trans (Array.getElem?_eq_getElem hk)
    unfold execOp
    simp only [ho,hx,hy,Instr.storeAt,Instr.sureAddr,Sem.run_bind,Sem.run_pure,Result.andThen_ok,Lib.rl_storeVar_one ty i hq hs ⟨g,k,none⟩ v cs[k] h1 w hc (frozenB hg)]
end Go.Proofs.YtodickpibbbiiaaGreatDoor

namespace Go.Proofs.YtodickpibbbiiaaGreatDoor
open Go.RowKit Go.Shelf
attribute [local go_sem] Oper.semAt_some

def FoundC (base:Nat) (w:World) (s:WSt) (C:Array Value):Prop :=
  ∃ (vs:Nat→Value) (us:List Value),C=#[vs 0,vs 1,vs 2,vs 3]∧(∀ j,j<4→w.ownsRow base (rowOf s us j).1 (rowOf s us j).2.1 (vs j) (rowOf s us j).2.2.1 (rowOf s us j).2.2.2)∧us.length=s.items.length∧∀ (k:Nat) x u,s.items[k]?=some x→us[k]?=some u→HashU w base [] x u
def found0:Array Value:=#[.slice none 0 0,.slice none 0 0,.slice none 0 0,.slice none 0 0]
theorem FoundC.nothing (base:Nat) (w:World):FoundC base w wst0 found0 :=
  ⟨fun _=>.slice none 0 0,[],rfl,fun j hj=>by
    match j,hj with
    | 0,_=>exact World.ownsRow_nil _ _ _ _
    | 1,_=>exact World.ownsRow_nil _ _ _ _
    | 2,_=>exact World.ownsRow_nil _ _ _ _
    | 3,_=>exact World.ownsRow_nil _ _ _ _,rfl,fun k x u h=>by simp [wst0] at h⟩
theorem elRec:ElemK Tryz.prog 34 45 (.agg rec0) 27 184:=⟨by kernel_rfl,by kernel_rfl,rfl,by decide,by decide⟩
theorem elText:ElemK Tryz.prog 35 9 (.string ⟨#[]⟩) 1 16:=⟨by kernel_rfl,by kernel_rfl,rfl,by decide,by decide⟩

theorem inRoot_mem2 {r:ByteArray} {l:Nodes} {y:ByteArray×Nd} (h:y∈inRoot r l):∃ x∈l,withinB x.1 r=true∧y=(relS r x.1,x.2):=by
  unfold inRoot at h
  rw [List.mem_map] at h
  obtain ⟨x,h1,h2⟩:=h
  exact ⟨x,(List.mem_filter.1 h1).1,(List.mem_filter.1 h1).2,h2.symm⟩
theorem clip_each {m:Nat} {D:Dk} (R:DkRun m D) (r:ByteArray):(eachL D r).map clipW=eachL D r:=by
  have key:∀ x∈eachL D r,clipW x=x:=fun x hx=>by
    unfold eachL at hx
    split at hx
    · obtain ⟨y,hy,_,rfl⟩:=inRoot_mem2 hx
      refine clipW_eq ?_ ?_
      · have:=mayB_size (R.ok.live.may y hy)
        show (relS r y.1).size≤160
        unfold relS
        simp
        omega
      · have h1:=mem_used hy
        have h2:=R.ok.live.used
        have h3:=R.ok.r2
        have h4:64+y.2.data.size≤usedL D.live:=h1
        show y.2.data.size≤1048576
        omega
    · cases hx
  exact (List.map_congr_left key).trans (List.map_id _)
theorem eachL_le (D:Dk) (r:ByteArray):(eachL D r).length≤D.live.length:=by
  unfold eachL
  split
  · unfold inRoot
    rw [List.length_map]
    exact List.length_filter_le _ _
  · simp
set_option maxRecDepth 100000 in
set_option maxHeartbeats 4000000 in
theorem walk_any {w:World} {d m:Nat} {M I:List Nat} {D:Dk} (h:DkAt w d M I D) (R:DkRun m D) (O:DkFit D) (E:Env w) (T:ShaTabs w) (root:ByteArray) (hr:root.size≤100000) (lv:Option Addr) (ig:ByteArray→Bool)
    (HL:∀ (w':World) (p:ByteArray),Ext w w'→p.size≤160→Calls Tryz.prog 70 #[.pointer lv,.string p] w' fun e w''=>∃ b,e=.returned (.tuple #[.bool (ig p),.bool b])∧Ext w' w'') :
    Calls Tryz.prog 17 #[.pointer (some ⟨d,0,none⟩),.string root,.pointer lv] w fun e w'=>∃ C,e=.returned (.tuple #[.agg C,.int .i64 (rootE D.live root)])∧Hid (FoundC w.heap.size w' (walkS ig (eachL D root)) C∧Ext w w'):=by
  have HX2:=Lib.hid (((Ext.refl w).alloc (.cells #[.pointer lv] 30 (0,0))).alloc (.cells found0 37 (0,0)))
  have HZ0:=Lib.hid ((block_alloc_old (o:=.cells found0 37 (0,0)) (by simp only [size_alloc];omega)).trans (block_alloc_new w (.cells #[.pointer lv] 30 (0,0))))
  have HZ1:=Lib.hid (block_alloc_new (w.alloc (.cells #[.pointer lv] 30 (0,0))) (.cells found0 37 (0,0)))
  simp only [size_alloc] at HZ1
  have HRt:=Lib.hid (rooted_any (h.ext HX2.out) O.ok (E.ext HX2.out) root (by omega))
  have HA1:=Lib.hid (show (Tryz.prog.info? 37).map (·.size)=some found0.size from by kernel_rfl)
  have HA3:=Lib.hid (show found0.all (·.oneCell')=true from by kernel_rfl)
  unfold found0 at HX2 HZ0 HZ1 HRt
  refine callsIn_wide.1 (callsIn_of_wp_marks (n:=4) Tryz.func17 rfl trivial ?_ rfl)
  simp only [Tryz.ntmps17,List.size_toArray,List.length_cons,List.length_nil,Nat.reduceAdd,Nat.reduceSub,Array.replicate_succ,Array.replicate_zero,List.push_toArray,List.append_toArray,List.nil_append,List.cons_append]
  by_cases hroot:rootE D.live root=0
  · rw [hroot] at HRt
    gi_wp2
    refine ⟨trivial,(callsIn_wide.2 HRt.out).mono ?_⟩
    rintro e w3 ⟨rfl,x3⟩
    gi_wp2
    refine ⟨trivial,(callsIn_wide.2 (each_any (some ⟨d,0,none⟩) root _)).mono ?_⟩
    rintro e w5 ⟨rfl,hw5⟩
    have HB9:=Lib.hid (show (w3.alloc (.cells #[.string ⟨#[]⟩] 9 (0,0))).heap[w3.heap.size]?=some (.cells #[.string ⟨#[]⟩] 9 (0,0)) from block_alloc_new _ _)
    have HW5:=Lib.hid hw5
    have HB6:=Lib.hid ((x3.block (ltB HZ1.out)).trans HZ1.out)
    have HB5:=Lib.hid ((x3.block (ltB HZ0.out)).trans HZ0.out)
    have X3:=Lib.hid (HX2.out.trans x3)
    have hlt6:w.heap.size+1<w3.heap.size:=ltB HB6.out
    have X5:=Lib.hid (show Ext w3 w5 from by rw [hw5];exact (((Ext.refl w3).alloc _).alloc _).alloc _)
    have hd:=Lib.hid (show w5.heap[w3.heap.size+1]?=some (.cells #[.pointer (some ⟨d,0,none⟩)] 26 (0,0)) from by
      rw [hw5]
      have h1:=block_alloc_new (w3.alloc (.cells #[.string ⟨#[]⟩] 9 (0,0))) (.cells #[.pointer (some ⟨d,0,none⟩)] 26 (0,0))
      rw [size_alloc] at h1
      exact (block_alloc_old (by simp only [size_alloc];omega)).trans h1)
    have hrb:=Lib.hid (show w5.heap[w3.heap.size+1+1]?=some (.cells #[.string root] 9 (0,0)) from by
      rw [hw5]
      have h1:=block_alloc_new ((w3.alloc (.cells #[.string ⟨#[]⟩] 9 (0,0))).alloc (.cells #[.pointer (some ⟨d,0,none⟩)] 26 (0,0))) (.cells #[.string root] 9 (0,0))
      rw [size_alloc,size_alloc] at h1
      exact h1)
    have hb9:=Lib.hid (show w5.heap[w3.heap.size]?=some (.cells #[.string ⟨#[]⟩] 9 (0,0)) from by
      rw [hw5]
      exact (block_alloc_old (by simp only [size_alloc];omega)).trans ((block_alloc_old (by simp only [size_alloc];omega)).trans HB9.out))
    have hb6:=Lib.hid ((X5.out.block (ltB HB6.out)).trans HB6.out)
    have hb5:=Lib.hid ((X5.out.block (ltB HB5.out)).trans HB5.out)
    have hs5:w3.heap.size+3=w5.heap.size:=by rw [hw5];simp only [size_alloc]
    have XX:=Lib.hid (X3.out.trans X5.out)
    clear hw5
    have hF0:FoundIn (w3.heap.size+1) (w.heap.size+1) w3.heap.size wst0 w5 (fun _=>.slice none 0 0) []:=by
      refine ⟨hb6.out,hb9.out,fun j hj=>?_,fun i j _ _ _ b hb=>by simp [Value.ownBlock] at hb,rfl,fun k x u hx=>by simp [wst0] at hx,fun k u hu=>by simp at hu,by omega,by omega,by omega⟩
      match j,hj with
      | 0,_=>exact World.ownsRow_nil _ _ _ _
      | 1,_=>exact World.ownsRow_nil _ _ _ _
      | 2,_=>exact World.ownsRow_nil _ _ _ _
      | 3,_=>exact World.ownsRow_nil _ _ _ _
    have hK5:walkK (w.heap.size+1) w3.heap.size w5=[w.heap.size+1,w3.heap.size]:=by rw [hF0.k];rfl
    have hDlt:=h.lt
    gi_wp2
    refine wpIn_rangeFunc_ownH rfl (by decide) (gf:=79) (lb:=#[.pointer (some ⟨w3.heap.size+1,0,none⟩),.pointer (some ⟨w3.heap.size+1+1,0,none⟩)]) rfl trivial (enters_of Tryz.func79 (by kernel_rfl) rfl)
      (each_stops 3 (by decide) (wb:=w) (w0:=w5) (K:=walkK (w.heap.size+1) w3.heap.size) (n0:=w3.heap.size+1) (D:=D) root E XX.out (walkK_reads (by omega)) (by omega) (fun b hb=>?kl) (h.ext XX.out) R O (fun b hb hm=>?ki) (cellB hd.out) (cellB hrb.out) (by rw [hK5];simp;omega) (by omega))
      KpK.trans (fun W l o o' hl ho h1 h2=>KpK.turn (walkK_reads (n0:=w3.heap.size+1) (by omega)) W l o o' (by omega) (by have:=XX.out.size;omega) ho h1 h2) (Below.refl _ _) (fun _=>rfl)
      (fun pre W=>∃ vs us,Hid (FoundIn (w3.heap.size+1) (w.heap.size+1) w3.heap.size (walkS ig (pre.map clipW)) W vs us∧Ext w W∧W.heap[w.heap.size]?=some (.cells #[.pointer lv] 30 (0,0)))) (fun _ _ _=>False) ?own (fun c s W W' row hs _ _=>hs.elim) ⟨_,_,hF0,XX.out,hb5.out⟩
      (fun x a' W=>∃ g,Hid (w3.heap.size+1≤g∧W.heap[g]?=some (.cells #[.int .i64 (clipW x).2.kind,.string (clipW x).2.data,.string (clipW x).2.target,.int .i64 (clipW x).2.time] 84 (0,0)))∧a'={ tmps:=#[.pointer (some ⟨d,0,none⟩),.string root,.pointer lv,undef,undef,.pointer (some ⟨w.heap.size,0,none⟩),.pointer (some ⟨w.heap.size+1,0,none⟩),.int .i64 0,.int .i64 0,.pointer (some ⟨w3.heap.size,0,none⟩),.string (clipW x).1,.pointer (some ⟨g,0,none⟩),undef,undef,undef,undef,.pointer (some ⟨d,0,none⟩),.string root,.int .i64 0,.int .i64 0,.bool false,undef,undef,.pointer (some ⟨d,0,none⟩),.string root,.func (.func 79) #[] #[.pointer (some ⟨w3.heap.size+1,0,none⟩),.pointer (some ⟨w3.heap.size+1+1,0,none⟩)],.string (clipW x).1,nv (clipW x).2,undef,undef,undef,undef,undef,undef,undef,undef,undef,undef,undef,undef,undef,undef,undef,undef,undef,undef,undef,undef,undef,undef,undef,undef,undef,undef,undef,undef,undef,undef,undef,undef,undef,undef,undef,undef,undef,undef,undef,undef,undef,undef,undef,undef,undef,undef,undef,undef,undef,undef,undef,undef,undef],defers:=[] }) ?ax ?assign ?body ?done (fun D c pre W _ _ hs _=>hs.elim)
    case kl =>
      rw [hK5] at hb
      simp only [List.mem_cons,List.not_mem_nil,or_false] at hb
      omega
    case ki =>
      rw [hK5] at hm
      simp only [List.mem_cons,List.not_mem_nil,or_false] at hm
      have:=hDlt.2 b hb
      omega
    case own=>exact FoundIn.own (fun pre:Nodes=>walkS ig (pre.map clipW)) XX.out.size
    case ax =>
      rintro x a' _ W W' row ⟨g,⟨h1,h2⟩,h3⟩ hg hr
      refine ⟨g,⟨h1,(hg.block g (ltB h2) fun e=>?_).trans h2⟩,h3⟩
      obtain ⟨_,o,ho,hn⟩:=hr g e.symm
      rw [h2] at ho
      cases ho
      cases hn
    case assign =>
      rintro l pre x W K ⟨vs,us,hF,hx,h5⟩ hK
      have hK:=Lib.hid hK
      have hF:=Lib.hid hF
      have h5:=Lib.hid h5
      have hx:=Lib.hid hx
      unfold encW
      generalize clipW x=y at *
      obtain ⟨yp,yk,yd,yt,ym⟩:=y
      unfold nv at *
      dsimp only at *
      gi_wp2
      have x1:Ext W (W.alloc (.cells #[.int .i64 yk,.string yd,.string yt,.int .i64 ym] 84 (0,0))):=(Ext.refl W).alloc _
      have r1:Rnd (w.heap.size+1) w3.heap.size w.heap.size W _:=Rnd.ext x1 (ltB hF.out.blk) hx.out.size
      exact hK.out _ _ (r1.ko.from _) r1.kp ⟨vs,us,hF.out.ext x1,hx.out.trans x1,(x1.block (ltB h5.out)).trans h5.out⟩ ⟨W.heap.size,⟨ltB hF.out.over,block_alloc_new _ _⟩,rfl⟩
    case body =>
      rintro l pre x a' W hl hlr ⟨vs,us,hF,hx,h5⟩ ⟨g,⟨hg,hbg⟩,rfl⟩ hlen
      have hF:=Lib.hid hF
      have h5:=Lib.hid h5
      have hx:=Lib.hid hx
      have hbg:=Lib.hid hbg
      obtain ⟨hp160,hd20⟩:=clipW_le x
      have HN:=Lib.hid (show walkS ig ((pre++[x]).map clipW)=stepW ig (walkS ig (pre.map clipW)) (clipW x) from by rw [List.map_append];exact walkS_snoc _ _ _)
      have hl6:(eachL D root).length≤16384:=Nat.le_trans (eachL_le D root) (live_few R)
      have hsov:(walkS ig (pre.map clipW)).over.size≤160:=walkS_over ig _ (fun z hz=>by obtain ⟨q,_,rfl⟩:=List.mem_map.1 hz;exact (clipW_le q).1)
      have htot:(walkS ig (pre.map clipW)).total<16384:=Nat.lt_of_lt_of_le (Nat.lt_of_le_of_lt (walkS_total ig _) (by rw [List.length_map];exact hlen)) hl6
      generalize clipW x=y at *
      obtain ⟨yp,yk,yd,yt,ym⟩:=y
      unfold nv at *
      dsimp only at *
      generalize walkS ig (List.map clipW pre)=s at *
      have c9:W.cell? ⟨w3.heap.size,0,none⟩=some (.string s.over):=cellB hF.out.over
      have f9:W.frozen? ⟨w3.heap.size,0,none⟩=false:=frozenB hF.out.over
      cases ho:s.over.toList.isEmpty with
      | true =>
        have hoe:s.over=⟨#[]⟩:=ba_ext ((List.isEmpty_iff.1 ho).trans (by rw [Lib.toList_data]))
        rw [hoe] at c9
        gi_wp2
        refine ⟨trivial,?_⟩
        have hsk:(!s.over.toList.isEmpty&&withinB yp s.over)=false:=by rw [ho];rfl
        obtain ⟨W1,hW1⟩:∃ W1,W1=W:=⟨_,rfl⟩
        have y1:=Lib.hid (show Ext W W1 from hW1▸Ext.refl W)
        rw [←hW1]
        clear hW1 c9 f9
        have hsk:=Lib.hid hsk
        have hF1:=Lib.hid (hF.out.ext y1.out)
        have hR1:=Lib.hid (Rnd.ext (b9:=w3.heap.size) (nb:=w.heap.size) y1.out (ltB hF.out.blk) hx.out.size)
        have h51:=Lib.hid ((y1.out.block (ltB h5.out)).trans h5.out)
        have hg1:=Lib.hid ((y1.out.block (ltB hbg.out)).trans hbg.out)
        have hx1:=Lib.hid (hx.out.trans y1.out)
        have hF0W:=hF
        have h50:=h5
        have hx0:=hx
        clear hF h5 hbg y1 hx
        gi_wp2_with (refine wpListIn_store1 rfl _ _ _ rfl w3.heap.size 0 (.string yp) rfl rfl (by kernel_rfl) rfl _ _ hF1.out.over Nat.zero_lt_one ?_;intro W2 hw2;have HFR:=Lib.hid (hF1.out.setOver (nb:=w.heap.size) yp (by omega));rw [←hw2] at HFR;have hg2:=Lib.hid (show W2.heap[g]?=_ from (hw2▸setCellO (by omega)).trans hg1.out);have h52:=Lib.hid (HFR.out.2.keep hF1.out h51.out (by omega) (by omega) (by omega));have c5:W2.cell? ⟨w.heap.size,0,none⟩=some (.pointer lv):=cellB h52.out;have n0:W2.cell? ⟨g,0,none⟩=some (.int .i64 yk):=cellB hg2.out;have n1:W2.cell? ⟨g,1,none⟩=some (.string yd):=cellB hg2.out;have n2:W2.cell? ⟨g,2,none⟩=some (.string yt):=cellB hg2.out;have n3:W2.cell? ⟨g,3,none⟩=some (.int .i64 ym):=cellB hg2.out;clear hw2;go_frame)
        have hR2:=Lib.hid (hR1.out.trans HFR.out.2)
        have hx2:=Lib.hid (show Ext w W2 from Below.trans hx1.out HFR.out.2.kp.low)
        have hF2:=Lib.hid HFR.out.1
        clear HFR hF1 hR1 h51 hg1 hx1 n0 n1 n2 n3 c5
        refine ⟨trivial,(CallsIn.inRound l (callsIn_wide.2 (HL W2 yp hx2.out hp160))).mono ?_⟩
        rintro e W3 ⟨del,rfl,y3⟩
        have hg3:=(y3.block (ltB hg2.out)).trans hg2.out
        have n0:W3.cell? ⟨g,0,none⟩=some (.int .i64 yk):=cellB hg3
        have n1:W3.cell? ⟨g,1,none⟩=some (.string yd):=cellB hg3
        have n2:W3.cell? ⟨g,2,none⟩=some (.string yt):=cellB hg3
        have n3:W3.cell? ⟨g,3,none⟩=some (.int .i64 ym):=cellB hg3
        clear hg3
        gi_wp2
        refine ⟨trivial,(CallsIn.inRound l (callsIn_wide.2 (item_any yp ⟨yk,yd,yt,ym⟩ W3 (T.ext (hx2.out.trans y3)) hd20))).mono ?_⟩
        rintro e W4 ⟨C,er,rfl,h4⟩
        clear n0 n1 n2 n3
        obtain ⟨hs1,hs2⟩:=item_shape h4.out.1
        have HC1:=Lib.hid (show (Tryz.prog.info? 45).map (·.size)=some C.size from by rw [hs1];kernel_rfl)
        have HC2:=Lib.hid (show 27=C.size from hs1.symm)
        have HC3:=Lib.hid hs2
        clear hs1 hs2
        gi_wp2_with (refine wpListIn_storeT rfl _ _ _ rfl W4.heap.size C rfl rfl 45 _ (block_alloc_new W4 _) HC1.out HC2.out HC3.out ?_;intro W5 hb5 ht5;have HB5:=Lib.hid hb5;have HX5:=Lib.hid (ht5.fresh ((Ext.refl W4).alloc _) (Nat.le_refl _));clear hb5 ht5;go_frame)
        refine ⟨trivial,(CallsIn.inRound l (callsIn_wide.2 (isTemp_any yp W5 (by omega)))).mono ?_⟩
        rintro e W6 ⟨rfl,hdr⟩
        obtain ⟨nd,hdr⟩:=hdr
        have y6:=Lib.hid (show Ext W5 W6 from hdr▸(Ext.refl W5).drewN nd)
        clear hdr
        have HB6:=Lib.hid ((y6.out.block (ltB HB5.out)).trans HB5.out)
        have y26:=Lib.hid (((y3.trans h4.out.2).trans HX5.out).trans y6.out)
        have hF6:=Lib.hid (hF2.out.ext y26.out)
        have hR6:=Lib.hid (hR2.out.trans (Rnd.ext y26.out (ltB hF2.out.blk) hx2.out.size))
        cases htp:isTempB yp with
        | true =>
          have hrw:=Lib.hid (hF6.out.row 1 (by decide))
          obtain ⟨ra,rc,hre⟩:=rowk_shape hrw.out
          have HRE:=Lib.hid hre
          have c6:W6.cell? ⟨w.heap.size+1,1,none⟩=some (.slice ra s.temps.length rc):=(cellB hF6.out.blk).trans (by rw [←show vs 1=.slice ra s.temps.length rc from hre];rfl)
          have HOW:=Lib.hid (show W6.ownsRow (w3.heap.size+1) 9 1 (.slice ra s.temps.length rc) s.temps.length (s.temps.map Value.string) from (show vs 1=.slice ra s.temps.length rc from hre)▸hrw.out)
          have hln:s.temps.length≤16384:=Nat.le_trans (rowOf_le s us 1 (by decide)) (Nat.le_of_lt htot)
          have h61:w3.heap.size+1≤W6.heap.size:=ltB hF6.out.over
          clear hre hrw
          gi_wp2_with (first
            | (refine wpListIn_append_k elText (w3.heap.size+1) (.slice ra s.temps.length rc) s.temps.length (s.temps.map Value.string) (owns_ext HOW.out ((Ext.refl _).alloc _)) W6.heap.size [.string yp] rfl (.tmp 58) (.tmp 60) rfl rfl rfl rfl (fun j u hj=>(cellB (block_alloc_new W6 _)).trans (by simpa using hj)) (by simp [Value.oneCell']) (by omega) (by simp only [size_alloc];omega) ?_;intro v8 W8 ho8 hg8 hv8;obtain ⟨va,vc,hve⟩:=rowk_shape ho8;rw [hve] at ho8 hv8;rw [hve];have HO8:=Lib.hid ho8;have HG8:=Lib.hid hg8;have HV8:=Lib.hid hv8;clear ho8 hg8 hv8 hve;go_frame)
            | (refine wpListIn_store1 rfl _ _ _ rfl (w.heap.size+1) 1 (.slice va (s.temps.length+1) vc) rfl rfl (by kernel_rfl) rfl #[vs 0,vs 1,vs 2,vs 3] 37 ((HG8.out.block (w.heap.size+1) (ltB (hF6.out.ext ((Ext.refl _).alloc _)).blk) (fun e=>by have h1:=(hF6.out.below 1 (by decide) (w.heap.size+1) (by rw [show vs 1=_ from HRE.out];exact e.symm)).1;omega)).trans (hF6.out.ext ((Ext.refl _).alloc _)).blk) (by show 1<4;decide) ?_;intro W9 hw9;have HW9:=Lib.hid hw9;clear hw9;go_frame))
          have hg8:=HG8.out
          have hv8:=HV8.out
          rw [show Value.slice ra s.temps.length rc=vs 1 from HRE.out.symm] at hg8 hv8
          have hF7:=hF6.out.ext ((Ext.refl W6).alloc (.cells #[.string yp] 9 (0,0)))
          have hF9:=hF7.addText (j:=1) (by decide) (by decide) yp HO8.out hg8 hv8
          have hR9:=(hR6.out.trans (Rnd.ext ((Ext.refl W6).alloc (.cells #[.string yp] 9 (0,0))) (ltB hF6.out.blk) (Nat.le_trans hx2.out.size y26.out.size))).trans (hF7.addR (nb:=w.heap.size) (j:=1) (by decide) hg8 hv8 (by omega) (by omega))
          rw [←HW9.out] at hF9 hR9
          have hfin:FoundIn (w3.heap.size+1) (w.heap.size+1) w3.heap.size (walkS ig (List.map clipW (pre++[x]))) W9 (fun i=>if i=1 then .slice va (s.temps.length+1) vc else vs i) us:=by
            rw [HN.out,stepW_temp (ig:=ig) (s:=s) (x:=(yp,⟨yk,yd,yt,ym⟩)) hsk.out htp]
            exact hF9
          have hext:=Below.trans hx0.out hR9.kp.low
          have hkp5:=hR9.keep hF0W.out h50.out (by omega) (by omega) (by omega)
          exact ⟨hR9.ko.from _,hR9.kp,⟨_,us,⟨hfin,hext,hkp5⟩⟩⟩
        | false =>
          cases hig:ig yp with
          | true =>
            have hrw:=Lib.hid (hF6.out.row 2 (by decide))
            obtain ⟨ra,rc,hre⟩:=rowk_shape hrw.out
            have HRE:=Lib.hid hre
            have c6:W6.cell? ⟨w.heap.size+1,2,none⟩=some (.slice ra s.ign.length rc):=(cellB hF6.out.blk).trans (by rw [←show vs 2=.slice ra s.ign.length rc from hre];rfl)
            have HOW:=Lib.hid (show W6.ownsRow (w3.heap.size+1) 9 1 (.slice ra s.ign.length rc) s.ign.length (s.ign.map Value.string) from (show vs 2=.slice ra s.ign.length rc from hre)▸hrw.out)
            have hln:s.ign.length≤16384:=Nat.le_trans (rowOf_le s us 2 (by decide)) (Nat.le_of_lt htot)
            have h61:w3.heap.size+1≤W6.heap.size:=ltB hF6.out.over
            clear hre hrw
            gi_wp2_with (first
              | (refine wpListIn_append_k elText (w3.heap.size+1) (.slice ra s.ign.length rc) s.ign.length (s.ign.map Value.string) (owns_ext HOW.out ((Ext.refl _).alloc _)) W6.heap.size [.string yp] rfl (.tmp 66) (.tmp 68) rfl rfl rfl rfl (fun j u hj=>(cellB (block_alloc_new W6 _)).trans (by simpa using hj)) (by simp [Value.oneCell']) (by omega) (by simp only [size_alloc];omega) ?_;intro v8 W8 ho8 hg8 hv8;obtain ⟨va,vc,hve⟩:=rowk_shape ho8;rw [hve] at ho8 hv8;rw [hve];have HO8:=Lib.hid ho8;have HG8:=Lib.hid hg8;have HV8:=Lib.hid hv8;clear ho8 hg8 hv8 hve;go_frame)
              | (refine wpListIn_store1 rfl _ _ _ rfl (w.heap.size+1) 2 (.slice va (s.ign.length+1) vc) rfl rfl (by kernel_rfl) rfl #[vs 0,vs 1,vs 2,vs 3] 37 ((HG8.out.block (w.heap.size+1) (ltB (hF6.out.ext ((Ext.refl _).alloc _)).blk) (fun e=>by have h1:=(hF6.out.below 2 (by decide) (w.heap.size+1) (by rw [show vs 2=_ from HRE.out];exact e.symm)).1;omega)).trans (hF6.out.ext ((Ext.refl _).alloc _)).blk) (by show 2<4;decide) ?_;intro W9 hw9;have HW9:=Lib.hid hw9;clear hw9;go_frame))
            have hg8:=HG8.out
            have hv8:=HV8.out
            rw [show Value.slice ra s.ign.length rc=vs 2 from HRE.out.symm] at hg8 hv8
            have hF7:=hF6.out.ext ((Ext.refl W6).alloc (.cells #[.string yp] 9 (0,0)))
            have hF9:=hF7.addText (j:=2) (by decide) (by decide) yp HO8.out hg8 hv8
            have hR9:=(hR6.out.trans (Rnd.ext ((Ext.refl W6).alloc (.cells #[.string yp] 9 (0,0))) (ltB hF6.out.blk) (Nat.le_trans hx2.out.size y26.out.size))).trans (hF7.addR (nb:=w.heap.size) (j:=2) (by decide) hg8 hv8 (by omega) (by omega))
            rw [←HW9.out] at hF9 hR9
            have hfin:FoundIn (w3.heap.size+1) (w.heap.size+1) w3.heap.size (walkS ig (List.map clipW (pre++[x]))) W9 (fun i=>if i=2 then .slice va (s.ign.length+1) vc else vs i) us:=by
              rw [HN.out,stepW_ign (ig:=ig) (s:=s) (x:=(yp,⟨yk,yd,yt,ym⟩)) hsk.out htp hig]
              exact hF9
            have hext:=Below.trans hx0.out hR9.kp.low
            have hkp5:=hR9.keep hF0W.out h50.out (by omega) (by omega) (by omega)
            exact ⟨hR9.ko.from _,hR9.kp,⟨_,us,⟨hfin,hext,hkp5⟩⟩⟩
          | false =>
            rcases h4.out.1 with ⟨hk,hC,he⟩ | ⟨hk,h46,he,u,hC,hu⟩ | ⟨hk,h46,he,hC⟩
            · have hrw:=Lib.hid (hF6.out.row 0 (by decide))
              obtain ⟨ra,rc,hre⟩:=rowk_shape hrw.out
              have HRE:=Lib.hid hre
              have c6:W6.cell? ⟨w.heap.size+1,0,none⟩=some (.slice ra s.items.length rc):=(cellB hF6.out.blk).trans (by rw [←show vs 0=.slice ra s.items.length rc from hre];rfl)
              have HOW:=Lib.hid (show W6.ownsRow (w3.heap.size+1) 45 27 (.slice ra s.items.length rc) s.items.length (rowsU s.items us) from (show vs 0=.slice ra s.items.length rc from hre)▸hrw.out)
              have hln:s.items.length≤16384:=Nat.le_trans (rowOf_le s us 0 (by decide)) (Nat.le_of_lt htot)
              have h61:w3.heap.size+1≤W6.heap.size:=ltB hF6.out.over
              have hbd:badN ⟨yk,yd,yt,ym⟩=false:=by unfold badN;rw [decide_eq_false hk];rfl
              clear hre hrw
              subst hC he
              unfold itemC at *
              dsimp only at *
              have X7:=Lib.hid ((Ext.refl W6).alloc (.cells #[.string yp,.int .i64 yk,.bool false,.int .i64 (0),.int .i64 ym,.int .i64 0,.int .u32 0,.int .u32 0,.int .u32 0,.int .u32 0,.int .u32 0,.int .u32 0,.int .u32 0,.int .u32 0,.int .u32 0,.int .u32 0,.int .u32 0,.int .u32 0,.int .u32 0,.int .u32 0,.int .u32 0,.int .u32 0,.int .i64 (0),.slice none 0 0,.string yt,.int .i64 0,.int .i64 0] 45 (0,0)))
              have HF7:=Lib.hid (hF6.out.ext X7.out)
              have HU:=Lib.hid (show HashU (W6.alloc (.cells #[.string yp,.int .i64 yk,.bool false,.int .i64 (0),.int .i64 ym,.int .i64 0,.int .u32 0,.int .u32 0,.int .u32 0,.int .u32 0,.int .u32 0,.int .u32 0,.int .u32 0,.int .u32 0,.int .u32 0,.int .u32 0,.int .u32 0,.int .u32 0,.int .u32 0,.int .u32 0,.int .u32 0,.int .u32 0,.int .i64 (0),.slice none 0 0,.string yt,.int .i64 0,.int .i64 0] 45 (0,0))) (w3.heap.size+1) [] (yp,⟨yk,yd,yt,ym⟩) (.slice none 0 0) from .inl ⟨hk,rfl⟩)
              have HUN:=Lib.hid (show ∀ b,(.slice none 0 0:Value).ownBlock=some b→∀ i,i<4→(vs i).ownBlock≠some b from fun b hb=>by simp [Value.ownBlock] at hb)
              have HIU:=Lib.hid (show itemU (yp,⟨yk,yd,yt,ym⟩) (.slice none 0 0)=[.string yp,.int .i64 yk,.bool false,.int .i64 (0),.int .i64 ym,.int .i64 0,.int .u32 0,.int .u32 0,.int .u32 0,.int .u32 0,.int .u32 0,.int .u32 0,.int .u32 0,.int .u32 0,.int .u32 0,.int .u32 0,.int .u32 0,.int .u32 0,.int .u32 0,.int .u32 0,.int .u32 0,.int .u32 0,.int .i64 (0),.slice none 0 0,.string yt,.int .i64 0,.int .i64 0] from by unfold itemU;rw [if_neg hk];rfl)
              gi_wp2_with (first
                | (refine wpListIn_load_row rfl 45 (.tmp 14) rfl W4.heap.size rfl 45 _ (0,0) _ HB6.out Tryz.underlying45 rfl HC1.out ?_;go_frame)
                | (refine wpListIn_append_k elRec (w3.heap.size+1) (.slice ra s.items.length rc) s.items.length (rowsU s.items us) (owns_ext HOW.out X7.out) W6.heap.size [.string yp,.int .i64 yk,.bool false,.int .i64 (0),.int .i64 ym,.int .i64 0,.int .u32 0,.int .u32 0,.int .u32 0,.int .u32 0,.int .u32 0,.int .u32 0,.int .u32 0,.int .u32 0,.int .u32 0,.int .u32 0,.int .u32 0,.int .u32 0,.int .u32 0,.int .u32 0,.int .u32 0,.int .u32 0,.int .i64 (0),.slice none 0 0,.string yt,.int .i64 0,.int .i64 0] rfl (.tmp 49) (.tmp 51) rfl rfl rfl rfl (fun j u hj=>(cellB (block_alloc_new W6 _)).trans (by simpa using hj)) (by simp [Value.oneCell']) (by omega) (by simp only [size_alloc];omega) ?_;intro v8 W8 ho8 hg8 hv8;obtain ⟨va,vc,hve⟩:=rowk_shape ho8;rw [hve] at ho8 hv8;rw [hve];have HO8:=Lib.hid ho8;have HG8:=Lib.hid hg8;have HV8:=Lib.hid hv8;clear ho8 hg8 hv8 hve;go_frame)
                | (refine wpListIn_store1 rfl _ _ _ rfl (w.heap.size+1) 0 (.slice va (s.items.length+1) vc) rfl rfl (by kernel_rfl) rfl #[vs 0,vs 1,vs 2,vs 3] 37 ((HG8.out.block (w.heap.size+1) (ltB HF7.out.blk) (fun e=>by have h1:=(hF6.out.below 0 (by decide) (w.heap.size+1) (by rw [show vs 0=_ from HRE.out];exact e.symm)).1;omega)).trans HF7.out.blk) (by show 0<4;decide) ?_;intro W9 hw9;have hg8:=HG8.out;have hv8:=HV8.out;rw [show Value.slice ra s.items.length rc=vs 0 from HRE.out.symm] at hg8 hv8;have ho8:=HO8.out;rw [←HIU.out] at ho8;have hF9:=HF7.out.addItem (yp,⟨yk,yd,yt,ym⟩) ho8 hg8 hv8 HU.out HUN.out;have hR9:=HF7.out.addR (nb:=w.heap.size) (j:=0) (by decide) hg8 hv8 (by omega) (by omega);rw [←hw9] at hF9 hR9;have HF9:=Lib.hid hF9;have HR9:=Lib.hid hR9;clear hw9 hg8 hv8 ho8 hF9 hR9;go_frame)
                | (refine wpListIn_store1 rfl _ _ _ rfl w3.heap.size 0 (.string ⟨#[]⟩) rfl rfl (by kernel_rfl) rfl _ _ HF9.out.over Nat.zero_lt_one ?_;intro W10 hw10;have HW10:=Lib.hid hw10;clear hw10;go_frame))
              have hF10:=HF9.out.setOver (nb:=w.heap.size) ⟨#[]⟩ (by omega)
              rw [←HW10.out] at hF10
              have hR10:=((hR6.out.trans (Rnd.ext X7.out (ltB hF6.out.blk) (Nat.le_trans hx2.out.size y26.out.size))).trans HR9.out).trans hF10.2
              have hfin:FoundIn (w3.heap.size+1) (w.heap.size+1) w3.heap.size (walkS ig (List.map clipW (pre++[x]))) W10 (fun i=>if i=0 then .slice va (s.items.length+1) vc else vs i) (us++[.slice none 0 0]):=by
                rw [HN.out,stepW_item (ig:=ig) (s:=s) (x:=(yp,⟨yk,yd,yt,ym⟩)) hsk.out htp hig hbd]
                exact hF10.1
              have hext:=Below.trans hx0.out hR10.kp.low
              have hkp5:=hR10.keep hF0W.out h50.out (by omega) (by omega) (by omega)
              exact ⟨hR10.ko.from _,hR10.kp,⟨_,_,⟨hfin,hext,hkp5⟩⟩⟩
            · obtain ⟨ua,uc,rfl⟩:=rowk_shape hu
              have hk1:yk=1:=hk
              clear hk
              subst hk1
              have hrw:=Lib.hid (hF6.out.row 0 (by decide))
              obtain ⟨ra,rc,hre⟩:=rowk_shape hrw.out
              have HRE:=Lib.hid hre
              have c6:W6.cell? ⟨w.heap.size+1,0,none⟩=some (.slice ra s.items.length rc):=(cellB hF6.out.blk).trans (by rw [←show vs 0=.slice ra s.items.length rc from hre];rfl)
              have HOW:=Lib.hid (show W6.ownsRow (w3.heap.size+1) 45 27 (.slice ra s.items.length rc) s.items.length (rowsU s.items us) from (show vs 0=.slice ra s.items.length rc from hre)▸hrw.out)
              have hln:s.items.length≤16384:=Nat.le_trans (rowOf_le s us 0 (by decide)) (Nat.le_of_lt htot)
              have h61:w3.heap.size+1≤W6.heap.size:=ltB hF6.out.over
              have hbd:badN ⟨1,yd,yt,ym⟩=false:=by unfold badN;rw [decide_eq_false (show ¬ 4096<yd.size from Nat.not_lt.2 h46)];simp
              clear hre hrw
              subst hC he
              unfold itemC at *
              dsimp only at *
              have X7:=Lib.hid ((Ext.refl W6).alloc (.cells #[.string yp,.int .i64 1,.bool false,.int .i64 ((yd.size:Nat)),.int .i64 ym,.int .i64 0,.int .u32 0,.int .u32 0,.int .u32 0,.int .u32 0,.int .u32 0,.int .u32 0,.int .u32 0,.int .u32 0,.int .u32 0,.int .u32 0,.int .u32 0,.int .u32 0,.int .u32 0,.int .u32 0,.int .u32 0,.int .u32 0,.int .i64 ((sizeN yd.size:Nat)),.slice ua (countN yd.size) uc,.string yt,.int .i64 0,.int .i64 0] 45 (0,0)))
              have HF7:=Lib.hid (hF6.out.ext X7.out)
              have HU:=Lib.hid (show HashU (W6.alloc (.cells #[.string yp,.int .i64 1,.bool false,.int .i64 ((yd.size:Nat)),.int .i64 ym,.int .i64 0,.int .u32 0,.int .u32 0,.int .u32 0,.int .u32 0,.int .u32 0,.int .u32 0,.int .u32 0,.int .u32 0,.int .u32 0,.int .u32 0,.int .u32 0,.int .u32 0,.int .u32 0,.int .u32 0,.int .u32 0,.int .u32 0,.int .i64 ((sizeN yd.size:Nat)),.slice ua (countN yd.size) uc,.string yt,.int .i64 0,.int .i64 0] 45 (0,0))) (w3.heap.size+1) [] (yp,⟨1,yd,yt,ym⟩) (.slice ua (countN yd.size) uc) from .inr ⟨rfl,h46,owns_down (owns_ext (owns_ext hu (HX5.out.trans y6.out)) X7.out) (by have:=ltB hF2.out.over;have:=y3.size;omega),fun b _=>by simp⟩)
              have HUN:=Lib.hid (show ∀ b,(.slice ua (countN yd.size) uc:Value).ownBlock=some b→∀ i,i<4→(vs i).ownBlock≠some b from fun b hb i hi e=>by have h1:=own_ge hu b hb;have h2:=(hF2.out.below i hi b e).2;have h3:=y3.size;omega)
              have HIU:=Lib.hid (show itemU (yp,⟨1,yd,yt,ym⟩) (.slice ua (countN yd.size) uc)=[.string yp,.int .i64 1,.bool false,.int .i64 ((yd.size:Nat)),.int .i64 ym,.int .i64 0,.int .u32 0,.int .u32 0,.int .u32 0,.int .u32 0,.int .u32 0,.int .u32 0,.int .u32 0,.int .u32 0,.int .u32 0,.int .u32 0,.int .u32 0,.int .u32 0,.int .u32 0,.int .u32 0,.int .u32 0,.int .u32 0,.int .i64 ((sizeN yd.size:Nat)),.slice ua (countN yd.size) uc,.string yt,.int .i64 0,.int .i64 0] from by unfold itemU;rw [if_pos rfl];rfl)
              gi_wp2_with (first
                | (refine wpListIn_load_row rfl 45 (.tmp 14) rfl W4.heap.size rfl 45 _ (0,0) _ HB6.out Tryz.underlying45 rfl HC1.out ?_;go_frame)
                | (refine wpListIn_append_k elRec (w3.heap.size+1) (.slice ra s.items.length rc) s.items.length (rowsU s.items us) (owns_ext HOW.out X7.out) W6.heap.size [.string yp,.int .i64 1,.bool false,.int .i64 ((yd.size:Nat)),.int .i64 ym,.int .i64 0,.int .u32 0,.int .u32 0,.int .u32 0,.int .u32 0,.int .u32 0,.int .u32 0,.int .u32 0,.int .u32 0,.int .u32 0,.int .u32 0,.int .u32 0,.int .u32 0,.int .u32 0,.int .u32 0,.int .u32 0,.int .u32 0,.int .i64 ((sizeN yd.size:Nat)),.slice ua (countN yd.size) uc,.string yt,.int .i64 0,.int .i64 0] rfl (.tmp 49) (.tmp 51) rfl rfl rfl rfl (fun j u hj=>(cellB (block_alloc_new W6 _)).trans (by simpa using hj)) (by simp [Value.oneCell']) (by omega) (by simp only [size_alloc];omega) ?_;intro v8 W8 ho8 hg8 hv8;obtain ⟨va,vc,hve⟩:=rowk_shape ho8;rw [hve] at ho8 hv8;rw [hve];have HO8:=Lib.hid ho8;have HG8:=Lib.hid hg8;have HV8:=Lib.hid hv8;clear ho8 hg8 hv8 hve;go_frame)
                | (refine wpListIn_store1 rfl _ _ _ rfl (w.heap.size+1) 0 (.slice va (s.items.length+1) vc) rfl rfl (by kernel_rfl) rfl #[vs 0,vs 1,vs 2,vs 3] 37 ((HG8.out.block (w.heap.size+1) (ltB HF7.out.blk) (fun e=>by have h1:=(hF6.out.below 0 (by decide) (w.heap.size+1) (by rw [show vs 0=_ from HRE.out];exact e.symm)).1;omega)).trans HF7.out.blk) (by show 0<4;decide) ?_;intro W9 hw9;have hg8:=HG8.out;have hv8:=HV8.out;rw [show Value.slice ra s.items.length rc=vs 0 from HRE.out.symm] at hg8 hv8;have ho8:=HO8.out;rw [←HIU.out] at ho8;have hF9:=HF7.out.addItem (yp,⟨1,yd,yt,ym⟩) ho8 hg8 hv8 HU.out HUN.out;have hR9:=HF7.out.addR (nb:=w.heap.size) (j:=0) (by decide) hg8 hv8 (by omega) (by omega);rw [←hw9] at hF9 hR9;have HF9:=Lib.hid hF9;have HR9:=Lib.hid hR9;clear hw9 hg8 hv8 ho8 hF9 hR9;go_frame)
                | (refine wpListIn_store1 rfl _ _ _ rfl w3.heap.size 0 (.string ⟨#[]⟩) rfl rfl (by kernel_rfl) rfl _ _ HF9.out.over Nat.zero_lt_one ?_;intro W10 hw10;have HW10:=Lib.hid hw10;clear hw10;go_frame))
              have hF10:=HF9.out.setOver (nb:=w.heap.size) ⟨#[]⟩ (by omega)
              rw [←HW10.out] at hF10
              have hR10:=((hR6.out.trans (Rnd.ext X7.out (ltB hF6.out.blk) (Nat.le_trans hx2.out.size y26.out.size))).trans HR9.out).trans hF10.2
              have hfin:FoundIn (w3.heap.size+1) (w.heap.size+1) w3.heap.size (walkS ig (List.map clipW (pre++[x]))) W10 (fun i=>if i=0 then .slice va (s.items.length+1) vc else vs i) (us++[.slice ua (countN yd.size) uc]):=by
                rw [HN.out,stepW_item (ig:=ig) (s:=s) (x:=(yp,⟨1,yd,yt,ym⟩)) hsk.out htp hig hbd]
                exact hF10.1
              have hext:=Below.trans hx0.out hR10.kp.low
              have hkp5:=hR10.keep hF0W.out h50.out (by omega) (by omega) (by omega)
              exact ⟨hR10.ko.from _,hR10.kp,⟨_,_,⟨hfin,hext,hkp5⟩⟩⟩
            · have hbd:badN ⟨yk,yd,yt,ym⟩=true:=by unfold badN;rw [decide_eq_true hk,decide_eq_true h46];rfl
              subst he
              clear hC
              have hrw:=Lib.hid (hF6.out.row 3 (by decide))
              obtain ⟨ra,rc,hre⟩:=rowk_shape hrw.out
              have HRE:=Lib.hid hre
              have c6:W6.cell? ⟨w.heap.size+1,3,none⟩=some (.slice ra s.bad.length rc):=(cellB hF6.out.blk).trans (by rw [←show vs 3=.slice ra s.bad.length rc from hre];rfl)
              have HOW:=Lib.hid (show W6.ownsRow (w3.heap.size+1) 9 1 (.slice ra s.bad.length rc) s.bad.length (s.bad.map Value.string) from (show vs 3=.slice ra s.bad.length rc from hre)▸hrw.out)
              have hln:s.bad.length≤16384:=Nat.le_trans (rowOf_le s us 3 (by decide)) (Nat.le_of_lt htot)
              have h61:w3.heap.size+1≤W6.heap.size:=ltB hF6.out.over
              clear hre hrw
              gi_wp2_with (first
                | (refine wpListIn_append_k elText (w3.heap.size+1) (.slice ra s.bad.length rc) s.bad.length (s.bad.map Value.string) (owns_ext HOW.out ((Ext.refl _).alloc _)) W6.heap.size [.string yp] rfl (.tmp 75) (.tmp 77) rfl rfl rfl rfl (fun j u hj=>(cellB (block_alloc_new W6 _)).trans (by simpa using hj)) (by simp [Value.oneCell']) (by omega) (by simp only [size_alloc];omega) ?_;intro v8 W8 ho8 hg8 hv8;obtain ⟨va,vc,hve⟩:=rowk_shape ho8;rw [hve] at ho8 hv8;rw [hve];have HO8:=Lib.hid ho8;have HG8:=Lib.hid hg8;have HV8:=Lib.hid hv8;clear ho8 hg8 hv8 hve;go_frame)
                | (refine wpListIn_store1 rfl _ _ _ rfl (w.heap.size+1) 3 (.slice va (s.bad.length+1) vc) rfl rfl (by kernel_rfl) rfl #[vs 0,vs 1,vs 2,vs 3] 37 ((HG8.out.block (w.heap.size+1) (ltB (hF6.out.ext ((Ext.refl _).alloc _)).blk) (fun e=>by have h1:=(hF6.out.below 3 (by decide) (w.heap.size+1) (by rw [show vs 3=_ from HRE.out];exact e.symm)).1;omega)).trans (hF6.out.ext ((Ext.refl _).alloc _)).blk) (by show 3<4;decide) ?_;intro W9 hw9;have HW9:=Lib.hid hw9;clear hw9;go_frame))
              have hg8:=HG8.out
              have hv8:=HV8.out
              rw [show Value.slice ra s.bad.length rc=vs 3 from HRE.out.symm] at hg8 hv8
              have hF7:=hF6.out.ext ((Ext.refl W6).alloc (.cells #[.string yp] 9 (0,0)))
              have hF9:=hF7.addText (j:=3) (by decide) (by decide) yp HO8.out hg8 hv8
              have hR9:=(hR6.out.trans (Rnd.ext ((Ext.refl W6).alloc (.cells #[.string yp] 9 (0,0))) (ltB hF6.out.blk) (Nat.le_trans hx2.out.size y26.out.size))).trans (hF7.addR (nb:=w.heap.size) (j:=3) (by decide) hg8 hv8 (by omega) (by omega))
              rw [←HW9.out] at hF9 hR9
              have hfin:FoundIn (w3.heap.size+1) (w.heap.size+1) w3.heap.size (walkS ig (List.map clipW (pre++[x]))) W9 (fun i=>if i=3 then .slice va (s.bad.length+1) vc else vs i) us:=by
                rw [HN.out,stepW_bad (ig:=ig) (s:=s) (x:=(yp,⟨yk,yd,yt,ym⟩)) hsk.out htp hig hbd]
                exact hF9
              have hext:=Below.trans hx0.out hR9.kp.low
              have hkp5:=hR9.keep hF0W.out h50.out (by omega) (by omega) (by omega)
              exact ⟨hR9.ko.from _,hR9.kp,⟨_,us,⟨hfin,hext,hkp5⟩⟩⟩
      | false =>
        have hne:decide (s.over=⟨#[]⟩)=false:=decide_eq_false fun e=>by
          rw [e,Lib.toList_data] at ho
          cases ho
        have HW9:=Lib.hid (within_any yp s.over W (by omega) (by have:=hsov;omega) (E.ext hx.out))
        cases hw:withinB yp s.over with
        | true =>
          rw [hw] at HW9
          gi_wp2
          refine ⟨trivial,(CallsIn.inRound l (callsIn_wide.2 HW9.out)).mono ?_⟩
          rintro e W1 ⟨rfl,y1⟩
          gi_wp2
          have hR1:=Rnd.ext (b9:=w3.heap.size) (nb:=w.heap.size) y1 (ltB hF.out.blk) hx.out.size
          have hfin:FoundIn (w3.heap.size+1) (w.heap.size+1) w3.heap.size (walkS ig (List.map clipW (pre++[x]))) W1 vs us:=by
            rw [HN.out,stepW_skip (ig:=ig) (s:=s) (x:=(yp,⟨yk,yd,yt,ym⟩)) (by rw [ho,hw];rfl)]
            exact hF.out.ext y1
          exact ⟨hR1.ko.from _,hR1.kp,⟨_,_,⟨hfin,hx.out.trans y1,(y1.block (ltB h5.out)).trans h5.out⟩⟩⟩
        | false =>
          rw [hw] at HW9
          have hsk:(!s.over.toList.isEmpty&&withinB yp s.over)=false:=by rw [ho,hw];rfl
          gi_wp2
          refine ⟨trivial,(CallsIn.inRound l (callsIn_wide.2 HW9.out)).mono ?_⟩
          rintro e W1 ⟨rfl,hy1⟩
          have y1:=Lib.hid hy1
          clear hy1 c9 f9 HW9
          have hsk:=Lib.hid hsk
          have hF1:=Lib.hid (hF.out.ext y1.out)
          have hR1:=Lib.hid (Rnd.ext (b9:=w3.heap.size) (nb:=w.heap.size) y1.out (ltB hF.out.blk) hx.out.size)
          have h51:=Lib.hid ((y1.out.block (ltB h5.out)).trans h5.out)
          have hg1:=Lib.hid ((y1.out.block (ltB hbg.out)).trans hbg.out)
          have hx1:=Lib.hid (hx.out.trans y1.out)
          have hF0W:=hF
          have h50:=h5
          have hx0:=hx
          clear hF h5 hbg y1 hx
          gi_wp2_with (refine wpListIn_store1 rfl _ _ _ rfl w3.heap.size 0 (.string yp) rfl rfl (by kernel_rfl) rfl _ _ hF1.out.over Nat.zero_lt_one ?_;intro W2 hw2;have HFR:=Lib.hid (hF1.out.setOver (nb:=w.heap.size) yp (by omega));rw [←hw2] at HFR;have hg2:=Lib.hid (show W2.heap[g]?=_ from (hw2▸setCellO (by omega)).trans hg1.out);have h52:=Lib.hid (HFR.out.2.keep hF1.out h51.out (by omega) (by omega) (by omega));have c5:W2.cell? ⟨w.heap.size,0,none⟩=some (.pointer lv):=cellB h52.out;have n0:W2.cell? ⟨g,0,none⟩=some (.int .i64 yk):=cellB hg2.out;have n1:W2.cell? ⟨g,1,none⟩=some (.string yd):=cellB hg2.out;have n2:W2.cell? ⟨g,2,none⟩=some (.string yt):=cellB hg2.out;have n3:W2.cell? ⟨g,3,none⟩=some (.int .i64 ym):=cellB hg2.out;clear hw2;go_frame)
          have hR2:=Lib.hid (hR1.out.trans HFR.out.2)
          have hx2:=Lib.hid (show Ext w W2 from Below.trans hx1.out HFR.out.2.kp.low)
          have hF2:=Lib.hid HFR.out.1
          clear HFR hF1 hR1 h51 hg1 hx1 n0 n1 n2 n3 c5
          refine ⟨trivial,(CallsIn.inRound l (callsIn_wide.2 (HL W2 yp hx2.out hp160))).mono ?_⟩
          rintro e W3 ⟨del,rfl,y3⟩
          have hg3:=(y3.block (ltB hg2.out)).trans hg2.out
          have n0:W3.cell? ⟨g,0,none⟩=some (.int .i64 yk):=cellB hg3
          have n1:W3.cell? ⟨g,1,none⟩=some (.string yd):=cellB hg3
          have n2:W3.cell? ⟨g,2,none⟩=some (.string yt):=cellB hg3
          have n3:W3.cell? ⟨g,3,none⟩=some (.int .i64 ym):=cellB hg3
          clear hg3
          gi_wp2
          refine ⟨trivial,(CallsIn.inRound l (callsIn_wide.2 (item_any yp ⟨yk,yd,yt,ym⟩ W3 (T.ext (hx2.out.trans y3)) hd20))).mono ?_⟩
          rintro e W4 ⟨C,er,rfl,h4⟩
          clear n0 n1 n2 n3
          obtain ⟨hs1,hs2⟩:=item_shape h4.out.1
          have HC1:=Lib.hid (show (Tryz.prog.info? 45).map (·.size)=some C.size from by rw [hs1];kernel_rfl)
          have HC2:=Lib.hid (show 27=C.size from hs1.symm)
          have HC3:=Lib.hid hs2
          clear hs1 hs2
          gi_wp2_with (refine wpListIn_storeT rfl _ _ _ rfl W4.heap.size C rfl rfl 45 _ (block_alloc_new W4 _) HC1.out HC2.out HC3.out ?_;intro W5 hb5 ht5;have HB5:=Lib.hid hb5;have HX5:=Lib.hid (ht5.fresh ((Ext.refl W4).alloc _) (Nat.le_refl _));clear hb5 ht5;go_frame)
          refine ⟨trivial,(CallsIn.inRound l (callsIn_wide.2 (isTemp_any yp W5 (by omega)))).mono ?_⟩
          rintro e W6 ⟨rfl,hdr⟩
          obtain ⟨nd,hdr⟩:=hdr
          have y6:=Lib.hid (show Ext W5 W6 from hdr▸(Ext.refl W5).drewN nd)
          clear hdr
          have HB6:=Lib.hid ((y6.out.block (ltB HB5.out)).trans HB5.out)
          have y26:=Lib.hid (((y3.trans h4.out.2).trans HX5.out).trans y6.out)
          have hF6:=Lib.hid (hF2.out.ext y26.out)
          have hR6:=Lib.hid (hR2.out.trans (Rnd.ext y26.out (ltB hF2.out.blk) hx2.out.size))
          cases htp:isTempB yp with
          | true =>
            have hrw:=Lib.hid (hF6.out.row 1 (by decide))
            obtain ⟨ra,rc,hre⟩:=rowk_shape hrw.out
            have HRE:=Lib.hid hre
            have c6:W6.cell? ⟨w.heap.size+1,1,none⟩=some (.slice ra s.temps.length rc):=(cellB hF6.out.blk).trans (by rw [←show vs 1=.slice ra s.temps.length rc from hre];rfl)
            have HOW:=Lib.hid (show W6.ownsRow (w3.heap.size+1) 9 1 (.slice ra s.temps.length rc) s.temps.length (s.temps.map Value.string) from (show vs 1=.slice ra s.temps.length rc from hre)▸hrw.out)
            have hln:s.temps.length≤16384:=Nat.le_trans (rowOf_le s us 1 (by decide)) (Nat.le_of_lt htot)
            have h61:w3.heap.size+1≤W6.heap.size:=ltB hF6.out.over
            clear hre hrw
            gi_wp2_with (first
              | (refine wpListIn_append_k elText (w3.heap.size+1) (.slice ra s.temps.length rc) s.temps.length (s.temps.map Value.string) (owns_ext HOW.out ((Ext.refl _).alloc _)) W6.heap.size [.string yp] rfl (.tmp 58) (.tmp 60) rfl rfl rfl rfl (fun j u hj=>(cellB (block_alloc_new W6 _)).trans (by simpa using hj)) (by simp [Value.oneCell']) (by omega) (by simp only [size_alloc];omega) ?_;intro v8 W8 ho8 hg8 hv8;obtain ⟨va,vc,hve⟩:=rowk_shape ho8;rw [hve] at ho8 hv8;rw [hve];have HO8:=Lib.hid ho8;have HG8:=Lib.hid hg8;have HV8:=Lib.hid hv8;clear ho8 hg8 hv8 hve;go_frame)
              | (refine wpListIn_store1 rfl _ _ _ rfl (w.heap.size+1) 1 (.slice va (s.temps.length+1) vc) rfl rfl (by kernel_rfl) rfl #[vs 0,vs 1,vs 2,vs 3] 37 ((HG8.out.block (w.heap.size+1) (ltB (hF6.out.ext ((Ext.refl _).alloc _)).blk) (fun e=>by have h1:=(hF6.out.below 1 (by decide) (w.heap.size+1) (by rw [show vs 1=_ from HRE.out];exact e.symm)).1;omega)).trans (hF6.out.ext ((Ext.refl _).alloc _)).blk) (by show 1<4;decide) ?_;intro W9 hw9;have HW9:=Lib.hid hw9;clear hw9;go_frame))
            have hg8:=HG8.out
            have hv8:=HV8.out
            rw [show Value.slice ra s.temps.length rc=vs 1 from HRE.out.symm] at hg8 hv8
            have hF7:=hF6.out.ext ((Ext.refl W6).alloc (.cells #[.string yp] 9 (0,0)))
            have hF9:=hF7.addText (j:=1) (by decide) (by decide) yp HO8.out hg8 hv8
            have hR9:=(hR6.out.trans (Rnd.ext ((Ext.refl W6).alloc (.cells #[.string yp] 9 (0,0))) (ltB hF6.out.blk) (Nat.le_trans hx2.out.size y26.out.size))).trans (hF7.addR (nb:=w.heap.size) (j:=1) (by decide) hg8 hv8 (by omega) (by omega))
            rw [←HW9.out] at hF9 hR9
            have hfin:FoundIn (w3.heap.size+1) (w.heap.size+1) w3.heap.size (walkS ig (List.map clipW (pre++[x]))) W9 (fun i=>if i=1 then .slice va (s.temps.length+1) vc else vs i) us:=by
              rw [HN.out,stepW_temp (ig:=ig) (s:=s) (x:=(yp,⟨yk,yd,yt,ym⟩)) hsk.out htp]
              exact hF9
            have hext:=Below.trans hx0.out hR9.kp.low
            have hkp5:=hR9.keep hF0W.out h50.out (by omega) (by omega) (by omega)
            exact ⟨hR9.ko.from _,hR9.kp,⟨_,us,⟨hfin,hext,hkp5⟩⟩⟩
          | false =>
            cases hig:ig yp with
            | true =>
              have hrw:=Lib.hid (hF6.out.row 2 (by decide))
              obtain ⟨ra,rc,hre⟩:=rowk_shape hrw.out
              have HRE:=Lib.hid hre
              have c6:W6.cell? ⟨w.heap.size+1,2,none⟩=some (.slice ra s.ign.length rc):=(cellB hF6.out.blk).trans (by rw [←show vs 2=.slice ra s.ign.length rc from hre];rfl)
              have HOW:=Lib.hid (show W6.ownsRow (w3.heap.size+1) 9 1 (.slice ra s.ign.length rc) s.ign.length (s.ign.map Value.string) from (show vs 2=.slice ra s.ign.length rc from hre)▸hrw.out)
              have hln:s.ign.length≤16384:=Nat.le_trans (rowOf_le s us 2 (by decide)) (Nat.le_of_lt htot)
              have h61:w3.heap.size+1≤W6.heap.size:=ltB hF6.out.over
              clear hre hrw
              gi_wp2_with (first
                | (refine wpListIn_append_k elText (w3.heap.size+1) (.slice ra s.ign.length rc) s.ign.length (s.ign.map Value.string) (owns_ext HOW.out ((Ext.refl _).alloc _)) W6.heap.size [.string yp] rfl (.tmp 66) (.tmp 68) rfl rfl rfl rfl (fun j u hj=>(cellB (block_alloc_new W6 _)).trans (by simpa using hj)) (by simp [Value.oneCell']) (by omega) (by simp only [size_alloc];omega) ?_;intro v8 W8 ho8 hg8 hv8;obtain ⟨va,vc,hve⟩:=rowk_shape ho8;rw [hve] at ho8 hv8;rw [hve];have HO8:=Lib.hid ho8;have HG8:=Lib.hid hg8;have HV8:=Lib.hid hv8;clear ho8 hg8 hv8 hve;go_frame)
                | (refine wpListIn_store1 rfl _ _ _ rfl (w.heap.size+1) 2 (.slice va (s.ign.length+1) vc) rfl rfl (by kernel_rfl) rfl #[vs 0,vs 1,vs 2,vs 3] 37 ((HG8.out.block (w.heap.size+1) (ltB (hF6.out.ext ((Ext.refl _).alloc _)).blk) (fun e=>by have h1:=(hF6.out.below 2 (by decide) (w.heap.size+1) (by rw [show vs 2=_ from HRE.out];exact e.symm)).1;omega)).trans (hF6.out.ext ((Ext.refl _).alloc _)).blk) (by show 2<4;decide) ?_;intro W9 hw9;have HW9:=Lib.hid hw9;clear hw9;go_frame))
              have hg8:=HG8.out
              have hv8:=HV8.out
              rw [show Value.slice ra s.ign.length rc=vs 2 from HRE.out.symm] at hg8 hv8
              have hF7:=hF6.out.ext ((Ext.refl W6).alloc (.cells #[.string yp] 9 (0,0)))
              have hF9:=hF7.addText (j:=2) (by decide) (by decide) yp HO8.out hg8 hv8
              have hR9:=(hR6.out.trans (Rnd.ext ((Ext.refl W6).alloc (.cells #[.string yp] 9 (0,0))) (ltB hF6.out.blk) (Nat.le_trans hx2.out.size y26.out.size))).trans (hF7.addR (nb:=w.heap.size) (j:=2) (by decide) hg8 hv8 (by omega) (by omega))
              rw [←HW9.out] at hF9 hR9
              have hfin:FoundIn (w3.heap.size+1) (w.heap.size+1) w3.heap.size (walkS ig (List.map clipW (pre++[x]))) W9 (fun i=>if i=2 then .slice va (s.ign.length+1) vc else vs i) us:=by
                rw [HN.out,stepW_ign (ig:=ig) (s:=s) (x:=(yp,⟨yk,yd,yt,ym⟩)) hsk.out htp hig]
                exact hF9
              have hext:=Below.trans hx0.out hR9.kp.low
              have hkp5:=hR9.keep hF0W.out h50.out (by omega) (by omega) (by omega)
              exact ⟨hR9.ko.from _,hR9.kp,⟨_,us,⟨hfin,hext,hkp5⟩⟩⟩
            | false =>
              rcases h4.out.1 with ⟨hk,hC,he⟩ | ⟨hk,h46,he,u,hC,hu⟩ | ⟨hk,h46,he,hC⟩
              · have hrw:=Lib.hid (hF6.out.row 0 (by decide))
                obtain ⟨ra,rc,hre⟩:=rowk_shape hrw.out
                have HRE:=Lib.hid hre
                have c6:W6.cell? ⟨w.heap.size+1,0,none⟩=some (.slice ra s.items.length rc):=(cellB hF6.out.blk).trans (by rw [←show vs 0=.slice ra s.items.length rc from hre];rfl)
                have HOW:=Lib.hid (show W6.ownsRow (w3.heap.size+1) 45 27 (.slice ra s.items.length rc) s.items.length (rowsU s.items us) from (show vs 0=.slice ra s.items.length rc from hre)▸hrw.out)
                have hln:s.items.length≤16384:=Nat.le_trans (rowOf_le s us 0 (by decide)) (Nat.le_of_lt htot)
                have h61:w3.heap.size+1≤W6.heap.size:=ltB hF6.out.over
                have hbd:badN ⟨yk,yd,yt,ym⟩=false:=by unfold badN;rw [decide_eq_false hk];rfl
                clear hre hrw
                subst hC he
                unfold itemC at *
                dsimp only at *
                have X7:=Lib.hid ((Ext.refl W6).alloc (.cells #[.string yp,.int .i64 yk,.bool false,.int .i64 (0),.int .i64 ym,.int .i64 0,.int .u32 0,.int .u32 0,.int .u32 0,.int .u32 0,.int .u32 0,.int .u32 0,.int .u32 0,.int .u32 0,.int .u32 0,.int .u32 0,.int .u32 0,.int .u32 0,.int .u32 0,.int .u32 0,.int .u32 0,.int .u32 0,.int .i64 (0),.slice none 0 0,.string yt,.int .i64 0,.int .i64 0] 45 (0,0)))
                have HF7:=Lib.hid (hF6.out.ext X7.out)
                have HU:=Lib.hid (show HashU (W6.alloc (.cells #[.string yp,.int .i64 yk,.bool false,.int .i64 (0),.int .i64 ym,.int .i64 0,.int .u32 0,.int .u32 0,.int .u32 0,.int .u32 0,.int .u32 0,.int .u32 0,.int .u32 0,.int .u32 0,.int .u32 0,.int .u32 0,.int .u32 0,.int .u32 0,.int .u32 0,.int .u32 0,.int .u32 0,.int .u32 0,.int .i64 (0),.slice none 0 0,.string yt,.int .i64 0,.int .i64 0] 45 (0,0))) (w3.heap.size+1) [] (yp,⟨yk,yd,yt,ym⟩) (.slice none 0 0) from .inl ⟨hk,rfl⟩)
                have HUN:=Lib.hid (show ∀ b,(.slice none 0 0:Value).ownBlock=some b→∀ i,i<4→(vs i).ownBlock≠some b from fun b hb=>by simp [Value.ownBlock] at hb)
                have HIU:=Lib.hid (show itemU (yp,⟨yk,yd,yt,ym⟩) (.slice none 0 0)=[.string yp,.int .i64 yk,.bool false,.int .i64 (0),.int .i64 ym,.int .i64 0,.int .u32 0,.int .u32 0,.int .u32 0,.int .u32 0,.int .u32 0,.int .u32 0,.int .u32 0,.int .u32 0,.int .u32 0,.int .u32 0,.int .u32 0,.int .u32 0,.int .u32 0,.int .u32 0,.int .u32 0,.int .u32 0,.int .i64 (0),.slice none 0 0,.string yt,.int .i64 0,.int .i64 0] from by unfold itemU;rw [if_neg hk];rfl)
                gi_wp2_with (first
                  | (refine wpListIn_load_row rfl 45 (.tmp 14) rfl W4.heap.size rfl 45 _ (0,0) _ HB6.out Tryz.underlying45 rfl HC1.out ?_;go_frame)
                  | (refine wpListIn_append_k elRec (w3.heap.size+1) (.slice ra s.items.length rc) s.items.length (rowsU s.items us) (owns_ext HOW.out X7.out) W6.heap.size [.string yp,.int .i64 yk,.bool false,.int .i64 (0),.int .i64 ym,.int .i64 0,.int .u32 0,.int .u32 0,.int .u32 0,.int .u32 0,.int .u32 0,.int .u32 0,.int .u32 0,.int .u32 0,.int .u32 0,.int .u32 0,.int .u32 0,.int .u32 0,.int .u32 0,.int .u32 0,.int .u32 0,.int .u32 0,.int .i64 (0),.slice none 0 0,.string yt,.int .i64 0,.int .i64 0] rfl (.tmp 49) (.tmp 51) rfl rfl rfl rfl (fun j u hj=>(cellB (block_alloc_new W6 _)).trans (by simpa using hj)) (by simp [Value.oneCell']) (by omega) (by simp only [size_alloc];omega) ?_;intro v8 W8 ho8 hg8 hv8;obtain ⟨va,vc,hve⟩:=rowk_shape ho8;rw [hve] at ho8 hv8;rw [hve];have HO8:=Lib.hid ho8;have HG8:=Lib.hid hg8;have HV8:=Lib.hid hv8;clear ho8 hg8 hv8 hve;go_frame)
                  | (refine wpListIn_store1 rfl _ _ _ rfl (w.heap.size+1) 0 (.slice va (s.items.length+1) vc) rfl rfl (by kernel_rfl) rfl #[vs 0,vs 1,vs 2,vs 3] 37 ((HG8.out.block (w.heap.size+1) (ltB HF7.out.blk) (fun e=>by have h1:=(hF6.out.below 0 (by decide) (w.heap.size+1) (by rw [show vs 0=_ from HRE.out];exact e.symm)).1;omega)).trans HF7.out.blk) (by show 0<4;decide) ?_;intro W9 hw9;have hg8:=HG8.out;have hv8:=HV8.out;rw [show Value.slice ra s.items.length rc=vs 0 from HRE.out.symm] at hg8 hv8;have ho8:=HO8.out;rw [←HIU.out] at ho8;have hF9:=HF7.out.addItem (yp,⟨yk,yd,yt,ym⟩) ho8 hg8 hv8 HU.out HUN.out;have hR9:=HF7.out.addR (nb:=w.heap.size) (j:=0) (by decide) hg8 hv8 (by omega) (by omega);rw [←hw9] at hF9 hR9;have HF9:=Lib.hid hF9;have HR9:=Lib.hid hR9;clear hw9 hg8 hv8 ho8 hF9 hR9;go_frame)
                  | (refine wpListIn_store1 rfl _ _ _ rfl w3.heap.size 0 (.string ⟨#[]⟩) rfl rfl (by kernel_rfl) rfl _ _ HF9.out.over Nat.zero_lt_one ?_;intro W10 hw10;have HW10:=Lib.hid hw10;clear hw10;go_frame))
                have hF10:=HF9.out.setOver (nb:=w.heap.size) ⟨#[]⟩ (by omega)
                rw [←HW10.out] at hF10
                have hR10:=((hR6.out.trans (Rnd.ext X7.out (ltB hF6.out.blk) (Nat.le_trans hx2.out.size y26.out.size))).trans HR9.out).trans hF10.2
                have hfin:FoundIn (w3.heap.size+1) (w.heap.size+1) w3.heap.size (walkS ig (List.map clipW (pre++[x]))) W10 (fun i=>if i=0 then .slice va (s.items.length+1) vc else vs i) (us++[.slice none 0 0]):=by
                  rw [HN.out,stepW_item (ig:=ig) (s:=s) (x:=(yp,⟨yk,yd,yt,ym⟩)) hsk.out htp hig hbd]
                  exact hF10.1
                have hext:=Below.trans hx0.out hR10.kp.low
                have hkp5:=hR10.keep hF0W.out h50.out (by omega) (by omega) (by omega)
                exact ⟨hR10.ko.from _,hR10.kp,⟨_,_,⟨hfin,hext,hkp5⟩⟩⟩
              · obtain ⟨ua,uc,rfl⟩:=rowk_shape hu
                have hk1:yk=1:=hk
                clear hk
                subst hk1
                have hrw:=Lib.hid (hF6.out.row 0 (by decide))
                obtain ⟨ra,rc,hre⟩:=rowk_shape hrw.out
                have HRE:=Lib.hid hre
                have c6:W6.cell? ⟨w.heap.size+1,0,none⟩=some (.slice ra s.items.length rc):=(cellB hF6.out.blk).trans (by rw [←show vs 0=.slice ra s.items.length rc from hre];rfl)
                have HOW:=Lib.hid (show W6.ownsRow (w3.heap.size+1) 45 27 (.slice ra s.items.length rc) s.items.length (rowsU s.items us) from (show vs 0=.slice ra s.items.length rc from hre)▸hrw.out)
                have hln:s.items.length≤16384:=Nat.le_trans (rowOf_le s us 0 (by decide)) (Nat.le_of_lt htot)
                have h61:w3.heap.size+1≤W6.heap.size:=ltB hF6.out.over
                have hbd:badN ⟨1,yd,yt,ym⟩=false:=by unfold badN;rw [decide_eq_false (show ¬ 4096<yd.size from Nat.not_lt.2 h46)];simp
                clear hre hrw
                subst hC he
                unfold itemC at *
                dsimp only at *
                have X7:=Lib.hid ((Ext.refl W6).alloc (.cells #[.string yp,.int .i64 1,.bool false,.int .i64 ((yd.size:Nat)),.int .i64 ym,.int .i64 0,.int .u32 0,.int .u32 0,.int .u32 0,.int .u32 0,.int .u32 0,.int .u32 0,.int .u32 0,.int .u32 0,.int .u32 0,.int .u32 0,.int .u32 0,.int .u32 0,.int .u32 0,.int .u32 0,.int .u32 0,.int .u32 0,.int .i64 ((sizeN yd.size:Nat)),.slice ua (countN yd.size) uc,.string yt,.int .i64 0,.int .i64 0] 45 (0,0)))
                have HF7:=Lib.hid (hF6.out.ext X7.out)
                have HU:=Lib.hid (show HashU (W6.alloc (.cells #[.string yp,.int .i64 1,.bool false,.int .i64 ((yd.size:Nat)),.int .i64 ym,.int .i64 0,.int .u32 0,.int .u32 0,.int .u32 0,.int .u32 0,.int .u32 0,.int .u32 0,.int .u32 0,.int .u32 0,.int .u32 0,.int .u32 0,.int .u32 0,.int .u32 0,.int .u32 0,.int .u32 0,.int .u32 0,.int .u32 0,.int .i64 ((sizeN yd.size:Nat)),.slice ua (countN yd.size) uc,.string yt,.int .i64 0,.int .i64 0] 45 (0,0))) (w3.heap.size+1) [] (yp,⟨1,yd,yt,ym⟩) (.slice ua (countN yd.size) uc) from .inr ⟨rfl,h46,owns_down (owns_ext (owns_ext hu (HX5.out.trans y6.out)) X7.out) (by have:=ltB hF2.out.over;have:=y3.size;omega),fun b _=>by simp⟩)
                have HUN:=Lib.hid (show ∀ b,(.slice ua (countN yd.size) uc:Value).ownBlock=some b→∀ i,i<4→(vs i).ownBlock≠some b from fun b hb i hi e=>by have h1:=own_ge hu b hb;have h2:=(hF2.out.below i hi b e).2;have h3:=y3.size;omega)
                have HIU:=Lib.hid (show itemU (yp,⟨1,yd,yt,ym⟩) (.slice ua (countN yd.size) uc)=[.string yp,.int .i64 1,.bool false,.int .i64 ((yd.size:Nat)),.int .i64 ym,.int .i64 0,.int .u32 0,.int .u32 0,.int .u32 0,.int .u32 0,.int .u32 0,.int .u32 0,.int .u32 0,.int .u32 0,.int .u32 0,.int .u32 0,.int .u32 0,.int .u32 0,.int .u32 0,.int .u32 0,.int .u32 0,.int .u32 0,.int .i64 ((sizeN yd.size:Nat)),.slice ua (countN yd.size) uc,.string yt,.int .i64 0,.int .i64 0] from by unfold itemU;rw [if_pos rfl];rfl)
                gi_wp2_with (first
                  | (refine wpListIn_load_row rfl 45 (.tmp 14) rfl W4.heap.size rfl 45 _ (0,0) _ HB6.out Tryz.underlying45 rfl HC1.out ?_;go_frame)
                  | (refine wpListIn_append_k elRec (w3.heap.size+1) (.slice ra s.items.length rc) s.items.length (rowsU s.items us) (owns_ext HOW.out X7.out) W6.heap.size [.string yp,.int .i64 1,.bool false,.int .i64 ((yd.size:Nat)),.int .i64 ym,.int .i64 0,.int .u32 0,.int .u32 0,.int .u32 0,.int .u32 0,.int .u32 0,.int .u32 0,.int .u32 0,.int .u32 0,.int .u32 0,.int .u32 0,.int .u32 0,.int .u32 0,.int .u32 0,.int .u32 0,.int .u32 0,.int .u32 0,.int .i64 ((sizeN yd.size:Nat)),.slice ua (countN yd.size) uc,.string yt,.int .i64 0,.int .i64 0] rfl (.tmp 49) (.tmp 51) rfl rfl rfl rfl (fun j u hj=>(cellB (block_alloc_new W6 _)).trans (by simpa using hj)) (by simp [Value.oneCell']) (by omega) (by simp only [size_alloc];omega) ?_;intro v8 W8 ho8 hg8 hv8;obtain ⟨va,vc,hve⟩:=rowk_shape ho8;rw [hve] at ho8 hv8;rw [hve];have HO8:=Lib.hid ho8;have HG8:=Lib.hid hg8;have HV8:=Lib.hid hv8;clear ho8 hg8 hv8 hve;go_frame)
                  | (refine wpListIn_store1 rfl _ _ _ rfl (w.heap.size+1) 0 (.slice va (s.items.length+1) vc) rfl rfl (by kernel_rfl) rfl #[vs 0,vs 1,vs 2,vs 3] 37 ((HG8.out.block (w.heap.size+1) (ltB HF7.out.blk) (fun e=>by have h1:=(hF6.out.below 0 (by decide) (w.heap.size+1) (by rw [show vs 0=_ from HRE.out];exact e.symm)).1;omega)).trans HF7.out.blk) (by show 0<4;decide) ?_;intro W9 hw9;have hg8:=HG8.out;have hv8:=HV8.out;rw [show Value.slice ra s.items.length rc=vs 0 from HRE.out.symm] at hg8 hv8;have ho8:=HO8.out;rw [←HIU.out] at ho8;have hF9:=HF7.out.addItem (yp,⟨1,yd,yt,ym⟩) ho8 hg8 hv8 HU.out HUN.out;have hR9:=HF7.out.addR (nb:=w.heap.size) (j:=0) (by decide) hg8 hv8 (by omega) (by omega);rw [←hw9] at hF9 hR9;have HF9:=Lib.hid hF9;have HR9:=Lib.hid hR9;clear hw9 hg8 hv8 ho8 hF9 hR9;go_frame)
                  | (refine wpListIn_store1 rfl _ _ _ rfl w3.heap.size 0 (.string ⟨#[]⟩) rfl rfl (by kernel_rfl) rfl _ _ HF9.out.over Nat.zero_lt_one ?_;intro W10 hw10;have HW10:=Lib.hid hw10;clear hw10;go_frame))
                have hF10:=HF9.out.setOver (nb:=w.heap.size) ⟨#[]⟩ (by omega)
                rw [←HW10.out] at hF10
                have hR10:=((hR6.out.trans (Rnd.ext X7.out (ltB hF6.out.blk) (Nat.le_trans hx2.out.size y26.out.size))).trans HR9.out).trans hF10.2
                have hfin:FoundIn (w3.heap.size+1) (w.heap.size+1) w3.heap.size (walkS ig (List.map clipW (pre++[x]))) W10 (fun i=>if i=0 then .slice va (s.items.length+1) vc else vs i) (us++[.slice ua (countN yd.size) uc]):=by
                  rw [HN.out,stepW_item (ig:=ig) (s:=s) (x:=(yp,⟨1,yd,yt,ym⟩)) hsk.out htp hig hbd]
                  exact hF10.1
                have hext:=Below.trans hx0.out hR10.kp.low
                have hkp5:=hR10.keep hF0W.out h50.out (by omega) (by omega) (by omega)
                exact ⟨hR10.ko.from _,hR10.kp,⟨_,_,⟨hfin,hext,hkp5⟩⟩⟩
              · have hbd:badN ⟨yk,yd,yt,ym⟩=true:=by unfold badN;rw [decide_eq_true hk,decide_eq_true h46];rfl
                subst he
                clear hC
                have hrw:=Lib.hid (hF6.out.row 3 (by decide))
                obtain ⟨ra,rc,hre⟩:=rowk_shape hrw.out
                have HRE:=Lib.hid hre
                have c6:W6.cell? ⟨w.heap.size+1,3,none⟩=some (.slice ra s.bad.length rc):=(cellB hF6.out.blk).trans (by rw [←show vs 3=.slice ra s.bad.length rc from hre];rfl)
                have HOW:=Lib.hid (show W6.ownsRow (w3.heap.size+1) 9 1 (.slice ra s.bad.length rc) s.bad.length (s.bad.map Value.string) from (show vs 3=.slice ra s.bad.length rc from hre)▸hrw.out)
                have hln:s.bad.length≤16384:=Nat.le_trans (rowOf_le s us 3 (by decide)) (Nat.le_of_lt htot)
                have h61:w3.heap.size+1≤W6.heap.size:=ltB hF6.out.over
                clear hre hrw
                gi_wp2_with (first
                  | (refine wpListIn_append_k elText (w3.heap.size+1) (.slice ra s.bad.length rc) s.bad.length (s.bad.map Value.string) (owns_ext HOW.out ((Ext.refl _).alloc _)) W6.heap.size [.string yp] rfl (.tmp 75) (.tmp 77) rfl rfl rfl rfl (fun j u hj=>(cellB (block_alloc_new W6 _)).trans (by simpa using hj)) (by simp [Value.oneCell']) (by omega) (by simp only [size_alloc];omega) ?_;intro v8 W8 ho8 hg8 hv8;obtain ⟨va,vc,hve⟩:=rowk_shape ho8;rw [hve] at ho8 hv8;rw [hve];have HO8:=Lib.hid ho8;have HG8:=Lib.hid hg8;have HV8:=Lib.hid hv8;clear ho8 hg8 hv8 hve;go_frame)
                  | (refine wpListIn_store1 rfl _ _ _ rfl (w.heap.size+1) 3 (.slice va (s.bad.length+1) vc) rfl rfl (by kernel_rfl) rfl #[vs 0,vs 1,vs 2,vs 3] 37 ((HG8.out.block (w.heap.size+1) (ltB (hF6.out.ext ((Ext.refl _).alloc _)).blk) (fun e=>by have h1:=(hF6.out.below 3 (by decide) (w.heap.size+1) (by rw [show vs 3=_ from HRE.out];exact e.symm)).1;omega)).trans (hF6.out.ext ((Ext.refl _).alloc _)).blk) (by show 3<4;decide) ?_;intro W9 hw9;have HW9:=Lib.hid hw9;clear hw9;go_frame))
                have hg8:=HG8.out
                have hv8:=HV8.out
                rw [show Value.slice ra s.bad.length rc=vs 3 from HRE.out.symm] at hg8 hv8
                have hF7:=hF6.out.ext ((Ext.refl W6).alloc (.cells #[.string yp] 9 (0,0)))
                have hF9:=hF7.addText (j:=3) (by decide) (by decide) yp HO8.out hg8 hv8
                have hR9:=(hR6.out.trans (Rnd.ext ((Ext.refl W6).alloc (.cells #[.string yp] 9 (0,0))) (ltB hF6.out.blk) (Nat.le_trans hx2.out.size y26.out.size))).trans (hF7.addR (nb:=w.heap.size) (j:=3) (by decide) hg8 hv8 (by omega) (by omega))
                rw [←HW9.out] at hF9 hR9
                have hfin:FoundIn (w3.heap.size+1) (w.heap.size+1) w3.heap.size (walkS ig (List.map clipW (pre++[x]))) W9 (fun i=>if i=3 then .slice va (s.bad.length+1) vc else vs i) us:=by
                  rw [HN.out,stepW_bad (ig:=ig) (s:=s) (x:=(yp,⟨yk,yd,yt,ym⟩)) hsk.out htp hig hbd]
                  exact hF9
                have hext:=Below.trans hx0.out hR9.kp.low
                have hkp5:=hR9.keep hF0W.out h50.out (by omega) (by omega) (by omega)
                exact ⟨hR9.ko.from _,hR9.kp,⟨_,us,⟨hfin,hext,hkp5⟩⟩⟩
    case done =>
      rintro Dd xs W hDd hS ⟨vs,us,hF,hx,h5⟩ hK
      have hF:=Lib.hid hF
      have hx:=Lib.hid hx
      have hK:=Lib.hid hK
      have hst:walkS ig (xs.map clipW)=walkS ig (eachL D root):=by rw [show xs=eachL D root from hS,clip_each R root]
      rw [hst] at hF
      clear h5 hst
      have HV1:=Lib.hid (show (Tryz.prog.info? 37).map (·.size)=some (#[vs 0,vs 1,vs 2,vs 3]:Array Value).size from by kernel_rfl)
      have HV3:=Lib.hid (show (#[vs 0,vs 1,vs 2,vs 3]:Array Value).all (·.oneCell')=true from by
        obtain ⟨a0,c0,e0⟩:=rowk_shape (hF.out.row 0 (by decide))
        obtain ⟨a1,c1,e1⟩:=rowk_shape (hF.out.row 1 (by decide))
        obtain ⟨a2,c2,e2⟩:=rowk_shape (hF.out.row 2 (by decide))
        obtain ⟨a3,c3,e3⟩:=rowk_shape (hF.out.row 3 (by decide))
        rw [e0,e1,e2,e3]
        simp [Value.oneCell'])
      gi_wp2_with (first
        | (refine wpListIn_load_row rfl 37 (.tmp 6) rfl (w.heap.size+1) rfl 37 _ (0,0) _ hF.out.blk Tryz.underlying37 rfl HV1.out ?_;go_frame)
        | (refine wpListIn_storeT rfl _ _ _ rfl (w.heap.size+1) #[vs 0,vs 1,vs 2,vs 3] rfl rfl 37 _ hF.out.blk HV1.out rfl HV3.out ?_;intro W6 hb6 ht6;have HB6':=Lib.hid hb6;have HT6:=Lib.hid ht6;clear hb6 ht6;go_frame))
      have hDne:Dd≠w.heap.size+1:=by have:=ltB hb6.out;omega
      have hK6:W6.heap[Dd]?=some (.deferred (some [])):=(HT6.out.block Dd (ltB hK.out) (fun e=>hDne (Option.some.inj e))).trans hK.out
      have hB7:(W6.putObj Dd (.deferred none)).heap[w.heap.size+1]?=some (.cells #[vs 0,vs 1,vs 2,vs 3] 37 (0,0)):=(World.putObj_heap_other (fun e=>hDne e.symm)).trans HB6'.out
      have hk7:∀ b c t f,W.heap[b]?=some (Obj.cells c t f)→b≠w.heap.size+1→(W6.putObj Dd (.deferred none)).heap[b]?=W.heap[b]?:=fun b c t f hc hne =>
        (World.putObj_heap_other (fun e=>by rw [e,hK.out] at hc;cases hc)).trans (HT6.out.block b (ltB hc) (fun e=>hne (Option.some.inj e)))
      have hrow:∀ {e:TypeId} {m n:Nat} {v:Value} {ys:List Value},W.ownsRow (w3.heap.size+1) e m v n ys→∀ b,v.ownBlock=some b→(W6.putObj Dd (.deferred none)).heap[b]?=W.heap[b]?:=fun {e m n v ys} ho b hb=>by
        rcases ho.2 with ⟨he,_⟩ | ⟨g,cap,cur,he,hbase,hh,_⟩
        · rw [he] at hb;simp [Value.ownBlock] at hb
        · rw [he] at hb
          simp [Value.ownBlock] at hb
          subst hb
          exact hk7 g _ _ _ hh (by omega)
      refine ⟨by simp,.inl ⟨_,_,rfl,run_takeDeferred hK6,?_⟩⟩
      refine ⟨_,results_row1 rfl _ _ (w.heap.size+1) 37 _ (0,0) _ rfl hB7 Tryz.underlying37 rfl HV1.out,_,by rw [hroot];rfl,⟨⟨vs,us,rfl,fun j hj=>?_,hF.out.len,fun k x u hx1 hu1=>?_⟩,?_⟩⟩
      · exact owns_down (owns_blocks (hF.out.row j hj) (hrow (hF.out.row j hj))) (by omega)
      · rcases hF.out.hs k x u hx1 hu1 with h1 | ⟨h1,h2,h3,h4⟩
        · exact .inl h1
        · exact .inr ⟨h1,h2,owns_down (owns_blocks h3 (hrow h3)) (by omega),h4⟩
      · have x6:=HT6.out.fresh hx.out (by omega)
        exact x6.grown (grownBy_putObj' W6 Dd _) x6.size fun k e=>by
          have:=Option.some.inj e
          have:=XX.out.size
          omega
  · have hel:eachL D root=[]:=by unfold eachL;rw [if_neg hroot]
    have hne:decide (rootE D.live root=0)=false:=decide_eq_false hroot
    rw [hel]
    generalize rootE D.live root=RE at *
    gi_wp2
    refine ⟨trivial,(callsIn_wide.2 HRt.out).mono ?_⟩
    rintro e w3 ⟨rfl,x3⟩
    have HB6:=Lib.hid ((x3.block (ltB HZ1.out)).trans HZ1.out)
    have X3:=Lib.hid (HX2.out.trans x3)
    gi_wp2_with (refine wpListIn_storeT rfl _ _ _ rfl (w.heap.size+1) found0 rfl rfl 37 _ HB6.out HA1.out rfl HA3.out ?_;intro W6 hb6 ht6;have HB6':=Lib.hid hb6;have HT6:=Lib.hid ht6;clear hb6 ht6;go_frame)
    exact ⟨_,results_row1 rfl _ _ (w.heap.size+1) 37 _ (0,0) _ rfl HB6'.out Tryz.underlying37 rfl HA1.out,_,rfl,⟨FoundC.nothing _ _,HT6.out.fresh X3.out (by omega)⟩⟩
end Go.Proofs.YtodickpibbbiiaaGreatDoor

namespace Go.Proofs.YtodickpibbbiiaaGreatDoor
open Go.RowKit

end Go.Proofs.YtodickpibbbiiaaGreatDoor

namespace Go.Proofs.YtodickpibbbiiaaGreatDoor
open Go.RowKit

theorem itemU_len (x:ByteArray×Nd) (u:Value):(itemU x u).length=27:=by
  unfold itemU
  split <;> rfl
theorem rowsU_get:∀ (l:Nodes) (us:List Value) (k j:Nat) (x:ByteArray×Nd) (u:Value),l[k]?=some x→us[k]?=some u→j<27→(rowsU l us)[k*27+j]?=(itemU x u)[j]?:=by
  intro l
  induction l with
  | nil=>intro us k j x u h;simp at h
  | cons y r ih =>
    intro us k j x u h hu hj
    cases us with
    | nil=>simp at hu
    | cons v us =>
      show (itemU y v++rowsU r us)[k*27+j]?=_
      cases k with
      | zero =>
        cases h
        cases hu
        rw [Nat.zero_mul,Nat.zero_add,List.getElem?_append_left (by rw [itemU_len];exact hj)]
      | succ k =>
        rw [List.getElem?_append_right (by rw [itemU_len];omega),itemU_len]
        have h1:r[k]?=some x:=by simpa using h
        have h2:us[k]?=some u:=by simpa using hu
        rw [show (k+1)*27+j - 27=k*27+j from by omega]
        exact ih us k j x u h1 h2 hj
def ItemsAt (w:World) (v:Value) (l:Nodes):Prop :=
  ∃ (a:Option Addr) (cap:Nat),v=.slice a l.length cap∧l.length≤cap∧cap≤9223372036854775807∧∀ (k:Nat) x,l[k]?=some x→∃ g u,a=some ⟨g,0,none⟩∧HashU w 0 [] x u∧∀ (j:Nat) y,(itemU x u)[j]?=some y→w.cell? ⟨g,k*27+j,none⟩=some y
theorem row_cells {w:World} {base m n:Nat} {e:TypeId} {v:Value} {xs:List Value} (h:w.ownsRow base e m v n xs):∃ (a:Option Addr) (cap:Nat),v=.slice a n cap∧n≤cap∧cap≤9223372036854775807∧(a=none→n=0∧cap=0)∧∀ (k:Nat) x,xs[k]?=some x→∃ g,a=some ⟨g,0,none⟩∧base≤g∧g<w.heap.size∧w.cell? ⟨g,k,none⟩=some x:=by
  rcases h.2 with ⟨rfl,rfl⟩ | ⟨g,cap,cur,rfl,hb,hh,h1,h2,h3,h4⟩
  · refine ⟨none,0,rfl,by omega,by omega,fun _=>⟨rfl,rfl⟩,fun k x hx=>?_⟩
    have h1:=(List.getElem?_eq_some_iff.1 hx).1
    rw [h.1,Nat.zero_mul] at h1
    omega
  · refine ⟨_,cap,rfl,h1,h2,fun e=>(by cases e),fun k x hx=>⟨g,rfl,hb,ltB hh,?_⟩⟩
    refine (cellB hh).trans ?_
    rw [←h4] at hx
    rw [List.getElem?_take] at hx
    split at hx
    · rw [←Array.getElem?_toList]
      exact hx
    · cases hx
theorem FoundC.items {base:Nat} {w:World} {s:WSt} {C:Array Value} (h:FoundC base w s C):∃ v0 v1 v2 v3,C=#[v0,v1,v2,v3]∧ItemsAt w v0 s.items∧TextsOwn w v1 s.temps∧TextsOwn w v2 s.ign∧TextsOwn w v3 s.bad:=by
  obtain ⟨vs,us,rfl,hr,hl,hh⟩:=h
  refine ⟨vs 0,vs 1,vs 2,vs 3,rfl,?_,TextsOwn.of (hr 1 (by decide)) rfl,TextsOwn.of (hr 2 (by decide)) rfl,TextsOwn.of (hr 3 (by decide)) rfl⟩
  obtain ⟨a,cap,e,h1,h2,_,h3⟩:=row_cells (hr 0 (by decide))
  refine ⟨a,cap,e,h1,h2,fun k x hx=>?_⟩
  have hk:k<us.length:=by rw [hl];exact (List.getElem?_eq_some_iff.1 hx).1
  have hu:us[k]?=some us[k]:=List.getElem?_eq_getElem hk
  have h0:(itemU x us[k])[0]?=some (.string x.1):=by unfold itemU;split <;> rfl
  obtain ⟨g,rfl,_⟩:=h3 (k*27+0) _ ((rowsU_get s.items us k 0 x _ hx hu (by decide)).trans h0)
  refine ⟨g,us[k],rfl,?_,fun j y hj=>?_⟩
  · rcases hh k x _ hx hu with e | ⟨e1,e2,e3,e4⟩
    · exact .inl e
    · exact .inr ⟨e1,e2,owns_down e3 (Nat.zero_le _),e4⟩
  · have hj27:j<27:=by
      have:=(List.getElem?_eq_some_iff.1 hj).1
      rwa [itemU_len] at this
    obtain ⟨g2,e2,_,_,hc⟩:=h3 (k*27+j) y ((rowsU_get s.items us k j x _ hx hu hj27).trans hj)
    cases e2
    exact hc
theorem ItemsAt.ext {w w':World} {v:Value} {l:Nodes} (h:ItemsAt w v l) (x:Ext w w'):ItemsAt w' v l:=by
  obtain ⟨a,cap,e,h1,h2,h3⟩:=h
  refine ⟨a,cap,e,h1,h2,fun k y hy=>?_⟩
  obtain ⟨g,u,e1,e2,e3⟩:=h3 k y hy
  exact ⟨g,u,e1,e2.kept fun b hb=>x.block (e2.own b hb).2,fun j z hz=>(x.cell (lt_of_cell (e3 j z hz))).trans (e3 j z hz)⟩
def pathsT (l:Nodes):ByteArray:=l.foldl (fun s x=>s++x.1++⟨#[32]⟩) ⟨#[]⟩
theorem pathsT_next {l:Nodes} {k:Nat} {x:ByteArray×Nd} (h:l[k]?=some x):pathsT (l.take (k+1))=pathsT (l.take k)++x.1++⟨#[32]⟩:=by
  rw [List.take_add_one,h]
  unfold pathsT
  rw [List.foldl_append]
  rfl
theorem pathsT_size {l:Nodes} (h:∀ x∈l,x.1.size≤160) (k:Nat):(pathsT (l.take k)).size≤k*161:=by
  induction k with
  | zero=>rw [List.take_zero];exact Nat.le_refl _
  | succ k ih =>
    rcases Nat.lt_or_ge k l.length with hk | hk
    · rw [pathsT_next (List.getElem?_eq_getElem hk)]
      have:=h _ (List.getElem_mem hk)
      have h1:(⟨#[32]⟩:ByteArray).size=1:=rfl
      simp only [ByteArray.size_append,h1]
      omega
    · rw [List.take_of_length_le (by omega)] at ih ⊢
      omega
set_option maxRecDepth 100000 in
set_option maxHeartbeats 2000000 in
theorem paths_any {w:World} {v:Value} {l:Nodes} (h:ItemsAt w v l) (hl:l.length≤20000) (hs:∀ x∈l,x.1.size≤160) :
    Calls Tryz.prog 23 #[v] w fun e w'=>e=.returned (.string (pathsT l))∧Ext w w':=by
  obtain ⟨a,cap,rfl,h1,h2,h3⟩:=h
  have HC:=Lib.hid h3
  have HS:=Lib.hid (pathsT_size hs)
  obtain ⟨n,hn⟩:∃ n,n=l.length:=⟨_,rfl⟩
  have HL:=Lib.hid hn
  have HE:=Lib.hid (show pathsT (l.take n)=pathsT l from by rw [hn,List.take_length])
  have HM:=Lib.hid hs
  rw [←hn] at hl h1 ⊢
  clear hn h3 hs
  go_enter Tryz.func23,Tryz.ntmps23
  go_wp2_with fail
  go_loopw [3,4] (fun sv iv wr=>Hid (∃ k:Nat,k≤n∧iv=.int .i64 k∧sv=.string (pathsT (l.take k))∧Ext w wr)) (fun _ iv _=>n - (intOf iv).toNat)
  case atStart=>exact ⟨0,Nat.zero_le _,rfl,rfl,Ext.refl _⟩
  case round =>
    obtain ⟨k,hk,rfl,rfl,hx⟩:=hrel.out
    clear hrel
    have HX:=Lib.hid hx
    by_cases hlt:k<n
    · obtain ⟨x,hxk⟩:∃ x,l[k]?=some x:=⟨_,List.getElem?_eq_getElem (by have:=HL.out;omega)⟩
      obtain ⟨g,u,rfl,_,hc⟩:=HC.out k x hxk
      have h0:(itemU x u)[0]?=some (.string x.1):=by unfold itemU;split <;> rfl
      have c0:wr.cell? ⟨g,k*27,none⟩=some (.string x.1):=(hx.cell (lt_of_cell (hc 0 _ h0))).trans (hc 0 _ h0)
      have HN:=Lib.hid (pathsT_next hxk)
      have z1:=HS.out k
      have z2:=HM.out x (List.mem_of_getElem? hxk)
      obtain ⟨xp,xn⟩:=x
      dsimp only at *
      generalize pathsT (l.take k)=q0 at *
      have z3:q0.size≤3220000:=by omega
      clear hc h0 hxk hx
      go_wp2_with fail
      go_roundw
      case rel=>exact ⟨k+1,by omega,by go_num,by rw [HN.out],HX.out⟩
      case measure=>simp [intOf] <;> omega
    · obtain rfl:k=n:=by omega
      rw [HE.out]
      obtain ⟨q,hq⟩:∃ q,q=pathsT l:=⟨_,rfl⟩
      have HQ:=Lib.hid hq
      rw [←hq]
      clear hq
      have nlt:decide ((k:Int)<(k:Int))=false:=by simp
      clear hx
      go_wp2_with fail
      go_ret
      exact ⟨by rw [←HQ.out];rfl,HX.out⟩
end Go.Proofs.YtodickpibbbiiaaGreatDoor

namespace Go.Proofs.YtodickpibbbiiaaGreatDoor
open Go.RowKit

theorem join_one {w:World} {v:Value} {x:ByteArray} (h:TextsOwn w v [x]) (sep:ByteArray) (hx:x.size≤100000):Calls Tryz.prog 22 #[v,.string sep] w fun e w'=>e=.returned (.string x)∧Ext w w':=by
  obtain ⟨⟨a,cap,rfl,h1,h2⟩,hg⟩:=h
  obtain ⟨g,rfl,hc⟩:=hg a _ cap rfl 0 x rfl
  have hj:(⟨(Lib.join ([x].map (·.data.toList)) sep.data.toList).toArray⟩:ByteArray)=x:=by
    obtain ⟨x⟩:=x
    simp [Lib.join]
  have:=Tryz.strings_Join g 0 cap [x] sep w (fun j y hy=>by
    cases j with
    | zero=>cases hy;exact hc
    | succ j=>simp at hy) (lt_of_cell hc) (by simp) h1 (by
      have e:(Lib.join ([x].map (·.data.toList)) sep.data.toList).length=x.size:=by
        have:=congrArg ByteArray.size hj
        simpa [size_mk] using this
      rw [e];omega)
  rw [hj] at this
  exact this
def aIg:ByteArray→Bool:=fun p=>(matchesL [[101]] p).1
def aItems:Nodes:=[(⟨#[97]⟩,⟨1,tAbc,emp,5⟩),(⟨#[100]⟩,dirN),(⟨#[122]⟩,⟨3,emp,⟨#[97]⟩,6⟩)]
theorem aw_walk (Y:ByteArray):walkS aIg (gE Y)=⟨aItems,[⟨#[100,47,126,116,126,120]⟩],[⟨#[100,47,101]⟩],[],⟨#[]⟩⟩:=by kernel_rfl
theorem aw_paths:pathsT aItems=⟨#[97,32,100,32,122,32]⟩:=by kernel_rfl
theorem aw_call {w0 w:World} {A B:List Thing} {d ll:Nat} (h:Things w0 w (A++.disk d gD::B)) (E:Env w) (T:ShaTabs w) (hL:IsList w ll [[101]]) :
    Calls Tryz.prog 17 #[.pointer (some ⟨d,0,none⟩),.string nF1,.pointer (some ⟨ll,0,none⟩)] w fun e w'=>∃ v0 v1 v2 v3,e=.returned (.tuple #[.agg #[v0,v1,v2,v3],.int .i64 0])∧Hid (ItemsAt w' v0 aItems∧TextsOwn w' v1 [⟨#[100,47,126,116,126,120]⟩]∧TextsOwn w' v2 [⟨#[100,47,101]⟩]∧TextsOwn w' v3 []∧Ext w w'):=by
  refine (disk_ext h fun M I hd=>walk_any hd gD_run.run (gD_run.run.fit (by decide)) E T nF1 (by decide) (some ⟨ll,0,none⟩) aIg fun w' p x hp=>(match_at (by omega) (hL.ext x) (E.ext x)).mono fun e w'' ⟨h1,h2⟩=>⟨_,h1,h2⟩).mono ?_
  rintro e w' ⟨C,he,h1,h2⟩
  rw [gD_root] at he
  rw [gD_each,aw_walk] at h1
  obtain ⟨v0,v1,v2,v3,rfl,k0,k1,k2,k3⟩:=h1.items
  exact ⟨v0,v1,v2,v3,he,⟨k0,k1,k2,k3,h2⟩⟩
set_option maxRecDepth 100000 in
set_option maxHeartbeats 4000000 in
theorem awake17_any (w:World) (E:Env w) (T:ShaTabs w):Calls Tryz.prog 14 #[] w fun e w'=>e=.returned (.bool true)∧Ext w w':=by
  have HG:=Lib.hid (given_any w E)
  have HE:=Lib.hid E
  have HT:=Lib.hid T
  have HN1:=Lib.hid (show nF1=⟨#[102,49]⟩ from rfl)
  clear E T
  go_enter Tryz.func14,Tryz.ntmps14
  go_wp2_with fail
  refine HG.out.mono ?_
  rintro e w1 ⟨d,rfl,h1⟩
  have H1:=h1
  have X1:=Lib.hid h1.out.is_ext
  clear h1
  go_wp2_with fail
  refine (list_any w1 (HE.out.ext X1.out)).mono ?_
  rintro e w2 ⟨ll,rfl,h2⟩
  have H2:=h2
  have X2:=Lib.hid (X1.out.trans h2.out.2)
  have HW:=Lib.hid (aw_call (A:=[]) (B:=[]) (H1.out.ext H2.out.2) (HE.out.ext X2.out) (HT.out.ext X2.out) H2.out.1)
  rw [HN1.out] at HW
  clear h2
  go_wp2_with fail
  refine HW.out.mono ?_
  rintro e w3 ⟨v0,v1,v2,v3,rfl,h3⟩
  have H3:=h3
  have X3:=Lib.hid (X2.out.trans h3.out.2.2.2.2)
  obtain ⟨a0,c0,rfl,_⟩:=h3.out.1
  obtain ⟨⟨a1,c1,rfl,_⟩,_⟩:=h3.out.2.1
  obtain ⟨⟨a2,c2,rfl,_⟩,_⟩:=h3.out.2.2.1
  obtain ⟨⟨a3,c3,rfl,_⟩,_⟩:=h3.out.2.2.2.1
  clear h3 HW
  go_wp2_with fail
  have HB:=Lib.hid (block_alloc_new w3 (.cells #[.slice a0 aItems.length c0,.slice a1 1 c1,.slice a2 1 c2,.slice a3 0 c3] 37 (0,0)))
  have X4:=Lib.hid ((Ext.refl w3).alloc (.cells #[.slice a0 aItems.length c0,.slice a1 1 c1,.slice a2 1 c2,.slice a3 0 c3] 37 (0,0)))
  have HP:=Lib.hid (paths_any (H3.out.1.ext X4.out) (by decide) (fun x hx=>by
    simp only [aItems,List.mem_cons,List.not_mem_nil,or_false] at hx
    rcases hx with rfl | rfl | rfl <;> decide))
  rw [aw_paths] at HP
  refine HP.out.mono ?_
  rintro e w5 ⟨rfl,x5⟩
  have HB5:=Lib.hid ((x5.block (ltB HB.out)).trans HB.out)
  have X5:=Lib.hid (X4.out.trans x5)
  have k1:w5.cell? ⟨w3.heap.size,1,none⟩=some (.slice a1 1 c1):=cellB HB5.out
  clear x5 HP
  go_wp2_with fail
  refine (join_one ⟨(H3.out.2.1).shape,fun a n cap e k s hs=>by
    obtain ⟨g,e1,e2⟩:=H3.out.2.1.get a n cap e k s hs
    exact ⟨g,e1,(X5.out.cell (lt_of_cell e2)).trans e2⟩⟩ _ (by decide)).mono ?_
  rintro e w6 ⟨rfl,x6⟩
  have HB6:=Lib.hid ((x6.block (ltB HB5.out)).trans HB5.out)
  have X6:=Lib.hid (X5.out.trans x6)
  have k2:w6.cell? ⟨w3.heap.size,2,none⟩=some (.slice a2 1 c2):=cellB HB6.out
  clear x6 k1
  go_wp2_with fail
  refine (join_one ⟨(H3.out.2.2.1).shape,fun a n cap e k s hs=>by
    obtain ⟨g,e1,e2⟩:=H3.out.2.2.1.get a n cap e k s hs
    exact ⟨g,e1,(X6.out.cell (lt_of_cell e2)).trans e2⟩⟩ _ (by decide)).mono ?_
  rintro e w7 ⟨rfl,x7⟩
  have HB7:=Lib.hid ((x7.block (ltB HB6.out)).trans HB6.out)
  have k3:w7.cell? ⟨w3.heap.size,3,none⟩=some (.slice a3 0 c3):=cellB HB7.out
  have X7:=Lib.hid (X3.out.trans (X6.out.trans x7))
  clear x7 k2
  go_wp2_with fail
  go_ret
  exact ⟨rfl,X7.out⟩
end Go.Proofs.YtodickpibbbiiaaGreatDoor

namespace Go.Proofs.YtodickpibbbiiaaGreatDoor
open Go.RowKit

end Go.Proofs.YtodickpibbbiiaaGreatDoor

namespace Go.Proofs.YtodickpibbbiiaaGreatDoor
open Go.RowKit Go.Shelf
attribute [local go_sem] Oper.semAt_some

end Go.Proofs.YtodickpibbbiiaaGreatDoor

namespace Go.Proofs.YtodickpibbbiiaaGreatDoor
open Go.RowKit Go.Shelf
attribute [local go_sem] Oper.semAt_some

structure Seen (D:Dk) (root:ByteArray) (re:Int) (L:Nodes):Prop where
  ok:re=0→root.size≤160∧rootE D.live root=0∧L=eachL D root
  no:re≠0→L=[]
end Go.Proofs.YtodickpibbbiiaaGreatDoor

namespace Go.Proofs.YtodickpibbbiiaaGreatDoor
open Go.RowKit Go.Shelf
attribute [local go_sem] Oper.semAt_some

theorem wpList_store1 {P:Program} {ops:Array Oper} {rest:List Oper} {o:Oper} {a:Act} {Q:Exit→Act→World→Prop} {w:World} (hgd:o.guard=none) (ty:TypeId) (x y:Operand) (ho:o.op=.store ty x y)
    (g k:Nat) (v:Value) (hx:a.eval x=.pointer (some ⟨g,k,none⟩)) (hy:a.eval y=v) (hi:(P.info? ty).map (·.size)=some 1) (h1:v.oneCell'=true)
    (cs:Array Value) (t:TypeId) (hg:w.heap[g]?=some (.cells cs t (0,0))) (hk:k<cs.size)
    (h:∀ w1,w1=w.setCell ⟨g,k,none⟩ v→wpList P ops Q rest (a.put o.dst undef) w1):wpList P ops Q (o::rest) a w:=by
  refine wpList_plain hgd fun K hK=>?_
  have h2:=hK _ _ (h _ rfl)
  cases hq:P.info? ty with
  | none=>simp [hq] at hi
  | some i =>
    have hs:i.size=1:=by simpa [hq] using hi
    have hc:w.cell? ⟨g,k,none⟩=some cs[k]:=(cellB hg).trans (Array.getElem?_eq_getElem hk)
    unfold Oper.wp execOp
    simp only [ho,hx,hy,Instr.storeAt,Instr.sureAddr,Sem.run_bind,Sem.run_pure,Result.andThen_ok,Lib.rl_storeVar_one ty i hq hs ⟨g,k,none⟩ v cs[k] h1 w hc (frozenB hg)]
    exact h2
theorem wpList_storeB {P:Program} {ops:Array Oper} {rest:List Oper} {o:Oper} {a:Act} {Q:Exit→Act→World→Prop} {w:World} (hgd:o.guard=none) (ty:TypeId) (x y:Operand) (ho:o.op=.store ty x y)
    (g:Nat) (v u:Value) (hx:a.eval x=.pointer (some ⟨g,0,none⟩)) (hy:a.eval y=v) (hi:(P.info? ty).map (·.size)=some 1) (h1:v.oneCell'=true)
    (t:TypeId) (hg:w.heap[g]?=some (.cells #[u] t (0,0)))
    (h:∀ w1,w1.heap[g]?=some (.cells #[v] t (0,0))→Touch g w w1→wpList P ops Q rest (a.put o.dst undef) w1):wpList P ops Q (o::rest) a w:=by
  refine wpList_store1 hgd ty x y ho g 0 v hx hy hi h1 #[u] t hg Nat.zero_lt_one fun w1 e=>h w1 ?_ ?_
  · rw [e,setCellB hg]
    rfl
  · rw [e]
    exact ⟨rfl,rfl,rfl,by unfold World.setCell;simp,fun i _ hne=>setCellO fun e=>hne (by rw [e])⟩
end Go.Proofs.YtodickpibbbiiaaGreatDoor

namespace Go.Proofs.YtodickpibbbiiaaGreatDoor
open Go.RowKit Go.Shelf
attribute [local go_sem] Oper.semAt_some

theorem results_bool {fn:Func} {p:Tmp} (h:fn.results=#[.cell p 4]) (tmps:Array Value) (w:World) (g:Nat) (b:Bool) (t:TypeId) (fr:Nat×Nat)
    (hp:tmps.getD p undef=.pointer (some ⟨g,0,none⟩)) (hg:w.heap[g]?=some (.cells #[.bool b] t fr)):(results fn tmps).run Tryz.prog w=.ok (.bool b) w:=by
  have hp':tmps[p]?.getD undef=.pointer (some ⟨g,0,none⟩):=by simpa using hp
  have hc:w.cell? ⟨g,0,none⟩=some (.bool b):=cellB hg
  simp [results,h,hp',asAddr,loadVar,go_sem,hc]
end Go.Proofs.YtodickpibbbiiaaGreatDoor

namespace Go.Proofs.YtodickpibbbiiaaGreatDoor
open Go.RowKit Go.Shelf

structure Two (fb base:Nat) (w5 w:World) (dv fv:Value) (ds fs:List ByteArray):Prop where
  box:w.heap[fb]?=some (.cells #[fv] 35 (0,0))
  dirs:w.ownsRow base 9 1 dv ds.length (ds.map Value.string)
  found:w.ownsRow base 9 1 fv fs.length (fs.map Value.string)
  apart:∀ b,dv.ownBlock=some b→fv.ownBlock≠some b
  ext:Ext w5 w
  lo:w5.heap.size≤fb
  hi:fb<base
def sizeI (n:Nd):Nat:=if n.kind=1 then n.data.size else 0
def manyI (n:Nd):Nat:=if n.kind=1 then countN n.data.size else 0
structure ToldI (x:ByteArray×Nd) (C:Array Value):Prop where
  len:C.size=27
  one:C.all (·.oneCell')=true
  c0:C[0]?=some (.string x.1)
  c1:C[1]?=some (.int .i64 x.2.kind)
  c3:C[3]?=some (.int .i64 (sizeI x.2:Nat))
  c23:∃ a c,C[23]?=some (.slice a (manyI x.2) c)
theorem Item_many {w0 w:World} {A B:List Thing} {d k:Nat} {D:Dk} (h:Things w0 w (A++.disk d D::B)) (R:RunF k D) (E:Env w) (T:ShaTabs w) (root p:ByteArray) (hr:root.size≤100000) (hp:p.size≤100000) :
    Calls Tryz.prog 24 #[.pointer (some ⟨d,0,none⟩),.string root,.string p] w fun e w'=>∃ C x,e=.returned (.tuple #[.agg C,.int .i64 x])∧Hid (OneIs w.heap.size w' D.live root p C x∧Ext w w') :=
  disk_ext h fun _ _ hd=>Item_any hd R.run E T root p hr hp
theorem clip_mem {m:Nat} {D:Dk} (R:DkRun m D) {r:ByteArray} {x:ByteArray×Nd} (hx:x∈eachL D r):clipW x=x:=by
  obtain ⟨k,hk⟩:=List.getElem?_of_mem hx
  have h:=congrArg (·[k]?) (clip_each R r)
  simp only [List.getElem?_map,hk,Option.map_some] at h
  exact Option.some.inj h
end Go.Proofs.YtodickpibbbiiaaGreatDoor

namespace Go.Proofs.YtodickpibbbiiaaGreatDoor
open Go.RowKit

def noDefer (ops:Array Oper):Bool:=ops.all fun o=>match o.op with | .defer _=>false | _=>true
theorem noDefer_at {ops:Array Oper} (h:noDefer ops=true) {i:Nat} {o:Oper} (ho:ops[i]?=some o):∀ c,o.op≠.defer c:=fun c e=>by
  unfold noDefer at h
  rw [Array.all_eq_true] at h
  obtain ⟨hi,rfl⟩:=Array.getElem?_eq_some_iff.1 ho
  have:=h i hi
  rw [e] at this
  cases this
variable {F:Fence} {n:Nat} {P:Program} {ops:Array Oper} {C:World→Prop} {md:Region.Mode}
theorem wpIn_of_quietR {o:Oper} {a:Act} {K:Act→Prop} {K':Act→World→Prop} {Q':Exit→Act→World→Prop} {w:World} (hnd:∀ c,o.op≠.defer c) (hw:C w) (h:∀ a w',C w'→K a→K' a w')
    (ha:o.askedIn F P a C) (hh:o.quietIn F n P a C K):o.wpIn F n P a w K' Q':=by
  obtain ⟨v,h1,h2⟩:=hh
  have h3:=h1 w hw
  unfold Oper.quietAtIn at h3
  unfold Oper.wpIn
  refine ⟨ha w hw,?_⟩
  rw [Oper.semAt_plain F _ _ hnd]
  generalize (execOp a.eval o).run P w=r at *
  cases r with
  | ok x w' =>
    cases x <;> simp only [Oper.quietUponIn] at h3 <;> simp only [Oper.uponIn]
    case value u =>
      obtain ⟨e1,e2⟩:=h3
      rw [e1,e2]
      exact h _ _ hw h2
    case skip =>
      obtain ⟨e1,e2⟩:=h3
      rw [e1,←e2]
      exact h _ _ hw h2
    case enter f args =>
      obtain ⟨e1,hd,hc⟩:=h3
      rw [e1]
      exact ⟨hd,hc.mono fun e w'' ⟨he,hw''⟩=>by subst he;exact h _ _ hw'' h2⟩
  | halt x w'=>simp only [Oper.quietUponIn] at h3
theorem wpOpIn_of_qOpInR {i:Nat} {a:Act} {K:Act→Prop} {K':Act→World→Prop} {Q':Exit→Act→World→Prop} {w:World} (hnd:noDefer ops=true) (hC:C w) (h:∀ a w',C w'→K a→K' a w')
    (hh:qOpIn F n P ops C i K a):wpOpIn F n P ops Q' i K' a w:=by
  unfold qOpIn at hh
  unfold wpOpIn
  split
  · rename_i ho;simp only [ho] at hh;exact h _ _ hC hh
  · rename_i o ho
    simp only [ho] at hh
    obtain ⟨ha,hh⟩:=hh
    split
    · rename_i hw;simp only [hw,if_true] at hh;exact wpIn_of_quietR (noDefer_at hnd ho) hC h ha hh
    · rename_i hw;simp only [hw] at hh;exact ⟨ha w hC,h _ _ hC hh⟩
theorem wpAnyIn_of_quietR {Q:Act→Prop} {Q':Exit→Act→World→Prop} (hnd:noDefer ops=true) (hQ:∀ a w,C w→Q a→Q' .normal a w):∀ (fuel:Nat) (listed:Array Bool) (a:Act) (w:World),C w →
    wpAnyQIn F n P md ops C Q fuel listed a→wpAnyIn F n P md ops Q' fuel listed a w
  | 0,_,_,_,hw,h=>⟨h.1,hQ _ _ hw h.2⟩
  | fuel+1,_,_,_,hw,h=>⟨fun h0=>hQ _ _ hw (h.1 h0),fun i hi=>wpOpIn_of_qOpInR hnd hw (fun a' w' hw'=>wpAnyIn_of_quietR hnd hQ fuel _ a' w' hw') (h.2 i hi)⟩
theorem wpIn_region_quietR {id:Nat} {Q:Exit→Act→World→Prop} {a:Act} {w:World} (hnd:noDefer ops=true) (hm:P.follows .mixedOrders=true) (hB:Region.lexB .any ops=true) (hC:C { w with drawn:=w.drawn+1 })
    (h:wpQuietIn F n P ops C (fun a'=>∀ w',C w'→Q .normal a' w') ops.toList a):(Code.region id ops true).wpIn F n P Q a w:=by
  simp only [Region.lexB,Bool.and_eq_true] at hB
  refine wpIn_region_any hm (wpAnyIn_of_quietR (Q:=fun a'=>∀ w',C w'→Q .normal a' w') hnd (fun _ w' hw' h=>h w' hw') _ _ _ _ hC ?_)
  have:=wpAnyQIn_lex (F:=F) (n:=n) (C:=C) (md:=.any) hB.1 ops.toList 0 (Array.replicate ops.size false) a (by simp) (by simpa using hB.2) h
  simpa using this
theorem wpListIn_storeB {o:Oper} {rest:List Oper} {a:Act} {Q:Exit→Act→World→Prop} {w:World} (hgd:o.guard=none) (ty:TypeId) (x y:Operand) (ho:o.op=.store ty x y)
    (g:Nat) (v u:Value) (hx:a.eval x=.pointer (some ⟨g,0,none⟩)) (hy:a.eval y=v) (hi:(P.info? ty).map (·.size)=some 1) (h1:v.oneCell'=true)
    (t:TypeId) (hg:w.heap[g]?=some (.cells #[u] t (0,0)))
    (h:∀ w1,w1.heap[g]?=some (.cells #[v] t (0,0))→Touch g w w1→wpListIn F n P ops Q rest (a.put o.dst undef) w1):wpListIn F n P ops Q (o::rest) a w:=by
  refine wpListIn_store1 hgd ty x y ho g 0 v hx hy hi h1 #[u] t hg Nat.zero_lt_one fun w1 e=>h w1 ?_ ?_
  · rw [e,setCellB hg]
    rfl
  · rw [e]
    exact ⟨rfl,rfl,rfl,by unfold World.setCell;simp,fun i _ hne=>setCellO fun e=>hne (by rw [e])⟩
theorem KeepsFrom.touch {B g:Nat} {W V:World} (x:Touch g W V) (hg:g<B):KeepsFrom B W V :=
  ⟨x.size,fun j _ hB hj _=>(x.block j (ltB hj) fun e=>by have:=Option.some.inj e;omega).trans hj⟩
theorem KpK.touch {g nb:Nat} {W V:World} (x:Touch g W V) (hg:nb≤g) (hs:nb≤W.heap.size):KpK (fun _=>[g]) nb W V :=
  ⟨(Below.refl nb W).grown x hs fun k e=>by cases e;exact hg,fun b _ ho _ hn=>(x.block b (ltB ho) fun e=>hn (by rw [Option.some.inj e];exact List.mem_singleton.2 rfl)).trans ho,fun _ hb=>.inl hb⟩
end Go.Proofs.YtodickpibbbiiaaGreatDoor

namespace Go.Proofs.YtodickpibbbiiaaGreatDoor
open Go.RowKit

def primeAux:Nat→Nat→Nat→Bool
  | 0,_,_=>true
  | f+1,d,n=>if d*d≤n then (if n % d=0 then false else primeAux f (d+1) n) else true
def primeN (n:Nat):Bool:=primeAux 100 2 n&&decide (1<n)

set_option maxHeartbeats 1000000 in
set_option maxRecDepth 100000 in
theorem rprime_any (n:Nat) (hn:n≤400) (w:World) :
    Calls Tryz.prog 318 #[.int .u64 n] w fun e w'=>e=.returned (.bool (primeN n))∧w'=w:=by
  unfold primeN
  obtain ⟨B,hB⟩:∃ B,B=primeAux 100 2 n:=⟨_,rfl⟩
  have HB:=Lib.hid hB
  rw [←hB]
  clear hB
  go_enter Tryz.func318,Tryz.ntmps318
  go_wp2_with fail
  go_loopw [3] (fun d wr=>Hid (∃ k f:Nat,d=.int .u64 k∧2≤k∧k≤21∧f+k=102∧B=primeAux f k n∧wr=w)) (fun d _=>100 - (intOf d).toNat)
  case atStart=>exact ⟨2,100,rfl,by omega,by omega,by omega,HB.out,rfl⟩
  case round =>
    obtain ⟨k,f,rfl,h2,h21,hf,hB,rfl⟩:=hrel.out
    clear hrel HB
    obtain ⟨f,rfl⟩:∃ g,f=g+1:=⟨f - 1,by omega⟩
    have hq:k*k≤21*21:=Nat.mul_le_mul h21 h21
    rw [primeAux] at hB
    obtain ⟨q,hq'⟩:∃ q,q=k*k:=⟨_,rfl⟩
    have hm:IntKind.u64.wrap ((k:Int)*(k:Int))=(q:Int):=by rw [IntKind.wrap_u64,hq',←Int.natCast_mul];omega
    have hle:k*k≤n→k+1≤21:=fun h=>by
      rcases Nat.lt_or_ge k 21 with h1 | h1
      · omega
      · have:=Nat.mul_le_mul h1 h1;omega
    rw [←hq'] at hq hB hle
    by_cases hlt:q≤n
    · rw [if_pos hlt] at hB
      have hle:=hle hlt
      by_cases hz:n % k=0
      · rw [if_pos hz] at hB
        go_wp2_with fail
        go_ret
        exact ⟨by rw [hB];rfl,rfl⟩
      · rw [if_neg hz] at hB
        have HB:=Lib.hid hB
        clear hB
        go_wp2_with fail
        go_roundw
        case rel=>exact ⟨k+1,f,by go_num,by omega,hle,by omega,HB.out,trivial⟩
        case measure=>simp [intOf];omega
    · rw [if_neg hlt] at hB
      subst hB
      go_wp2_with fail
      go_ret
      exact ⟨by simp;omega,rfl⟩
theorem rturned_any (x:Wd) (n:Nat) (hn:1≤n) (h2:n≤31) (w:World) :
    Calls Tryz.prog 281 #[.int .u32 x.toNat,.int .i64 n] w fun e w'=>e=.returned (.int .u32 (rotr x n).toNat)∧w'=w:=by
  go_enter Tryz.func281,Tryz.ntmps281
  have HR:=Lib.hid ((show bits .or .u32 ((x.toNat:Int) / 2 ^ n) ((x.toNat:Int)*2 ^ (32 - n) % 4294967296)=((rotr x n).toNat:Int) from by
    have e1:=wd_shr x n
    have e2:=wd_shl x (32 - n)
    rw [Int.natCast_pow] at e1 e2
    rw [show ((2:Nat):Int)=2 from rfl] at e1 e2
    rw [e1,e2,wd_or];rfl))
  go_wp2_with fail
  go_ret
  exact ⟨ret_int HR.out,rfl⟩
theorem rtimes_any (hi lo x:Nat) (hl:lo<18446744073709551616) (hx:x<18446744073709551616) (hs:lo*x / 18446744073709551616+hi*x<18446744073709551616) (w:World) :
    Calls Tryz.prog 319 #[.int .u64 hi,.int .u64 lo,.int .u64 x] w fun e w'=>e=.returned (.tuple #[.int .u64 ((lo*x / 18446744073709551616+hi*x:Nat):Int),.int .u64 ((lo*x % 18446744073709551616:Nat):Int)])∧w'=w:=by
  have HC:=Lib.hid (Tryz.bits_Mul64 lo x hl hx w)
  generalize lo*x / 18446744073709551616=a at *
  generalize lo*x % 18446744073709551616=b at *
  obtain ⟨q,hq⟩:∃ q,q=hi*x:=⟨_,rfl⟩
  have hm:(hi:Int)*(x:Int)=(q:Int):=by rw [hq];exact (Int.natCast_mul hi x).symm
  rw [←hq] at hs ⊢
  clear hq
  go_enter Tryz.func319,Tryz.ntmps319
  go_wp2_with fail
  refine HC.out.mono ?_
  rintro e w1 ⟨rfl,rfl⟩
  go_wp2_with fail
  go_ret2
  exact ⟨rfl,rfl⟩
theorem rabove_0 (hi lo n:Nat) (hh:hi<18446744073709551616) (hl:lo<18446744073709551616) (hn:n<4294967296) (w:World) :
    Calls Tryz.prog 320 #[.int .u64 hi,.int .u64 lo,.int .u64 n,.int .i64 0] w fun e w'=>e=.returned (.bool (decide (n*18446744073709551616<hi*18446744073709551616+lo)))∧w'=w:=by
  have e:decide (n*18446744073709551616<hi*18446744073709551616+lo)=if n<hi then true else if hi=n then decide (0<lo) else false:=by
    split
    · simp;omega
    · split
      · subst_vars;simp
      · simp;omega
  rw [e]
  clear e
  by_cases h1:n<hi
  · rw [if_pos h1]
    go_enter Tryz.func320,Tryz.ntmps320
    go_wp2_with fail
    go_ret
    exact ⟨rfl,rfl⟩
  · rw [if_neg h1]
    by_cases h2:hi=n
    · subst h2
      rw [if_pos rfl]
      go_enter Tryz.func320,Tryz.ntmps320
      go_wp2_with fail
      go_ret
      exact ⟨rfl,rfl⟩
    · rw [if_neg h2]
      have h3:((hi:Int)==n)=false:=by simp;omega
      go_enter Tryz.func320,Tryz.ntmps320
      go_wp2_with fail
      go_ret
      exact ⟨rfl,rfl⟩
theorem rabove_32 (hi lo n:Nat) (hh:hi<18446744073709551616) (hl:lo<18446744073709551616) (hn:n<4294967296) (w:World) :
    Calls Tryz.prog 320 #[.int .u64 hi,.int .u64 lo,.int .u64 n,.int .i64 32] w fun e w'=>e=.returned (.bool (decide (n*4294967296*18446744073709551616<hi*18446744073709551616+lo)))∧w'=w:=by
  obtain ⟨m,hm⟩:∃ m,m=n*4294967296:=⟨_,rfl⟩
  have hm':(n:Int)*4294967296 % 18446744073709551616=(m:Int):=by omega
  have hm2:(n:Int)*4294967296=(m:Int):=by omega
  rw [←hm]
  have hm3:m<18446744073709551616:=by omega
  clear hm
  have e:decide (m*18446744073709551616<hi*18446744073709551616+lo)=if m<hi then true else if hi=m then decide (0<lo) else false:=by
    split
    · simp;omega
    · split
      · subst_vars;simp
      · simp;omega
  rw [e]
  clear e
  by_cases h1:m<hi
  · rw [if_pos h1]
    go_enter Tryz.func320,Tryz.ntmps320
    go_wp2_with fail
    go_ret
    exact ⟨rfl,rfl⟩
  · rw [if_neg h1]
    by_cases h2:hi=m
    · subst h2
      rw [if_pos rfl]
      go_enter Tryz.func320,Tryz.ntmps320
      go_wp2_with fail
      go_ret
      exact ⟨rfl,rfl⟩
    · rw [if_neg h2]
      have h3:((hi:Int)==m)=false:=by simp;omega
      go_enter Tryz.func320,Tryz.ntmps320
      go_wp2_with fail
      go_ret
      exact ⟨rfl,rfl⟩
end Go.Proofs.YtodickpibbbiiaaGreatDoor

namespace Go.Proofs.YtodickpibbbiiaaGreatDoor
open Go.RowKit

def primesTo (n:Nat):List Nat:=((List.range n).map (·+2)).filter primeN
theorem primesTo_step (n:Nat):primesTo (n+1)=primesTo n++(if primeN (n+2) then [n+2] else []):=by
  unfold primesTo
  rw [List.range_succ,List.map_append,List.filter_append]
  simp only [List.map_cons,List.map_nil]
  split <;> simp_all
theorem primes_few:∀ n,n<310→(primesTo n).length<64:=by decide +kernel
theorem primes_all:(primesTo 310).length=64:=by decide +kernel
def primes64:List Nat:=primesTo 310
theorem el_u64:Elem Tryz.prog 344 266 (.int .u64 0) 8:=⟨by kernel_rfl,by kernel_rfl,rfl,by decide⟩
theorem owns_slice {w:World} {base n:Nat} {e:TypeId} {v:Value} {xs:List Value} (h:w.ownsRow base e 1 v n xs):∃ a cap,v=.slice a n cap:=by
  rcases h.2 with ⟨h1,h2⟩ | ⟨g,cap,cur,hv,_⟩
  · exact ⟨none,0,by rw [h1,h2]⟩
  · exact ⟨_,cap,hv⟩
def uv (n:Nat):Value:=.int .u64 n

set_option maxHeartbeats 1000000 in
set_option maxRecDepth 100000 in
theorem rprimes_any (w:World) :
    Calls Tryz.prog 276 #[.int .i64 64] w fun e w'=>∃ v,e=.returned v∧CellsAt w' v (primes64.map uv)∧Ext w w':=by
  have HALL:=Lib.hid primes_all
  have HFEW:=Lib.hid primes_few
  have HP:=fun n h w=>Lib.hid (rprime_any n h w)
  go_enter Tryz.func276,Tryz.ntmps276
  go_wp2_with fail
  go_loopw [3,4] (fun v n wr=>Hid (∃ k:Nat,k≤310∧n=.int .u64 (k+2:Nat)∧wr.ownsRow w.heap.size 266 1 v (primesTo k).length ((primesTo k).map uv)∧Ext w wr)) (fun _ n _=>400 - (intOf n).toNat)
  case atStart=>exact ⟨0,by omega,rfl,World.ownsRow_nil _ _ _ _,Ext.refl _⟩
  case round =>
    obtain ⟨k,hk,rfl,ho,hx⟩:=hrel.out
    clear hrel
    have HX:=Lib.hid hx
    have HO:=Lib.hid ho
    obtain ⟨a,cap,rfl⟩:=owns_slice ho
    have hge:=own_block_ge ho
    have hex:=HX.out.size
    by_cases hlt:k<310
    · have hln:=HFEW.out k hlt
      have HS:=Lib.hid (primesTo_step k)
      have HPk:=Lib.hid (HP (k+2) (by omega) wr).out
      clear ho hx
      cases hp:primeN (k+2)
      · rw [hp,if_neg (by decide),List.append_nil] at HS
        rw [hp] at HPk
        clear hp
        go_wp2_with fail
        refine HPk.out.mono ?_
        rintro e w1 ⟨rfl,rfl⟩
        go_wp2_with fail
        go_roundw
        case rel=>exact ⟨k+1,by omega,by go_num,by rw [HS.out];exact HO.out,HX.out⟩
        case measure=>simp [intOf];omega
      · rw [hp,if_pos rfl] at HS
        rw [hp] at HPk
        clear hp
        go_wp2_with fail
        refine HPk.out.mono ?_
        rintro e w1 ⟨rfl,rfl⟩
        go_wp2_with (at_builtin;refine append_one el_u64 w.heap.size _ _ _ (HO.out.alloc _) w1.heap.size (uv (k+2)) (.tmp 13) (.tmp 15) rfl rfl rfl rfl ?c1 rfl (by omega) ?c2 ?_)
        case c1=>rw [cell_alloc_new rfl];rfl
        case c2=>simp;omega
        intro v' w2 hown1 hgr1 hv1
        go_wp2_with fail
        go_roundw
        case rel=>exact ⟨k+1,by omega,by go_num,by rw [HS.out];simpa using hown1,(HX.out.alloc _).grown hgr1 (by simp;omega) hge⟩
        case measure=>simp [intOf];omega
    · have hk:k=310:=by omega
      subst hk
      have hln:=HALL.out
      have HC:=Lib.hid (CellsAt.of_owns (xs:=(primesTo 310).map uv) (by simpa using ho))
      rw [hln] at *
      clear ho hx
      go_wp2_with fail
      go_ret
      exact ⟨_,rfl,HC.out,HX.out⟩
end Go.Proofs.YtodickpibbbiiaaGreatDoor

namespace Go.Proofs.YtodickpibbbiiaaGreatDoor
open Go.RowKit

def rootN (ok:Nat→Bool):Nat→Nat→Nat
  | 0,r=>r
  | b+1,r=>rootN ok b (if ok (r+2 ^ b) then r+2 ^ b else r)
def okSq (p x:Nat):Bool:=decide (x*x≤p*18446744073709551616)
def okCu (p x:Nat):Bool:=decide (x*x*x≤p*4294967296*18446744073709551616)
def squareN (p:Nat):Nat:=rootN (okSq p) 37 0
def cubeN (p:Nat):Nat:=rootN (okCu p) 36 0
theorem split64 (y:Nat):y / 18446744073709551616*18446744073709551616+y % 18446744073709551616=y:=by omega

set_option maxHeartbeats 1000000 in
set_option maxRecDepth 100000 in
theorem rsquare_any (p:Nat) (hp:p≤400) (w:World) :
    Calls Tryz.prog 278 #[.int .u64 p] w fun e w'=>e=.returned (.int .u32 (squareN p % 4294967296:Nat))∧w'=w:=by
  obtain ⟨R,hR⟩:∃ R,R=squareN p:=⟨_,rfl⟩
  have HR:=Lib.hid (show rootN (okSq p) 37 0=R from hR.symm)
  rw [←hR]
  clear hR
  have HT:=fun x hl hx hs w=>Lib.hid (rtimes_any 0 x x hl hx hs w)
  have HA:=fun hi lo h1 h2 w=>Lib.hid (rabove_0 hi lo p h1 h2 (by omega) w)
  go_enter Tryz.func278,Tryz.ntmps278
  go_wp2_with fail
  go_loopw [3,4] (fun rv bv wr=>Hid (∃ r b:Nat,b≤37∧rv=.int .u64 r∧bv=.int .i64 ((b:Int) - 1)∧r+2 ^ b≤2 ^ 37∧rootN (okSq p) b r=R∧wr=w)) (fun _ bv _=>(intOf bv+1).toNat)
  case atStart=>exact ⟨0,37,by omega,rfl,rfl,by omega,HR.out,rfl⟩
  case round =>
    obtain ⟨r,b,hb,rfl,rfl,hr,hR,rfl⟩:=hrel.out
    clear hrel HR
    match b,hb,hr,hR with
    | 0,_,_,hR =>
      have HR:=Lib.hid (show r=R from hR)
      clear hR
      go_wp2_with fail
      go_ret
      exact ⟨ret_int (by rw [←HR.out];omega),rfl⟩
    | c+1,hb,hr,hR =>
      rw [rootN] at hR
      rw [Nat.pow_succ] at hr
      have e1:((c+1:Nat):Int) - 1=(c:Int):=by omega
      rw [e1]
      clear e1
      obtain ⟨q,hq⟩:∃ q,q=2 ^ c:=⟨_,rfl⟩
      obtain ⟨x,hx⟩:∃ x,x=r+q:=⟨_,rfl⟩
      have HXQ:=Lib.hid (show 2 ^ c+r=x from by rw [hx,hq];omega)
      have HR2:=Lib.hid (show x+2 ^ c≤2 ^ 37 from by rw [hx,hq];omega)
      have HR3:=Lib.hid (show r+2 ^ c≤2 ^ 37 from by omega)
      rw [←hq] at hr hR
      rw [←hx] at hR
      have hq0:0<q:=by rw [hq];exact Nat.two_pow_pos c
      have hxb:x<137438953472:=by omega
      have hs:IntKind.u64.wrap ((2:Int) ^ c)=(q:Int):=by
        rw [show (2:Int) ^ c=((2 ^ c:Nat):Int) from (Int.natCast_pow 2 c).symm,←hq,IntKind.wrap_u64];omega
      have hs2:IntKind.u64.wrap ((r:Int)+q)=(x:Int):=by rw [IntKind.wrap_u64];omega
      clear hq hx hr
      have hxx:x*x≤137438953472*137438953472:=Nat.mul_le_mul (by omega) (by omega)
      obtain ⟨h1,hh1⟩:∃ h,h=x*x / 18446744073709551616:=⟨_,rfl⟩
      obtain ⟨l1,hl1⟩:∃ h,h=x*x % 18446744073709551616:=⟨_,rfl⟩
      have HC1:=Lib.hid (HT x (by omega) (by omega) (by omega) wr).out
      have HC2:=Lib.hid (HA h1 l1 (by omega) (by omega) wr).out
      rw [←hh1,←hl1,Nat.zero_mul,Nat.add_zero] at HC1
      have hdec:decide (p*18446744073709551616<h1*18446744073709551616+l1)=!okSq p x:=by
        rw [hh1,hl1,split64]
        unfold okSq
        rw [←decide_not,decide_eq_decide];omega
      clear hh1 hl1
      have HDEC:=Lib.hid hdec
      clear hdec
      cases hok:okSq p x
      · rw [hok] at hR HDEC
        rw [if_neg (by decide)] at hR
        have HR:=Lib.hid hR
        clear hR hok
        go_wp2_with fail
        refine HC1.out.mono ?_
        rintro e w1 ⟨rfl,rfl⟩
        go_wp2_with fail
        refine HC2.out.mono ?_
        rintro e w1 ⟨rfl,rfl⟩
        rw [HDEC.out]
        go_wp2_with fail
        go_roundw
        case rel=>exact ⟨r,c,by omega,rfl,by go_num,HR3.out,HR.out,trivial⟩
        case measure=>simp [intOf]
      · rw [hok] at hR HDEC
        rw [if_pos rfl] at hR
        have HR:=Lib.hid hR
        clear hR hok
        go_wp2_with fail
        refine HC1.out.mono ?_
        rintro e w1 ⟨rfl,rfl⟩
        go_wp2_with fail
        refine HC2.out.mono ?_
        rintro e w1 ⟨rfl,rfl⟩
        rw [HDEC.out]
        go_wp2_with fail
        go_roundw
        case rel=>exact ⟨x,c,by omega,rfl,by go_num,HR2.out,HR.out,trivial⟩
        case measure=>simp [intOf]
set_option maxHeartbeats 1000000 in
set_option maxRecDepth 100000 in
theorem rcube_any (p:Nat) (hp:p≤400) (w:World) :
    Calls Tryz.prog 277 #[.int .u64 p] w fun e w'=>e=.returned (.int .u32 (cubeN p % 4294967296:Nat))∧w'=w:=by
  obtain ⟨R,hR⟩:∃ R,R=cubeN p:=⟨_,rfl⟩
  have HR:=Lib.hid (show rootN (okCu p) 36 0=R from hR.symm)
  rw [←hR]
  clear hR
  have HT:=fun hi lo x hl hx hs w=>Lib.hid (rtimes_any hi lo x hl hx hs w)
  have HA:=fun hi lo h1 h2 w=>Lib.hid (rabove_32 hi lo p h1 h2 (by omega) w)
  go_enter Tryz.func277,Tryz.ntmps277
  go_wp2_with fail
  go_loopw [3,4] (fun rv bv wr=>Hid (∃ r b:Nat,b≤36∧rv=.int .u64 r∧bv=.int .i64 ((b:Int) - 1)∧r+2 ^ b≤2 ^ 36∧rootN (okCu p) b r=R∧wr=w)) (fun _ bv _=>(intOf bv+1).toNat)
  case atStart=>exact ⟨0,36,by omega,rfl,rfl,by omega,HR.out,rfl⟩
  case round =>
    obtain ⟨r,b,hb,rfl,rfl,hr,hR,rfl⟩:=hrel.out
    clear hrel HR
    match b,hb,hr,hR with
    | 0,_,_,hR =>
      have HR:=Lib.hid (show r=R from hR)
      clear hR
      go_wp2_with fail
      go_ret
      exact ⟨ret_int (by rw [←HR.out];omega),rfl⟩
    | c+1,hb,hr,hR =>
      rw [rootN] at hR
      rw [Nat.pow_succ] at hr
      have e1:((c+1:Nat):Int) - 1=(c:Int):=by omega
      rw [e1]
      clear e1
      obtain ⟨q,hq⟩:∃ q,q=2 ^ c:=⟨_,rfl⟩
      obtain ⟨x,hx⟩:∃ x,x=r+q:=⟨_,rfl⟩
      have HXQ:=Lib.hid (show 2 ^ c+r=x from by rw [hx,hq];omega)
      have HR2:=Lib.hid (show x+2 ^ c≤2 ^ 36 from by rw [hx,hq];omega)
      have HR3:=Lib.hid (show r+2 ^ c≤2 ^ 36 from by omega)
      rw [←hq] at hr hR
      rw [←hx] at hR
      have hq0:0<q:=by rw [hq];exact Nat.two_pow_pos c
      have hxb:x<68719476736:=by omega
      have hs:IntKind.u64.wrap ((2:Int) ^ c)=(q:Int):=by
        rw [show (2:Int) ^ c=((2 ^ c:Nat):Int) from (Int.natCast_pow 2 c).symm,←hq,IntKind.wrap_u64];omega
      have hs2:IntKind.u64.wrap ((r:Int)+q)=(x:Int):=by rw [IntKind.wrap_u64];omega
      clear hq hx hr
      have hxx:x*x≤68719476736*68719476736:=Nat.mul_le_mul (by omega) (by omega)
      have hxxx:x*x*x≤68719476736*68719476736*68719476736:=Nat.mul_le_mul hxx (by omega)
      obtain ⟨h1,hh1⟩:∃ h,h=x*x / 18446744073709551616:=⟨_,rfl⟩
      obtain ⟨l1,hl1⟩:∃ h,h=x*x % 18446744073709551616:=⟨_,rfl⟩
      have hlx:l1*x≤18446744073709551615*68719476736:=Nat.mul_le_mul (by omega) (by omega)
      have hhx:h1*x≤256*68719476736:=Nat.mul_le_mul (by omega) (by omega)
      obtain ⟨h2,hh2⟩:∃ h,h=l1*x / 18446744073709551616+h1*x:=⟨_,rfl⟩
      obtain ⟨l2,hl2⟩:∃ h,h=l1*x % 18446744073709551616:=⟨_,rfl⟩
      have HC1:=Lib.hid (HT 0 x x (by omega) (by omega) (by omega) wr).out
      have HC3:=Lib.hid (HT h1 l1 x (by omega) (by omega) (by omega) wr).out
      have HC2:=Lib.hid (HA h2 l2 (by omega) (by omega) wr).out
      rw [←hh1,←hl1,Nat.zero_mul,Nat.add_zero] at HC1
      rw [←hh2,←hl2] at HC3
      have hdec:decide (p*4294967296*18446744073709551616<h2*18446744073709551616+l2)=!okCu p x:=by
        have e:x*x*x=h2*18446744073709551616+l2:=by
          have e1:x*x=h1*18446744073709551616+l1:=by rw [hh1,hl1,split64]
          have e2:(h1*18446744073709551616+l1)*x=h1*x*18446744073709551616+l1*x:=by
            rw [Nat.add_mul,Nat.mul_right_comm]
          rw [e1,e2,hh2,hl2]
          omega
        unfold okCu
        rw [←e,←decide_not,decide_eq_decide];omega
      clear hh1 hl1 hh2 hl2 hxxx hlx hhx
      have HDEC:=Lib.hid hdec
      clear hdec
      cases hok:okCu p x
      · rw [hok] at hR HDEC
        rw [if_neg (by decide)] at hR
        have HR:=Lib.hid hR
        clear hR hok
        go_wp2_with fail
        refine HC1.out.mono ?_
        rintro e w1 ⟨rfl,rfl⟩
        go_wp2_with fail
        refine HC3.out.mono ?_
        rintro e w1 ⟨rfl,rfl⟩
        go_wp2_with fail
        refine HC2.out.mono ?_
        rintro e w1 ⟨rfl,rfl⟩
        rw [HDEC.out]
        go_wp2_with fail
        go_roundw
        case rel=>exact ⟨r,c,by omega,rfl,by go_num,HR3.out,HR.out,trivial⟩
        case measure=>simp [intOf]
      · rw [hok] at hR HDEC
        rw [if_pos rfl] at hR
        have HR:=Lib.hid hR
        clear hR hok
        go_wp2_with fail
        refine HC1.out.mono ?_
        rintro e w1 ⟨rfl,rfl⟩
        go_wp2_with fail
        refine HC3.out.mono ?_
        rintro e w1 ⟨rfl,rfl⟩
        go_wp2_with fail
        refine HC2.out.mono ?_
        rintro e w1 ⟨rfl,rfl⟩
        rw [HDEC.out]
        go_wp2_with fail
        go_roundw
        case rel=>exact ⟨x,c,by omega,rfl,by go_num,HR2.out,HR.out,trivial⟩
        case measure=>simp [intOf]

theorem table_cube:primes64.map (fun p=>cubeN p % 4294967296)=kTab:=by decide +kernel
theorem table_square:(primes64.take 8).map (fun p=>squareN p % 4294967296)=first8.list.map BitVec.toNat:=by decide +kernel
theorem primes_le:∀ p∈primes64,p≤400:=by decide +kernel
end Go.Proofs.YtodickpibbbiiaaGreatDoor
