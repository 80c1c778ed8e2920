/- caravan/walk's Walk: what a round keeps. Laws of operations in a fenced walk: a struct that is loaded or stored whole; a slice of one struct that is built. caravan/walk's Walk. caravan/walk in plain words: each path is found or passed over, just once; patterns leave out and change nothing else. What a walk finds, as it lies in memory: paths, texts, counts. Some of the chapter's answers. How many of some texts are, or hold, a path; the patterns of files; a path that is too long. Walks of no disk at all. Walks of a disk from a root of whatever length. One cell stored in a plain walk. A result that lies in a cell of its own. What Each tells is what the disk holds; each has its home among them. A region that draws its order, walked quietly in a fenced walk, in a round too: its operations are no defers. -/
import Derived.Test.YtodickpibbbiiaaGreatDoorWbF1
import Derived.Test.YtodickpibbbiiaaGreatDoorWbB1
import Derived.Test.YtodickpibbbiiaaGreatDoorWbA1
import Derived.Test.YtodickpibbbiiaaGreatDoorWbC3
import Derived.OwnWalkIn
import Derived.Great.BuildSlice
import Derived.Lib.ReflectliteSwap
import Derived.Sort.QuietIn
namespace Go.Proofs.YtodickpibbbiiaaGreatDoor
open Go.RowKit

theorem KpK.ext {K:World→List Nat} {nb n0:Nat} (hK:Reads K n0) {W W':World} (x:Ext W W') (h0:n0≤W.heap.size) (hb:nb≤W.heap.size):KpK K nb W W' :=
  ⟨Below.mono x hb,fun _ _ ho _ _=>(x.block (ltB ho)).trans ho,fun b hm=>.inl (by rw [hK W W' fun b hb=>x.block (by omega)] at hm;exact hm)⟩
theorem ko_ext {W W':World} (x:Ext W W'):KeepsOthers W W':=⟨x.size,fun _ _ ho _=>(x.block (ltB ho)).trans ho⟩
theorem rowOf_over (s:WSt) (p:ByteArray) (us:List Value) (j:Nat):rowOf { s with over:=p } us j=rowOf s us j:=by
  match j with
  | 0=>rfl
  | 1=>rfl
  | 2=>rfl
  | _+3=>rfl
theorem FoundIn.k {n0 b6 b9:Nat} {s:WSt} {w:World} {vs:Nat→Value} {us:List Value} (h:FoundIn n0 b6 b9 s w vs us):walkK b6 b9 w=[b6,b9]++(rowB (vs 0)++rowB (vs 1)++rowB (vs 2)++rowB (vs 3)):=by
  unfold walkK
  rw [h.blk]
  rfl
theorem FoundIn.mem_k {n0 b6 b9:Nat} {s:WSt} {w:World} {vs:Nat→Value} {us:List Value} (h:FoundIn n0 b6 b9 s w vs us) (b:Nat):b∈walkK b6 b9 w↔b=b6∨b=b9∨∃ j,j<4∧(vs j).ownBlock=some b:=by
  rw [h.k]
  simp only [List.mem_append,List.mem_cons,List.not_mem_nil,or_false,mem_rowB]
  constructor
  · rintro ((h | h) | ((h | h) | h) | h)
    · exact .inl h
    · exact .inr (.inl h)
    · exact .inr (.inr ⟨0,by omega,h⟩)
    · exact .inr (.inr ⟨1,by omega,h⟩)
    · exact .inr (.inr ⟨2,by omega,h⟩)
    · exact .inr (.inr ⟨3,by omega,h⟩)
  · rintro (h | h | ⟨j,hj,h⟩)
    · exact .inl (.inl h)
    · exact .inl (.inr h)
    · match j,hj with
      | 0,_=>exact .inr (.inl (.inl (.inl h)))
      | 1,_=>exact .inr (.inl (.inl (.inr h)))
      | 2,_=>exact .inr (.inl (.inr h))
      | 3,_=>exact .inr (.inr h)
structure Rnd (b6 b9 nb:Nat) (W W':World):Prop where
  ko:KeepsOthers W W'
  kp:KpK (walkK b6 b9) nb W W'
theorem Rnd.trans {b6 b9 nb:Nat} {A B C:World} (h:Rnd b6 b9 nb A B) (k:Rnd b6 b9 nb B C):Rnd b6 b9 nb A C:=⟨h.ko.trans k.ko,h.kp.trans k.kp⟩
theorem Rnd.ext {b6 b9 nb:Nat} {W W':World} (x:Ext W W') (h6:b6<W.heap.size) (hb:nb≤W.heap.size):Rnd b6 b9 nb W W':=⟨ko_ext x,KpK.ext (walkK_reads (b9:=b9) (n0:=b6+1) (by omega)) x (by omega) hb⟩
theorem HashU.kept {w w':World} {n0:Nat} {x:ByteArray×Nd} {u:Value} (h:HashU w n0 [] x u) (k:∀ b,u.ownBlock=some b→w'.heap[b]?=w.heap[b]?):HashU w' n0 [] x u:=by
  rcases h with h1 | ⟨h1,h2,h3,h4⟩
  · exact .inl h1
  · exact .inr ⟨h1,h2,owns_blocks h3 k,h4⟩
theorem HashU.own {w:World} {n0:Nat} {x:ByteArray×Nd} {u:Value} (h:HashU w n0 [] x u) (b:Nat) (hb:u.ownBlock=some b):n0≤b∧b<w.heap.size:=by
  rcases h with ⟨_,rfl⟩ | ⟨_,_,h3,_⟩
  · simp [Value.ownBlock] at hb
  · exact ⟨own_ge h3 b hb,own_lt h3 b hb⟩
theorem FoundIn.kept {n0 b6 b9:Nat} {s:WSt} {w w':World} {vs:Nat→Value} {us:List Value} (h:FoundIn n0 b6 b9 s w vs us) (k:∀ b,b<w.heap.size→(∃ c t f,w.heap[b]?=some (.cells c t f))→w'.heap[b]?=w.heap[b]?):FoundIn n0 b6 b9 s w' vs us:=by
  have kr:∀ {e:TypeId} {m n:Nat} {v:Value} {xs:List Value},w.ownsRow n0 e m v n xs→∀ b,v.ownBlock=some b→w'.heap[b]?=w.heap[b]?:=fun {e m n v xs} hr b hb=>by
    refine k b (own_lt hr b hb) ?_
    rcases hr.2 with ⟨he,_⟩ | ⟨g,cap,cur,he,_,hh,_⟩
    · rw [he] at hb;simp [Value.ownBlock] at hb
    · rw [he] at hb
      simp [Value.ownBlock] at hb
      subst hb
      exact ⟨_,_,_,hh⟩
  refine ⟨(k b6 (ltB h.blk) ⟨_,_,_,h.blk⟩).trans h.blk,(k b9 (ltB h.over) ⟨_,_,_,h.over⟩).trans h.over,fun j hj=>owns_blocks (h.row j hj) (kr (h.row j hj)),h.nd,h.len,fun i x u hx hu=>?_,h.hd,h.lt⟩
  rcases h.hs i x u hx hu with h1 | ⟨h1,h2,h3,h4⟩
  · exact .inl h1
  · exact .inr ⟨h1,h2,owns_blocks h3 (kr h3),h4⟩
theorem FoundIn.ext {n0 b6 b9:Nat} {s:WSt} {w w':World} {vs:Nat→Value} {us:List Value} (h:FoundIn n0 b6 b9 s w vs us) (x:Ext w w'):FoundIn n0 b6 b9 s w' vs us:=h.kept fun _ hb _=>x.block hb
theorem FoundIn.setOver {n0 b6 b9 nb:Nat} {s:WSt} {w:World} {vs:Nat→Value} {us:List Value} (h:FoundIn n0 b6 b9 s w vs us) (p:ByteArray) (hb:nb≤b9) :
    FoundIn n0 b6 b9 { s with over:=p } (w.setCell ⟨b9,0,none⟩ (.string p)) vs us∧Rnd b6 b9 nb w (w.setCell ⟨b9,0,none⟩ (.string p)):=by
  have hne:=h.lt.2.2
  have ho:∀ b,b≠b9→(w.setCell ⟨b9,0,none⟩ (.string p)).heap[b]?=w.heap[b]?:=fun b hb=>setCellO hb
  have h9:=setCellB (k:=0) (u:=.string p) h.over
  have hl9:=ltB h.over
  have c:Chg [b9] w (w.setCell ⟨b9,0,none⟩ (.string p)):=Chg.setCell w ⟨b9,0,none⟩ _ (by simp)
  refine ⟨⟨(ho b6 hne).trans h.blk,h9,fun j hj=>?_,h.nd,h.len,fun i x u hx hu=>(h.hs i x u hx hu).kept fun b hb=>?_,h.hd,h.lt⟩,⟨c.size,fun k o hk hc=>?_⟩,⟨c.os,c.tape,c.output,c.size,fun k hk=>?_⟩,fun b o hbo hs hn=>?_,fun b hm=>.inl ?_⟩
  · rw [rowOf_over]
    exact owns_blocks (h.row j hj) fun b hb=>ho b (by have:=(h.below j hj b hb).1;have:=h.lt.2.1;omega)
  · exact ho b (by have:=((h.hs i x u hx hu).own b hb).1;have:=h.lt.2.1;omega)
  · refine (ho k fun e=>?_).trans hk
    subst e
    rw [h.over] at hk
    cases hk
    cases hc
  · exact ho k (by omega)
  · refine (ho b fun e=>hn ?_).trans hbo
    rw [h.k,e]
    simp
  · unfold walkK at hm ⊢
    rw [ho b6 hne] at hm
    exact hm
theorem FoundIn.addR {n0 b6 b9 nb:Nat} {s:WSt} {w w1:World} {vs:Nat→Value} {us:List Value} {v':Value} {j:Nat} (h:FoundIn n0 b6 b9 s w vs us) (hj:j<4) 
    (hg:w.grownBy w1 (vs j).ownBlock) (hw:v'.ownBlock=(vs j).ownBlock∨v'.ownBlock=some w.heap.size) (hb:nb≤b6) (hb2:nb≤n0):Rnd b6 b9 nb w (w1.setCell ⟨b6,j,none⟩ v'):=by
  have hb6:b6<w.heap.size:=ltB h.blk
  have c:Chg (b6::rowB (vs j)) w (w1.setCell ⟨b6,j,none⟩ v') :=
    ((Chg.grownO hg (F:=rowB (vs j)) fun b hb=>.inl (mem_rowB.2 hb)).mono (fun x hx=>List.mem_cons_of_mem _ hx)).trans (Chg.setCell w1 ⟨b6,j,none⟩ v' (F:=[b6]) (by simp)) fun x hx=>.inl (by rw [List.mem_singleton.1 hx];simp)
  have h6j:(vs j).ownBlock≠some b6:=fun e=>by have:=(h.below j hj b6 e).1;have:=h.lt.1;omega
  have hb61:w1.heap[b6]?=some (.cells #[vs 0,vs 1,vs 2,vs 3] 37 (0,0)):=(hg.block b6 hb6 fun e=>h6j e.symm).trans h.blk
  refine ⟨⟨c.size,fun k o hk hc=>?_⟩,⟨c.os,c.tape,c.output,c.size,fun k hk=>c.block k (by omega) fun hm=>?_⟩,fun b o hbo hs hn=>?_,fun b hm=>?_⟩
  · refine (c.block k (ltB hk) fun hm=>?_).trans hk
    rcases List.mem_cons.1 hm with e | e
    · subst e
      rw [h.blk] at hk
      cases hk
      cases hc
    · have e:=mem_rowB.1 e
      rcases (h.row j hj).2 with ⟨he,_⟩ | ⟨g,cap,cur,he,_,hh,_⟩
      · rw [he] at e;simp [Value.ownBlock] at e
      · rw [he] at e
        simp [Value.ownBlock] at e
        subst e
        rw [hh] at hk
        cases hk
        cases hc
  · rcases List.mem_cons.1 hm with e | e
    · omega
    · have:=(h.below j hj k (mem_rowB.1 e)).1
      omega
  · refine (c.block b (ltB hbo) fun hm=>hn ?_).trans hbo
    rw [h.mem_k]
    rcases List.mem_cons.1 hm with e | e
    · exact .inl e
    · exact .inr (.inr ⟨j,hj,mem_rowB.1 e⟩)
  · rw [h.mem_k]
    have h1:=setCellB (k:=j) (u:=v') hb61
    unfold walkK at hm
    rw [h1] at hm
    have key:∀ i,i<4→((fun i=>if i=j then v' else vs i) i).ownBlock=some b→(b=b6∨b=b9∨∃ j,j<4∧(vs j).ownBlock=some b)∨w.heap.size≤b:=fun i hi hb=>by
      by_cases e:i=j
      · simp only [e,if_true] at hb
        rcases hw with e2 | e2
        · rw [hb] at e2
          exact .inl (.inr (.inr ⟨j,hj,e2.symm⟩))
        · rw [hb] at e2
          exact .inr (by rw [Option.some.inj e2];exact Nat.le_refl _)
      · simp only [if_neg e] at hb
        exact .inl (.inr (.inr ⟨i,hi,hb⟩))
    rcases List.mem_append.1 hm with hm | hm
    · simp only [List.mem_cons,List.not_mem_nil,or_false] at hm
      exact .inl (hm.elim .inl fun e=>.inr (.inl e))
    · have hcs:(#[vs 0,vs 1,vs 2,vs 3]:Array Value).setIfInBounds j v'=#[(fun i=>if i=j then v' else vs i) 0,(fun i=>if i=j then v' else vs i) 1,(fun i=>if i=j then v' else vs i) 2,(fun i=>if i=j then v' else vs i) 3]:=by
        match j,hj with
        | 0,_=>rfl
        | 1,_=>rfl
        | 2,_=>rfl
        | 3,_=>rfl
      dsimp only at hm
      rw [hcs] at hm
      unfold foundB at hm
      simp only [List.mem_append,mem_rowB] at hm
      rcases hm with ((hm | hm) | hm) | hm
      · exact key 0 (by omega) hm
      · exact key 1 (by omega) hm
      · exact key 2 (by omega) hm
      · exact key 3 (by omega) hm
theorem FoundIn.own {β:Type} {n0 b6 b9 b5 B:Nat} {w0:World} {o5:Array Value} {t5:TypeId} {f5:Nat×Nat} (S:β→WSt) (hB:w0.heap.size≤B) :
    OwnFrom B (fun pre W=>∃ vs us,Hid (FoundIn n0 b6 b9 (S pre) W vs us∧Ext w0 W∧W.heap[b5]?=some (.cells o5 t5 f5))):=by
  rintro pre W W' row ⟨vs,us,h,x,h5⟩ hg hr
  have key:∀ (b:Nat) (c:Array Value) (t:TypeId) (f:Nat×Nat),W.heap[b]?=some (Obj.cells c t f)→W'.heap[b]?=W.heap[b]?:=fun b c t f hc=>hg.block b (ltB hc) fun e=>by
    obtain ⟨_,o,ho,hn⟩:=hr b e.symm
    rw [hc] at ho
    cases ho
    cases hn
  exact ⟨vs,us,h.kept fun b hb ⟨c,t,f,hc⟩=>key b c t f hc,x.grown hg x.size fun k e=>Nat.le_trans hB (hr k e).1,(key _ _ _ _ h5).trans h5⟩
theorem Rnd.keep {n0 b6 b9 nb b5:Nat} {s:WSt} {W W':World} {vs:Nat→Value} {us:List Value} {o5:Array Value} {t5:TypeId} {f5:Nat×Nat} (h:Rnd b6 b9 nb W W') (hF:FoundIn n0 b6 b9 s W vs us) (h5:W.heap[b5]?=some (.cells o5 t5 f5)) (hn:b5<n0) (h6:b5≠b6) (h9:b5≠b9):W'.heap[b5]?=some (.cells o5 t5 f5):=by
  refine h.kp.same b5 _ h5 (.inl rfl) fun hm=>?_
  rcases (hF.mem_k b5).1 hm with e | e | ⟨j,hj,e⟩
  · exact h6 e
  · exact h9 e
  · have:=(hF.below j hj b5 e).1
    omega
def addT (s:WSt) (p:ByteArray):Nat→WSt
  | 1=>{ s with temps:=s.temps++[p] }
  | 2=>{ s with ign:=s.ign++[p] }
  | _=>{ s with bad:=s.bad++[p] }
theorem FoundIn.addText {n0 b6 b9:Nat} {s:WSt} {w w1:World} {vs:Nat→Value} {us:List Value} {v':Value} {j:Nat} (h:FoundIn n0 b6 b9 s w vs us) (h1:1≤j) (hj:j<4) (p:ByteArray)
    (hr:w1.ownsRow n0 9 1 v' ((rowOf s us j).2.2.1+1) ((rowOf s us j).2.2.2++[.string p])) (hg:w.grownBy w1 (vs j).ownBlock) (hw:v'.ownBlock=(vs j).ownBlock∨v'.ownBlock=some w.heap.size) :
    FoundIn n0 b6 b9 (addT s p j) (w1.setCell ⟨b6,j,none⟩ v') (fun i=>if i=j then v' else vs i) us:=by
  have hd:∀ (k:Nat) u,us[k]?=some u→∀ b,u.ownBlock=some b→b<w.heap.size∧∀ i,i<4→(vs i).ownBlock≠some b:=fun k u hu b hb=>by
    have hk:k<s.items.length:=by rw [←h.len];exact (List.getElem?_eq_some_iff.1 hu).1
    exact ⟨((h.hs k _ u (List.getElem?_eq_getElem hk) hu).own b hb).2,h.hd k u hu b hb⟩
  have h3:j=1∨j=2∨j=3:=by omega
  rcases h3 with rfl | rfl | rfl
  · exact h.add (s':=addT s p 1) (j:=1) (by omega) hr hg hw (by simp [rowOf,addT]) (fun i hi hne=>by rcases (by omega:i=0∨i=2∨i=3) with rfl | rfl | rfl <;> rfl) rfl h.len h.hs hd
  · exact h.add (s':=addT s p 2) (j:=2) (by omega) hr hg hw (by simp [rowOf,addT]) (fun i hi hne=>by rcases (by omega:i=0∨i=1∨i=3) with rfl | rfl | rfl <;> rfl) rfl h.len h.hs hd
  · exact h.add (s':=addT s p 3) (j:=3) (by omega) hr hg hw (by simp [rowOf,addT]) (fun i hi hne=>by rcases (by omega:i=0∨i=1∨i=2) with rfl | rfl | rfl <;> rfl) rfl h.len h.hs hd
theorem rowsU_snoc {l:Nodes} {us:List Value} (h:us.length=l.length) (x:ByteArray×Nd) (u:Value):rowsU (l++[x]) (us++[u])=rowsU l us++itemU x u:=by
  unfold rowsU
  rw [List.zip_append h.symm]
  simp
theorem FoundIn.addItem {n0 b6 b9:Nat} {s:WSt} {w w1:World} {vs:Nat→Value} {us:List Value} {v' u:Value} (h:FoundIn n0 b6 b9 s w vs us) (x:ByteArray×Nd)
    (hr:w1.ownsRow n0 45 27 v' (s.items.length+1) (rowsU s.items us++itemU x u)) (hg:w.grownBy w1 (vs 0).ownBlock) (hw:v'.ownBlock=(vs 0).ownBlock∨v'.ownBlock=some w.heap.size)
    (hu:HashU w n0 [] x u) (hun:∀ b,u.ownBlock=some b→∀ i,i<4→(vs i).ownBlock≠some b) :
    FoundIn n0 b6 b9 { s with items:=s.items++[x] } (w1.setCell ⟨b6,0,none⟩ v') (fun i=>if i=0 then v' else vs i) (us++[u]):=by
  have snoc:∀ {α:Type} {l:List α} {k:Nat} {a y:α},(l++[a])[k]?=some y→l[k]?=some y∨(k=l.length∧y=a):=fun {α l k a y} hk=>by
    rcases Nat.lt_trichotomy k l.length with h | h | h
    · rw [List.getElem?_append_left h] at hk;exact .inl hk
    · subst h;simp at hk;exact .inr ⟨rfl,hk.symm⟩
    · rw [List.getElem?_append_right (by omega)] at hk
      rw [List.getElem?_eq_none (by simp;omega)] at hk
      cases hk
  refine h.add (s':={ s with items:=s.items++[x] }) (j:=0) (news:=itemU x u) (by omega) hr hg hw ?_ (fun i hi hne=>by rcases (by omega:i=1∨i=2∨i=3) with rfl | rfl | rfl <;> rfl) rfl (by simp [h.len]) (fun k y z hy hz=>?_) (fun k z hz b hb=>?_)
  · simp [rowOf,rowsU_snoc h.len]
  · rcases snoc hz with hz | ⟨hk,rfl⟩
    · rcases snoc hy with hy | ⟨hk,rfl⟩
      · exact h.hs k y z hy hz
      · have:=(List.getElem?_eq_some_iff.1 hz).1
        have:=h.len
        omega
    · rcases snoc hy with hy | ⟨_,rfl⟩
      · have:=(List.getElem?_eq_some_iff.1 hy).1
        have:=h.len
        omega
      · exact hu
  · rcases snoc hz with hz | ⟨hk,rfl⟩
    · have hk:k<s.items.length:=by rw [←h.len];exact (List.getElem?_eq_some_iff.1 hz).1
      exact ⟨((h.hs k _ z (List.getElem?_eq_getElem hk) hz).own b hb).2,h.hd k z hz b hb⟩
    · exact ⟨(hu.own b hb).2,hun b hb⟩
def WSt.total (s:WSt):Nat:=s.items.length+s.temps.length+s.ign.length+s.bad.length
theorem stepW_total (ig:ByteArray→Bool) (s:WSt) (x:ByteArray×Nd):(stepW ig s x).total≤s.total+1:=by
  unfold stepW WSt.total
  split
  · omega
  · split
    · simp;omega
    · split
      · simp;omega
      · split
        · simp;omega
        · simp;omega
theorem walkS_total (ig:ByteArray→Bool) (pre:Nodes):(walkS ig pre).total≤pre.length:=by
  have key:∀ (l:Nodes) (s:WSt),(l.foldl (stepW ig) s).total≤s.total+l.length:=by
    intro l
    induction l with
    | nil=>intro s;simp
    | cons x r ih =>
      intro s
      have h1:=ih (stepW ig s x)
      have h2:=stepW_total ig s x
      rw [List.foldl_cons,List.length_cons]
      omega
  have:=key pre wst0
  have h0:wst0.total=0:=rfl
  unfold walkS
  omega
theorem rowOf_le (s:WSt) (us:List Value) (j:Nat) (h:j<4):(rowOf s us j).2.2.1≤s.total:=by
  unfold WSt.total
  match j,h with
  | 0,_=>show s.items.length≤_;omega
  | 1,_=>show s.temps.length≤_;omega
  | 2,_=>show s.ign.length≤_;omega
  | 3,_=>show s.bad.length≤_;omega
theorem stepW_skip {ig:ByteArray→Bool} {s:WSt} {x:ByteArray×Nd} (h:(!s.over.toList.isEmpty&&withinB x.1 s.over)=true):stepW ig s x=s:=by
  unfold stepW
  rw [h,if_pos rfl]
theorem stepW_temp {ig:ByteArray→Bool} {s:WSt} {x:ByteArray×Nd} (h:(!s.over.toList.isEmpty&&withinB x.1 s.over)=false) (h1:isTempB x.1=true):stepW ig s x=addT { s with over:=x.1 } x.1 1:=by
  unfold stepW
  rw [h,if_neg (by simp),h1,if_pos rfl]
  rfl
theorem stepW_ign {ig:ByteArray→Bool} {s:WSt} {x:ByteArray×Nd} (h:(!s.over.toList.isEmpty&&withinB x.1 s.over)=false) (h1:isTempB x.1=false) (h2:ig x.1=true):stepW ig s x=addT { s with over:=x.1 } x.1 2:=by
  unfold stepW
  rw [h,if_neg (by simp),h1,if_neg (by simp),h2,if_pos rfl]
  rfl
theorem stepW_bad {ig:ByteArray→Bool} {s:WSt} {x:ByteArray×Nd} (h:(!s.over.toList.isEmpty&&withinB x.1 s.over)=false) (h1:isTempB x.1=false) (h2:ig x.1=false) (h3:badN x.2=true):stepW ig s x=addT { s with over:=x.1 } x.1 3:=by
  unfold stepW
  rw [h,if_neg (by simp),h1,if_neg (by simp),h2,if_neg (by simp),h3,if_pos rfl]
  rfl
theorem stepW_item {ig:ByteArray→Bool} {s:WSt} {x:ByteArray×Nd} (h:(!s.over.toList.isEmpty&&withinB x.1 s.over)=false) (h1:isTempB x.1=false) (h2:ig x.1=false) (h3:badN x.2=false):stepW ig s x={ ({ s with over:=x.1 }:WSt) with items:=s.items++[x],over:=⟨#[]⟩ }:=by
  unfold stepW
  rw [h,if_neg (by simp),h1,if_neg (by simp),h2,if_neg (by simp),h3,if_neg (by simp)]
theorem walkS_over (ig:ByteArray→Bool) (pre:Nodes) (h:∀ z∈pre,z.1.size≤160):(walkS ig pre).over.size≤160:=by
  have key:∀ (l:Nodes) (s:WSt),(∀ z∈l,z.1.size≤160)→s.over.size≤160→(l.foldl (stepW ig) s).over.size≤160:=by
    intro l
    induction l with
    | nil=>intro s _ hs;exact hs
    | cons x r ih =>
      intro s hl hs
      rw [List.foldl_cons]
      refine ih _ (fun z hz=>hl z (by simp [hz])) ?_
      have hx:=hl x (by simp)
      unfold stepW
      split
      · exact hs
      · split
        · exact hx
        · split
          · exact hx
          · split
            · exact hx
            · show (0:Nat)≤160;omega
  exact key pre wst0 h (by show (0:Nat)≤160;omega)
end Go.Proofs.YtodickpibbbiiaaGreatDoor

namespace Go.Proofs.YtodickpibbbiiaaGreatDoor
open Go.RowKit

theorem wpListIn_run {F:Fence} {m:Nat} {P:Program} {ops:Array Oper} {rest:List Oper} {o:Oper} {a:Act} {Q:Exit→Act→World→Prop} {w w':World} {v:Value} (hgd:o.guard=none) (hd:∀ c,o.op≠.defer c) (hc:∀ c,o.op≠.call c)
    (hr:(execOp a.eval o).run P w=.ok (.value v) w') (h:wpListIn F m P ops Q rest (a.put o.dst v) w'):wpListIn F m P ops Q (o::rest) a w:=by
  refine wpListIn_plain hgd fun K hK=>?_
  unfold Oper.wpIn
  refine ⟨fun f hf=>?_,?_⟩
  · unfold Oper.about at hf
    split at hf
    · rename_i c e
      exact absurd e (hc c)
    · cases hf
  · rw [Oper.semAt_plain F _ _ hd,hr]
    exact hK _ _ h
theorem wpListIn_runs {F:Fence} {m:Nat} {P:Program} {ops:Array Oper} {rest:List Oper} {o:Oper} {a:Act} {Q:Exit→Act→World→Prop} {w w':World} (hgd:o.guard=none) (hd:∀ c,o.op≠.defer c) (hc:∀ c,o.op≠.call c)
    (hr:(execOp a.eval o).run P w=.ok .skip w') (h:wpListIn F m P ops Q rest (a.put o.dst undef) w'):wpListIn F m P ops Q (o::rest) a w:=by
  refine wpListIn_plain hgd fun K hK=>?_
  unfold Oper.wpIn
  refine ⟨fun f hf=>?_,?_⟩
  · unfold Oper.about at hf
    split at hf
    · rename_i c e
      exact absurd e (hc c)
    · cases hf
  · rw [Oper.semAt_plain F _ _ hd,hr]
    exact hK _ _ h
theorem wpListIn_load_row {F:Fence} {m:Nat} {P:Program} {ops:Array Oper} {rest:List Oper} {o:Oper} {a:Act} {Q:Exit→Act→World→Prop} {w:World} (hgd:o.guard=none) (ty:TypeId) (x:Operand) (ho:o.op=.load ty x)
    (g:Nat) (hx:a.eval x=.pointer (some ⟨g,0,none⟩)) (t:TypeId) (cs:Array Value) (fr:Nat×Nat) (d:TypeDesc) (hg:w.heap[g]?=some (.cells cs t fr))
    (hu:P.underlying ty=some d) (hd:(match d with | .struct _ | .array _ _=>true | _=>false)=true) (hi:(P.info? ty).map (·.size)=some cs.size)
    (h:wpListIn F m P ops Q rest (a.put o.dst (.agg cs)) w):wpListIn F m P ops Q (o::rest) a w:=by
  refine wpListIn_run hgd (fun c e=>by rw [ho] at e;cases e) (fun c e=>by rw [ho] at e;cases e) ?_ h
  unfold execOp
  simp only [ho,hx,Instr.loadAt,Instr.sureAddr,Sem.run_bind,Sem.run_pure,Result.andThen_ok,run_loadVar_row w g t ty cs fr d hg hu hd hi]
theorem wpListIn_storeT {F:Fence} {m:Nat} {P:Program} {ops:Array Oper} {rest:List Oper} {o:Oper} {a:Act} {Q:Exit→Act→World→Prop} {w:World} (hgd:o.guard=none) (ty:TypeId) (x y:Operand) (ho:o.op=.store ty x y)
    (g:Nat) (cells:Array Value) (hx:a.eval x=.pointer (some ⟨g,0,none⟩)) (hy:a.eval y=.agg cells)
    (t:TypeId) (old:Array Value) (hg:w.heap[g]?=some (.cells old t (0,0))) (hi:(P.info? ty).map (·.size)=some cells.size)
    (hold:old.size=cells.size) (h1:cells.all (·.oneCell')=true)
    (h:∀ w1,w1.heap[g]?=some (.cells cells t (0,0))→Touch g w w1→wpListIn F m P ops Q rest (a.put o.dst undef) w1):wpListIn F m P ops Q (o::rest) a w:=by
  have h':=h _ (setRow_heap _ _ _ _ _ _ hg) ⟨rfl,rfl,rfl,by rw [setRow_size];exact Nat.le_refl _,fun i _ hne=>setRow_other _ _ _ _ fun e=>hne (by rw [e])⟩
  refine wpListIn_runs hgd (fun c e=>by rw [ho] at e;cases e) (fun c e=>by rw [ho] at e;cases e) ?_ h'
  unfold execOp
  simp only [ho,hx,hy,Instr.storeAt,Instr.sureAddr,Sem.run_bind,Sem.run_pure,Result.andThen_ok,run_storeVar_row w g t ty old cells hg hi hold h1]
theorem wpListIn_store1 {F:Fence} {m:Nat} {P:Program} {ops:Array Oper} {rest:List Oper} {o:Oper} {a:Act} {Q:Exit→Act→World→Prop} {w:World} (hgd:o.guard=none) (ty:TypeId) (x y:Operand) (ho:o.op=.store ty x y)
    (g k:Nat) (v:Value) (hx:a.eval x=.pointer (some ⟨g,k,none⟩)) (hy:a.eval y=v) (hi:(P.info? ty).map (·.size)=some 1) (h1:v.oneCell'=true)
    (cs:Array Value) (t:TypeId) (hg:w.heap[g]?=some (.cells cs t (0,0))) (hk:k<cs.size)
    (h:∀ w1,w1=w.setCell ⟨g,k,none⟩ v→wpListIn F m P ops Q rest (a.put o.dst undef) w1):wpListIn F m P ops Q (o::rest) a w:=by
  refine wpListIn_runs hgd (fun c e=>by rw [ho] at e;cases e) (fun c e=>by rw [ho] at e;cases e) ?_ (h _ rfl)
  cases hq:P.info? ty with
  | none=>simp [hq] at hi
  | some i =>
    have hs:i.size=1:=by simpa [hq] using hi
    have hc:w.cell? ⟨g,k,none⟩=some cs[k]:=(cellB hg).trans (Array.getElem?_eq_getElem hk)
    unfold execOp
    simp only [ho,hx,hy,Instr.storeAt,Instr.sureAddr,Sem.run_bind,Sem.run_pure,Result.andThen_ok,Lib.rl_storeVar_one ty i hq hs ⟨g,k,none⟩ v cs[k] h1 w hc (frozenB hg)]
end Go.Proofs.YtodickpibbbiiaaGreatDoor

namespace Go.Proofs.YtodickpibbbiiaaGreatDoor
open Go.RowKit Go.Shelf
attribute [local go_sem] Oper.semAt_some

def FoundC (base:Nat) (w:World) (s:WSt) (C:Array Value):Prop :=
  ∃ (vs:Nat→Value) (us:List Value),C=#[vs 0,vs 1,vs 2,vs 3]∧(∀ j,j<4→w.ownsRow base (rowOf s us j).1 (rowOf s us j).2.1 (vs j) (rowOf s us j).2.2.1 (rowOf s us j).2.2.2)∧us.length=s.items.length∧∀ (k:Nat) x u,s.items[k]?=some x→us[k]?=some u→HashU w base [] x u
def found0:Array Value:=#[.slice none 0 0,.slice none 0 0,.slice none 0 0,.slice none 0 0]
theorem FoundC.nothing (base:Nat) (w:World):FoundC base w wst0 found0 :=
  ⟨fun _=>.slice none 0 0,[],rfl,fun j hj=>by
    match j,hj with
    | 0,_=>exact World.ownsRow_nil _ _ _ _
    | 1,_=>exact World.ownsRow_nil _ _ _ _
    | 2,_=>exact World.ownsRow_nil _ _ _ _
    | 3,_=>exact World.ownsRow_nil _ _ _ _,rfl,fun k x u h=>by simp [wst0] at h⟩
theorem elRec:ElemK Tryz.prog 34 45 (.agg rec0) 27 184:=⟨by kernel_rfl,by kernel_rfl,rfl,by decide,by decide⟩
theorem elText:ElemK Tryz.prog 35 9 (.string ⟨#[]⟩) 1 16:=⟨by kernel_rfl,by kernel_rfl,rfl,by decide,by decide⟩

theorem inRoot_mem2 {r:ByteArray} {l:Nodes} {y:ByteArray×Nd} (h:y∈inRoot r l):∃ x∈l,withinB x.1 r=true∧y=(relS r x.1,x.2):=by
  unfold inRoot at h
  rw [List.mem_map] at h
  obtain ⟨x,h1,h2⟩:=h
  exact ⟨x,(List.mem_filter.1 h1).1,(List.mem_filter.1 h1).2,h2.symm⟩
theorem clip_each {m:Nat} {D:Dk} (R:DkRun m D) (r:ByteArray):(eachL D r).map clipW=eachL D r:=by
  have key:∀ x∈eachL D r,clipW x=x:=fun x hx=>by
    unfold eachL at hx
    split at hx
    · obtain ⟨y,hy,_,rfl⟩:=inRoot_mem2 hx
      refine clipW_eq ?_ ?_
      · have:=mayB_size (R.ok.live.may y hy)
        show (relS r y.1).size≤160
        unfold relS
        simp
        omega
      · have h1:=mem_used hy
        have h2:=R.ok.live.used
        have h3:=R.ok.r2
        have h4:64+y.2.data.size≤usedL D.live:=h1
        show y.2.data.size≤1048576
        omega
    · cases hx
  exact (List.map_congr_left key).trans (List.map_id _)
theorem eachL_le (D:Dk) (r:ByteArray):(eachL D r).length≤D.live.length:=by
  unfold eachL
  split
  · unfold inRoot
    rw [List.length_map]
    exact List.length_filter_le _ _
  · simp
set_option maxRecDepth 100000 in
set_option maxHeartbeats 4000000 in
theorem walk_any {w:World} {d m:Nat} {M I:List Nat} {D:Dk} (h:DkAt w d M I D) (R:DkRun m D) (O:DkFit D) (E:Env w) (T:ShaTabs w) (root:ByteArray) (hr:root.size≤100000) (lv:Option Addr) (ig:ByteArray→Bool)
    (HL:∀ (w':World) (p:ByteArray),Ext w w'→p.size≤160→Calls Tryz.prog 70 #[.pointer lv,.string p] w' fun e w''=>∃ b,e=.returned (.tuple #[.bool (ig p),.bool b])∧Ext w' w'') :
    Calls Tryz.prog 17 #[.pointer (some ⟨d,0,none⟩),.string root,.pointer lv] w fun e w'=>∃ C,e=.returned (.tuple #[.agg C,.int .i64 (rootE D.live root)])∧Hid (FoundC w.heap.size w' (walkS ig (eachL D root)) C∧Ext w w'):=by
  have HX2:=Lib.hid (((Ext.refl w).alloc (.cells #[.pointer lv] 30 (0,0))).alloc (.cells found0 37 (0,0)))
  have HZ0:=Lib.hid ((block_alloc_old (o:=.cells found0 37 (0,0)) (by simp only [size_alloc];omega)).trans (block_alloc_new w (.cells #[.pointer lv] 30 (0,0))))
  have HZ1:=Lib.hid (block_alloc_new (w.alloc (.cells #[.pointer lv] 30 (0,0))) (.cells found0 37 (0,0)))
  simp only [size_alloc] at HZ1
  have HRt:=Lib.hid (rooted_any (h.ext HX2.out) O.ok (E.ext HX2.out) root (by omega))
  have HA1:=Lib.hid (show (Tryz.prog.info? 37).map (·.size)=some found0.size from by kernel_rfl)
  have HA3:=Lib.hid (show found0.all (·.oneCell')=true from by kernel_rfl)
  unfold found0 at HX2 HZ0 HZ1 HRt
  refine callsIn_wide.1 (callsIn_of_wp_marks (n:=4) Tryz.func17 rfl trivial ?_ rfl)
  simp only [Tryz.ntmps17,List.size_toArray,List.length_cons,List.length_nil,Nat.reduceAdd,Nat.reduceSub,Array.replicate_succ,Array.replicate_zero,List.push_toArray,List.append_toArray,List.nil_append,List.cons_append]
  by_cases hroot:rootE D.live root=0
  · rw [hroot] at HRt
    gi_wp2
    refine ⟨trivial,(callsIn_wide.2 HRt.out).mono ?_⟩
    rintro e w3 ⟨rfl,x3⟩
    gi_wp2
    refine ⟨trivial,(callsIn_wide.2 (each_any (some ⟨d,0,none⟩) root _)).mono ?_⟩
    rintro e w5 ⟨rfl,hw5⟩
    have HB9:=Lib.hid (show (w3.alloc (.cells #[.string ⟨#[]⟩] 9 (0,0))).heap[w3.heap.size]?=some (.cells #[.string ⟨#[]⟩] 9 (0,0)) from block_alloc_new _ _)
    have HW5:=Lib.hid hw5
    have HB6:=Lib.hid ((x3.block (ltB HZ1.out)).trans HZ1.out)
    have HB5:=Lib.hid ((x3.block (ltB HZ0.out)).trans HZ0.out)
    have X3:=Lib.hid (HX2.out.trans x3)
    have hlt6:w.heap.size+1<w3.heap.size:=ltB HB6.out
    have X5:=Lib.hid (show Ext w3 w5 from by rw [hw5];exact (((Ext.refl w3).alloc _).alloc _).alloc _)
    have hd:=Lib.hid (show w5.heap[w3.heap.size+1]?=some (.cells #[.pointer (some ⟨d,0,none⟩)] 26 (0,0)) from by
      rw [hw5]
      have h1:=block_alloc_new (w3.alloc (.cells #[.string ⟨#[]⟩] 9 (0,0))) (.cells #[.pointer (some ⟨d,0,none⟩)] 26 (0,0))
      rw [size_alloc] at h1
      exact (block_alloc_old (by simp only [size_alloc];omega)).trans h1)
    have hrb:=Lib.hid (show w5.heap[w3.heap.size+1+1]?=some (.cells #[.string root] 9 (0,0)) from by
      rw [hw5]
      have h1:=block_alloc_new ((w3.alloc (.cells #[.string ⟨#[]⟩] 9 (0,0))).alloc (.cells #[.pointer (some ⟨d,0,none⟩)] 26 (0,0))) (.cells #[.string root] 9 (0,0))
      rw [size_alloc,size_alloc] at h1
      exact h1)
    have hb9:=Lib.hid (show w5.heap[w3.heap.size]?=some (.cells #[.string ⟨#[]⟩] 9 (0,0)) from by
      rw [hw5]
      exact (block_alloc_old (by simp only [size_alloc];omega)).trans ((block_alloc_old (by simp only [size_alloc];omega)).trans HB9.out))
    have hb6:=Lib.hid ((X5.out.block (ltB HB6.out)).trans HB6.out)
    have hb5:=Lib.hid ((X5.out.block (ltB HB5.out)).trans HB5.out)
    have hs5:w3.heap.size+3=w5.heap.size:=by rw [hw5];simp only [size_alloc]
    have XX:=Lib.hid (X3.out.trans X5.out)
    clear hw5
    have hF0:FoundIn (w3.heap.size+1) (w.heap.size+1) w3.heap.size wst0 w5 (fun _=>.slice none 0 0) []:=by
      refine ⟨hb6.out,hb9.out,fun j hj=>?_,fun i j _ _ _ b hb=>by simp [Value.ownBlock] at hb,rfl,fun k x u hx=>by simp [wst0] at hx,fun k u hu=>by simp at hu,by omega,by omega,by omega⟩
      match j,hj with
      | 0,_=>exact World.ownsRow_nil _ _ _ _
      | 1,_=>exact World.ownsRow_nil _ _ _ _
      | 2,_=>exact World.ownsRow_nil _ _ _ _
      | 3,_=>exact World.ownsRow_nil _ _ _ _
    have hK5:walkK (w.heap.size+1) w3.heap.size w5=[w.heap.size+1,w3.heap.size]:=by rw [hF0.k];rfl
    have hDlt:=h.lt
    gi_wp2
    refine wpIn_rangeFunc_ownH rfl (by decide) (gf:=79) (lb:=#[.pointer (some ⟨w3.heap.size+1,0,none⟩),.pointer (some ⟨w3.heap.size+1+1,0,none⟩)]) rfl trivial (enters_of Tryz.func79 (by kernel_rfl) rfl)
      (each_stops 3 (by decide) (wb:=w) (w0:=w5) (K:=walkK (w.heap.size+1) w3.heap.size) (n0:=w3.heap.size+1) (D:=D) root E XX.out (walkK_reads (by omega)) (by omega) (fun b hb=>?kl) (h.ext XX.out) R O (fun b hb hm=>?ki) (cellB hd.out) (cellB hrb.out) (by rw [hK5];simp;omega) (by omega))
      KpK.trans (fun W l o o' hl ho h1 h2=>KpK.turn (walkK_reads (n0:=w3.heap.size+1) (by omega)) W l o o' (by omega) (by have:=XX.out.size;omega) ho h1 h2) (Below.refl _ _) (fun _=>rfl)
      (fun pre W=>∃ vs us,Hid (FoundIn (w3.heap.size+1) (w.heap.size+1) w3.heap.size (walkS ig (pre.map clipW)) W vs us∧Ext w W∧W.heap[w.heap.size]?=some (.cells #[.pointer lv] 30 (0,0)))) (fun _ _ _=>False) ?own (fun c s W W' row hs _ _=>hs.elim) ⟨_,_,hF0,XX.out,hb5.out⟩
      (fun x a' W=>∃ g,Hid (w3.heap.size+1≤g∧W.heap[g]?=some (.cells #[.int .i64 (clipW x).2.kind,.string (clipW x).2.data,.string (clipW x).2.target,.int .i64 (clipW x).2.time] 84 (0,0)))∧a'={ tmps:=#[.pointer (some ⟨d,0,none⟩),.string root,.pointer lv,undef,undef,.pointer (some ⟨w.heap.size,0,none⟩),.pointer (some ⟨w.heap.size+1,0,none⟩),.int .i64 0,.int .i64 0,.pointer (some ⟨w3.heap.size,0,none⟩),.string (clipW x).1,.pointer (some ⟨g,0,none⟩),undef,undef,undef,undef,.pointer (some ⟨d,0,none⟩),.string root,.int .i64 0,.int .i64 0,.bool false,undef,undef,.pointer (some ⟨d,0,none⟩),.string root,.func (.func 79) #[] #[.pointer (some ⟨w3.heap.size+1,0,none⟩),.pointer (some ⟨w3.heap.size+1+1,0,none⟩)],.string (clipW x).1,nv (clipW x).2,undef,undef,undef,undef,undef,undef,undef,undef,undef,undef,undef,undef,undef,undef,undef,undef,undef,undef,undef,undef,undef,undef,undef,undef,undef,undef,undef,undef,undef,undef,undef,undef,undef,undef,undef,undef,undef,undef,undef,undef,undef,undef,undef,undef,undef,undef,undef,undef,undef,undef,undef,undef,undef],defers:=[] }) ?ax ?assign ?body ?done (fun D c pre W _ _ hs _=>hs.elim)
    case kl =>
      rw [hK5] at hb
      simp only [List.mem_cons,List.not_mem_nil,or_false] at hb
      omega
    case ki =>
      rw [hK5] at hm
      simp only [List.mem_cons,List.not_mem_nil,or_false] at hm
      have:=hDlt.2 b hb
      omega
    case own=>exact FoundIn.own (fun pre:Nodes=>walkS ig (pre.map clipW)) XX.out.size
    case ax =>
      rintro x a' _ W W' row ⟨g,⟨h1,h2⟩,h3⟩ hg hr
      refine ⟨g,⟨h1,(hg.block g (ltB h2) fun e=>?_).trans h2⟩,h3⟩
      obtain ⟨_,o,ho,hn⟩:=hr g e.symm
      rw [h2] at ho
      cases ho
      cases hn
    case assign =>
      rintro l pre x W K ⟨vs,us,hF,hx,h5⟩ hK
      have hK:=Lib.hid hK
      have hF:=Lib.hid hF
      have h5:=Lib.hid h5
      have hx:=Lib.hid hx
      unfold encW
      generalize clipW x=y at *
      obtain ⟨yp,yk,yd,yt,ym⟩:=y
      unfold nv at *
      dsimp only at *
      gi_wp2
      have x1:Ext W (W.alloc (.cells #[.int .i64 yk,.string yd,.string yt,.int .i64 ym] 84 (0,0))):=(Ext.refl W).alloc _
      have r1:Rnd (w.heap.size+1) w3.heap.size w.heap.size W _:=Rnd.ext x1 (ltB hF.out.blk) hx.out.size
      exact hK.out _ _ (r1.ko.from _) r1.kp ⟨vs,us,hF.out.ext x1,hx.out.trans x1,(x1.block (ltB h5.out)).trans h5.out⟩ ⟨W.heap.size,⟨ltB hF.out.over,block_alloc_new _ _⟩,rfl⟩
    case body =>
      rintro l pre x a' W hl hlr ⟨vs,us,hF,hx,h5⟩ ⟨g,⟨hg,hbg⟩,rfl⟩ hlen
      have hF:=Lib.hid hF
      have h5:=Lib.hid h5
      have hx:=Lib.hid hx
      have hbg:=Lib.hid hbg
      obtain ⟨hp160,hd20⟩:=clipW_le x
      have HN:=Lib.hid (show walkS ig ((pre++[x]).map clipW)=stepW ig (walkS ig (pre.map clipW)) (clipW x) from by rw [List.map_append];exact walkS_snoc _ _ _)
      have hl6:(eachL D root).length≤16384:=Nat.le_trans (eachL_le D root) (live_few R)
      have hsov:(walkS ig (pre.map clipW)).over.size≤160:=walkS_over ig _ (fun z hz=>by obtain ⟨q,_,rfl⟩:=List.mem_map.1 hz;exact (clipW_le q).1)
      have htot:(walkS ig (pre.map clipW)).total<16384:=Nat.lt_of_lt_of_le (Nat.lt_of_le_of_lt (walkS_total ig _) (by rw [List.length_map];exact hlen)) hl6
      generalize clipW x=y at *
      obtain ⟨yp,yk,yd,yt,ym⟩:=y
      unfold nv at *
      dsimp only at *
      generalize walkS ig (List.map clipW pre)=s at *
      have c9:W.cell? ⟨w3.heap.size,0,none⟩=some (.string s.over):=cellB hF.out.over
      have f9:W.frozen? ⟨w3.heap.size,0,none⟩=false:=frozenB hF.out.over
      cases ho:s.over.toList.isEmpty with
      | true =>
        have hoe:s.over=⟨#[]⟩:=ba_ext ((List.isEmpty_iff.1 ho).trans (by rw [Lib.toList_data]))
        rw [hoe] at c9
        gi_wp2
        refine ⟨trivial,?_⟩
        have hsk:(!s.over.toList.isEmpty&&withinB yp s.over)=false:=by rw [ho];rfl
        obtain ⟨W1,hW1⟩:∃ W1,W1=W:=⟨_,rfl⟩
        have y1:=Lib.hid (show Ext W W1 from hW1▸Ext.refl W)
        rw [←hW1]
        clear hW1 c9 f9
        have hsk:=Lib.hid hsk
        have hF1:=Lib.hid (hF.out.ext y1.out)
        have hR1:=Lib.hid (Rnd.ext (b9:=w3.heap.size) (nb:=w.heap.size) y1.out (ltB hF.out.blk) hx.out.size)
        have h51:=Lib.hid ((y1.out.block (ltB h5.out)).trans h5.out)
        have hg1:=Lib.hid ((y1.out.block (ltB hbg.out)).trans hbg.out)
        have hx1:=Lib.hid (hx.out.trans y1.out)
        have hF0W:=hF
        have h50:=h5
        have hx0:=hx
        clear hF h5 hbg y1 hx
        gi_wp2_with (refine wpListIn_store1 rfl _ _ _ rfl w3.heap.size 0 (.string yp) rfl rfl (by kernel_rfl) rfl _ _ hF1.out.over Nat.zero_lt_one ?_;intro W2 hw2;have HFR:=Lib.hid (hF1.out.setOver (nb:=w.heap.size) yp (by omega));rw [←hw2] at HFR;have hg2:=Lib.hid (show W2.heap[g]?=_ from (hw2▸setCellO (by omega)).trans hg1.out);have h52:=Lib.hid (HFR.out.2.keep hF1.out h51.out (by omega) (by omega) (by omega));have c5:W2.cell? ⟨w.heap.size,0,none⟩=some (.pointer lv):=cellB h52.out;have n0:W2.cell? ⟨g,0,none⟩=some (.int .i64 yk):=cellB hg2.out;have n1:W2.cell? ⟨g,1,none⟩=some (.string yd):=cellB hg2.out;have n2:W2.cell? ⟨g,2,none⟩=some (.string yt):=cellB hg2.out;have n3:W2.cell? ⟨g,3,none⟩=some (.int .i64 ym):=cellB hg2.out;clear hw2;go_frame)
        have hR2:=Lib.hid (hR1.out.trans HFR.out.2)
        have hx2:=Lib.hid (show Ext w W2 from Below.trans hx1.out HFR.out.2.kp.low)
        have hF2:=Lib.hid HFR.out.1
        clear HFR hF1 hR1 h51 hg1 hx1 n0 n1 n2 n3 c5
        refine ⟨trivial,(CallsIn.inRound l (callsIn_wide.2 (HL W2 yp hx2.out hp160))).mono ?_⟩
        rintro e W3 ⟨del,rfl,y3⟩
        have hg3:=(y3.block (ltB hg2.out)).trans hg2.out
        have n0:W3.cell? ⟨g,0,none⟩=some (.int .i64 yk):=cellB hg3
        have n1:W3.cell? ⟨g,1,none⟩=some (.string yd):=cellB hg3
        have n2:W3.cell? ⟨g,2,none⟩=some (.string yt):=cellB hg3
        have n3:W3.cell? ⟨g,3,none⟩=some (.int .i64 ym):=cellB hg3
        clear hg3
        gi_wp2
        refine ⟨trivial,(CallsIn.inRound l (callsIn_wide.2 (item_any yp ⟨yk,yd,yt,ym⟩ W3 (T.ext (hx2.out.trans y3)) hd20))).mono ?_⟩
        rintro e W4 ⟨C,er,rfl,h4⟩
        clear n0 n1 n2 n3
        obtain ⟨hs1,hs2⟩:=item_shape h4.out.1
        have HC1:=Lib.hid (show (Tryz.prog.info? 45).map (·.size)=some C.size from by rw [hs1];kernel_rfl)
        have HC2:=Lib.hid (show 27=C.size from hs1.symm)
        have HC3:=Lib.hid hs2
        clear hs1 hs2
        gi_wp2_with (refine wpListIn_storeT rfl _ _ _ rfl W4.heap.size C rfl rfl 45 _ (block_alloc_new W4 _) HC1.out HC2.out HC3.out ?_;intro W5 hb5 ht5;have HB5:=Lib.hid hb5;have HX5:=Lib.hid (ht5.fresh ((Ext.refl W4).alloc _) (Nat.le_refl _));clear hb5 ht5;go_frame)
        refine ⟨trivial,(CallsIn.inRound l (callsIn_wide.2 (isTemp_any yp W5 (by omega)))).mono ?_⟩
        rintro e W6 ⟨rfl,hdr⟩
        obtain ⟨nd,hdr⟩:=hdr
        have y6:=Lib.hid (show Ext W5 W6 from hdr▸(Ext.refl W5).drewN nd)
        clear hdr
        have HB6:=Lib.hid ((y6.out.block (ltB HB5.out)).trans HB5.out)
        have y26:=Lib.hid (((y3.trans h4.out.2).trans HX5.out).trans y6.out)
        have hF6:=Lib.hid (hF2.out.ext y26.out)
        have hR6:=Lib.hid (hR2.out.trans (Rnd.ext y26.out (ltB hF2.out.blk) hx2.out.size))
        cases htp:isTempB yp with
        | true =>
          have hrw:=Lib.hid (hF6.out.row 1 (by decide))
          obtain ⟨ra,rc,hre⟩:=rowk_shape hrw.out
          have HRE:=Lib.hid hre
          have c6:W6.cell? ⟨w.heap.size+1,1,none⟩=some (.slice ra s.temps.length rc):=(cellB hF6.out.blk).trans (by rw [←show vs 1=.slice ra s.temps.length rc from hre];rfl)
          have HOW:=Lib.hid (show W6.ownsRow (w3.heap.size+1) 9 1 (.slice ra s.temps.length rc) s.temps.length (s.temps.map Value.string) from (show vs 1=.slice ra s.temps.length rc from hre)▸hrw.out)
          have hln:s.temps.length≤16384:=Nat.le_trans (rowOf_le s us 1 (by decide)) (Nat.le_of_lt htot)
          have h61:w3.heap.size+1≤W6.heap.size:=ltB hF6.out.over
          clear hre hrw
          gi_wp2_with (first
            | (refine wpListIn_append_k elText (w3.heap.size+1) (.slice ra s.temps.length rc) s.temps.length (s.temps.map Value.string) (owns_ext HOW.out ((Ext.refl _).alloc _)) W6.heap.size [.string yp] rfl (.tmp 58) (.tmp 60) rfl rfl rfl rfl (fun j u hj=>(cellB (block_alloc_new W6 _)).trans (by simpa using hj)) (by simp [Value.oneCell']) (by omega) (by simp only [size_alloc];omega) ?_;intro v8 W8 ho8 hg8 hv8;obtain ⟨va,vc,hve⟩:=rowk_shape ho8;rw [hve] at ho8 hv8;rw [hve];have HO8:=Lib.hid ho8;have HG8:=Lib.hid hg8;have HV8:=Lib.hid hv8;clear ho8 hg8 hv8 hve;go_frame)
            | (refine wpListIn_store1 rfl _ _ _ rfl (w.heap.size+1) 1 (.slice va (s.temps.length+1) vc) rfl rfl (by kernel_rfl) rfl #[vs 0,vs 1,vs 2,vs 3] 37 ((HG8.out.block (w.heap.size+1) (ltB (hF6.out.ext ((Ext.refl _).alloc _)).blk) (fun e=>by have h1:=(hF6.out.below 1 (by decide) (w.heap.size+1) (by rw [show vs 1=_ from HRE.out];exact e.symm)).1;omega)).trans (hF6.out.ext ((Ext.refl _).alloc _)).blk) (by show 1<4;decide) ?_;intro W9 hw9;have HW9:=Lib.hid hw9;clear hw9;go_frame))
          have hg8:=HG8.out
          have hv8:=HV8.out
          rw [show Value.slice ra s.temps.length rc=vs 1 from HRE.out.symm] at hg8 hv8
          have hF7:=hF6.out.ext ((Ext.refl W6).alloc (.cells #[.string yp] 9 (0,0)))
          have hF9:=hF7.addText (j:=1) (by decide) (by decide) yp HO8.out hg8 hv8
          have hR9:=(hR6.out.trans (Rnd.ext ((Ext.refl W6).alloc (.cells #[.string yp] 9 (0,0))) (ltB hF6.out.blk) (Nat.le_trans hx2.out.size y26.out.size))).trans (hF7.addR (nb:=w.heap.size) (j:=1) (by decide) hg8 hv8 (by omega) (by omega))
          rw [←HW9.out] at hF9 hR9
          have hfin:FoundIn (w3.heap.size+1) (w.heap.size+1) w3.heap.size (walkS ig (List.map clipW (pre++[x]))) W9 (fun i=>if i=1 then .slice va (s.temps.length+1) vc else vs i) us:=by
            rw [HN.out,stepW_temp (ig:=ig) (s:=s) (x:=(yp,⟨yk,yd,yt,ym⟩)) hsk.out htp]
            exact hF9
          have hext:=Below.trans hx0.out hR9.kp.low
          have hkp5:=hR9.keep hF0W.out h50.out (by omega) (by omega) (by omega)
          exact ⟨hR9.ko.from _,hR9.kp,⟨_,us,⟨hfin,hext,hkp5⟩⟩⟩
        | false =>
          cases hig:ig yp with
          | true =>
            have hrw:=Lib.hid (hF6.out.row 2 (by decide))
            obtain ⟨ra,rc,hre⟩:=rowk_shape hrw.out
            have HRE:=Lib.hid hre
            have c6:W6.cell? ⟨w.heap.size+1,2,none⟩=some (.slice ra s.ign.length rc):=(cellB hF6.out.blk).trans (by rw [←show vs 2=.slice ra s.ign.length rc from hre];rfl)
            have HOW:=Lib.hid (show W6.ownsRow (w3.heap.size+1) 9 1 (.slice ra s.ign.length rc) s.ign.length (s.ign.map Value.string) from (show vs 2=.slice ra s.ign.length rc from hre)▸hrw.out)
            have hln:s.ign.length≤16384:=Nat.le_trans (rowOf_le s us 2 (by decide)) (Nat.le_of_lt htot)
            have h61:w3.heap.size+1≤W6.heap.size:=ltB hF6.out.over
            clear hre hrw
            gi_wp2_with (first
              | (refine wpListIn_append_k elText (w3.heap.size+1) (.slice ra s.ign.length rc) s.ign.length (s.ign.map Value.string) (owns_ext HOW.out ((Ext.refl _).alloc _)) W6.heap.size [.string yp] rfl (.tmp 66) (.tmp 68) rfl rfl rfl rfl (fun j u hj=>(cellB (block_alloc_new W6 _)).trans (by simpa using hj)) (by simp [Value.oneCell']) (by omega) (by simp only [size_alloc];omega) ?_;intro v8 W8 ho8 hg8 hv8;obtain ⟨va,vc,hve⟩:=rowk_shape ho8;rw [hve] at ho8 hv8;rw [hve];have HO8:=Lib.hid ho8;have HG8:=Lib.hid hg8;have HV8:=Lib.hid hv8;clear ho8 hg8 hv8 hve;go_frame)
              | (refine wpListIn_store1 rfl _ _ _ rfl (w.heap.size+1) 2 (.slice va (s.ign.length+1) vc) rfl rfl (by kernel_rfl) rfl #[vs 0,vs 1,vs 2,vs 3] 37 ((HG8.out.block (w.heap.size+1) (ltB (hF6.out.ext ((Ext.refl _).alloc _)).blk) (fun e=>by have h1:=(hF6.out.below 2 (by decide) (w.heap.size+1) (by rw [show vs 2=_ from HRE.out];exact e.symm)).1;omega)).trans (hF6.out.ext ((Ext.refl _).alloc _)).blk) (by show 2<4;decide) ?_;intro W9 hw9;have HW9:=Lib.hid hw9;clear hw9;go_frame))
            have hg8:=HG8.out
            have hv8:=HV8.out
            rw [show Value.slice ra s.ign.length rc=vs 2 from HRE.out.symm] at hg8 hv8
            have hF7:=hF6.out.ext ((Ext.refl W6).alloc (.cells #[.string yp] 9 (0,0)))
            have hF9:=hF7.addText (j:=2) (by decide) (by decide) yp HO8.out hg8 hv8
            have hR9:=(hR6.out.trans (Rnd.ext ((Ext.refl W6).alloc (.cells #[.string yp] 9 (0,0))) (ltB hF6.out.blk) (Nat.le_trans hx2.out.size y26.out.size))).trans (hF7.addR (nb:=w.heap.size) (j:=2) (by decide) hg8 hv8 (by omega) (by omega))
            rw [←HW9.out] at hF9 hR9
            have hfin:FoundIn (w3.heap.size+1) (w.heap.size+1) w3.heap.size (walkS ig (List.map clipW (pre++[x]))) W9 (fun i=>if i=2 then .slice va (s.ign.length+1) vc else vs i) us:=by
              rw [HN.out,stepW_ign (ig:=ig) (s:=s) (x:=(yp,⟨yk,yd,yt,ym⟩)) hsk.out htp hig]
              exact hF9
            have hext:=Below.trans hx0.out hR9.kp.low
            have hkp5:=hR9.keep hF0W.out h50.out (by omega) (by omega) (by omega)
            exact ⟨hR9.ko.from _,hR9.kp,⟨_,us,⟨hfin,hext,hkp5⟩⟩⟩
          | false =>
            rcases h4.out.1 with ⟨hk,hC,he⟩ | ⟨hk,h46,he,u,hC,hu⟩ | ⟨hk,h46,he,hC⟩
            · have hrw:=Lib.hid (hF6.out.row 0 (by decide))
              obtain ⟨ra,rc,hre⟩:=rowk_shape hrw.out
              have HRE:=Lib.hid hre
              have c6:W6.cell? ⟨w.heap.size+1,0,none⟩=some (.slice ra s.items.length rc):=(cellB hF6.out.blk).trans (by rw [←show vs 0=.slice ra s.items.length rc from hre];rfl)
              have HOW:=Lib.hid (show W6.ownsRow (w3.heap.size+1) 45 27 (.slice ra s.items.length rc) s.items.length (rowsU s.items us) from (show vs 0=.slice ra s.items.length rc from hre)▸hrw.out)
              have hln:s.items.length≤16384:=Nat.le_trans (rowOf_le s us 0 (by decide)) (Nat.le_of_lt htot)
              have h61:w3.heap.size+1≤W6.heap.size:=ltB hF6.out.over
              have hbd:badN ⟨yk,yd,yt,ym⟩=false:=by unfold badN;rw [decide_eq_false hk];rfl
              clear hre hrw
              subst hC he
              unfold itemC at *
              dsimp only at *
              have X7:=Lib.hid ((Ext.refl W6).alloc (.cells #[.string yp,.int .i64 yk,.bool false,.int .i64 (0),.int .i64 ym,.int .i64 0,.int .u32 0,.int .u32 0,.int .u32 0,.int .u32 0,.int .u32 0,.int .u32 0,.int .u32 0,.int .u32 0,.int .u32 0,.int .u32 0,.int .u32 0,.int .u32 0,.int .u32 0,.int .u32 0,.int .u32 0,.int .u32 0,.int .i64 (0),.slice none 0 0,.string yt,.int .i64 0,.int .i64 0] 45 (0,0)))
              have HF7:=Lib.hid (hF6.out.ext X7.out)
              have HU:=Lib.hid (show HashU (W6.alloc (.cells #[.string yp,.int .i64 yk,.bool false,.int .i64 (0),.int .i64 ym,.int .i64 0,.int .u32 0,.int .u32 0,.int .u32 0,.int .u32 0,.int .u32 0,.int .u32 0,.int .u32 0,.int .u32 0,.int .u32 0,.int .u32 0,.int .u32 0,.int .u32 0,.int .u32 0,.int .u32 0,.int .u32 0,.int .u32 0,.int .i64 (0),.slice none 0 0,.string yt,.int .i64 0,.int .i64 0] 45 (0,0))) (w3.heap.size+1) [] (yp,⟨yk,yd,yt,ym⟩) (.slice none 0 0) from .inl ⟨hk,rfl⟩)
              have HUN:=Lib.hid (show ∀ b,(.slice none 0 0:Value).ownBlock=some b→∀ i,i<4→(vs i).ownBlock≠some b from fun b hb=>by simp [Value.ownBlock] at hb)
              have HIU:=Lib.hid (show itemU (yp,⟨yk,yd,yt,ym⟩) (.slice none 0 0)=[.string yp,.int .i64 yk,.bool false,.int .i64 (0),.int .i64 ym,.int .i64 0,.int .u32 0,.int .u32 0,.int .u32 0,.int .u32 0,.int .u32 0,.int .u32 0,.int .u32 0,.int .u32 0,.int .u32 0,.int .u32 0,.int .u32 0,.int .u32 0,.int .u32 0,.int .u32 0,.int .u32 0,.int .u32 0,.int .i64 (0),.slice none 0 0,.string yt,.int .i64 0,.int .i64 0] from by unfold itemU;rw [if_neg hk];rfl)
              gi_wp2_with (first
                | (refine wpListIn_load_row rfl 45 (.tmp 14) rfl W4.heap.size rfl 45 _ (0,0) _ HB6.out Tryz.underlying45 rfl HC1.out ?_;go_frame)
                | (refine wpListIn_append_k elRec (w3.heap.size+1) (.slice ra s.items.length rc) s.items.length (rowsU s.items us) (owns_ext HOW.out X7.out) W6.heap.size [.string yp,.int .i64 yk,.bool false,.int .i64 (0),.int .i64 ym,.int .i64 0,.int .u32 0,.int .u32 0,.int .u32 0,.int .u32 0,.int .u32 0,.int .u32 0,.int .u32 0,.int .u32 0,.int .u32 0,.int .u32 0,.int .u32 0,.int .u32 0,.int .u32 0,.int .u32 0,.int .u32 0,.int .u32 0,.int .i64 (0),.slice none 0 0,.string yt,.int .i64 0,.int .i64 0] rfl (.tmp 49) (.tmp 51) rfl rfl rfl rfl (fun j u hj=>(cellB (block_alloc_new W6 _)).trans (by simpa using hj)) (by simp [Value.oneCell']) (by omega) (by simp only [size_alloc];omega) ?_;intro v8 W8 ho8 hg8 hv8;obtain ⟨va,vc,hve⟩:=rowk_shape ho8;rw [hve] at ho8 hv8;rw [hve];have HO8:=Lib.hid ho8;have HG8:=Lib.hid hg8;have HV8:=Lib.hid hv8;clear ho8 hg8 hv8 hve;go_frame)
                | (refine wpListIn_store1 rfl _ _ _ rfl (w.heap.size+1) 0 (.slice va (s.items.length+1) vc) rfl rfl (by kernel_rfl) rfl #[vs 0,vs 1,vs 2,vs 3] 37 ((HG8.out.block (w.heap.size+1) (ltB HF7.out.blk) (fun e=>by have h1:=(hF6.out.below 0 (by decide) (w.heap.size+1) (by rw [show vs 0=_ from HRE.out];exact e.symm)).1;omega)).trans HF7.out.blk) (by show 0<4;decide) ?_;intro W9 hw9;have hg8:=HG8.out;have hv8:=HV8.out;rw [show Value.slice ra s.items.length rc=vs 0 from HRE.out.symm] at hg8 hv8;have ho8:=HO8.out;rw [←HIU.out] at ho8;have hF9:=HF7.out.addItem (yp,⟨yk,yd,yt,ym⟩) ho8 hg8 hv8 HU.out HUN.out;have hR9:=HF7.out.addR (nb:=w.heap.size) (j:=0) (by decide) hg8 hv8 (by omega) (by omega);rw [←hw9] at hF9 hR9;have HF9:=Lib.hid hF9;have HR9:=Lib.hid hR9;clear hw9 hg8 hv8 ho8 hF9 hR9;go_frame)
                | (refine wpListIn_store1 rfl _ _ _ rfl w3.heap.size 0 (.string ⟨#[]⟩) rfl rfl (by kernel_rfl) rfl _ _ HF9.out.over Nat.zero_lt_one ?_;intro W10 hw10;have HW10:=Lib.hid hw10;clear hw10;go_frame))
              have hF10:=HF9.out.setOver (nb:=w.heap.size) ⟨#[]⟩ (by omega)
              rw [←HW10.out] at hF10
              have hR10:=((hR6.out.trans (Rnd.ext X7.out (ltB hF6.out.blk) (Nat.le_trans hx2.out.size y26.out.size))).trans HR9.out).trans hF10.2
              have hfin:FoundIn (w3.heap.size+1) (w.heap.size+1) w3.heap.size (walkS ig (List.map clipW (pre++[x]))) W10 (fun i=>if i=0 then .slice va (s.items.length+1) vc else vs i) (us++[.slice none 0 0]):=by
                rw [HN.out,stepW_item (ig:=ig) (s:=s) (x:=(yp,⟨yk,yd,yt,ym⟩)) hsk.out htp hig hbd]
                exact hF10.1
              have hext:=Below.trans hx0.out hR10.kp.low
              have hkp5:=hR10.keep hF0W.out h50.out (by omega) (by omega) (by omega)
              exact ⟨hR10.ko.from _,hR10.kp,⟨_,_,⟨hfin,hext,hkp5⟩⟩⟩
            · obtain ⟨ua,uc,rfl⟩:=rowk_shape hu
              have hk1:yk=1:=hk
              clear hk
              subst hk1
              have hrw:=Lib.hid (hF6.out.row 0 (by decide))
              obtain ⟨ra,rc,hre⟩:=rowk_shape hrw.out
              have HRE:=Lib.hid hre
              have c6:W6.cell? ⟨w.heap.size+1,0,none⟩=some (.slice ra s.items.length rc):=(cellB hF6.out.blk).trans (by rw [←show vs 0=.slice ra s.items.length rc from hre];rfl)
              have HOW:=Lib.hid (show W6.ownsRow (w3.heap.size+1) 45 27 (.slice ra s.items.length rc) s.items.length (rowsU s.items us) from (show vs 0=.slice ra s.items.length rc from hre)▸hrw.out)
              have hln:s.items.length≤16384:=Nat.le_trans (rowOf_le s us 0 (by decide)) (Nat.le_of_lt htot)
              have h61:w3.heap.size+1≤W6.heap.size:=ltB hF6.out.over
              have hbd:badN ⟨1,yd,yt,ym⟩=false:=by unfold badN;rw [decide_eq_false (show ¬ 4096<yd.size from Nat.not_lt.2 h46)];simp
              clear hre hrw
              subst hC he
              unfold itemC at *
              dsimp only at *
              have X7:=Lib.hid ((Ext.refl W6).alloc (.cells #[.string yp,.int .i64 1,.bool false,.int .i64 ((yd.size:Nat)),.int .i64 ym,.int .i64 0,.int .u32 0,.int .u32 0,.int .u32 0,.int .u32 0,.int .u32 0,.int .u32 0,.int .u32 0,.int .u32 0,.int .u32 0,.int .u32 0,.int .u32 0,.int .u32 0,.int .u32 0,.int .u32 0,.int .u32 0,.int .u32 0,.int .i64 ((sizeN yd.size:Nat)),.slice ua (countN yd.size) uc,.string yt,.int .i64 0,.int .i64 0] 45 (0,0)))
              have HF7:=Lib.hid (hF6.out.ext X7.out)
              have HU:=Lib.hid (show HashU (W6.alloc (.cells #[.string yp,.int .i64 1,.bool false,.int .i64 ((yd.size:Nat)),.int .i64 ym,.int .i64 0,.int .u32 0,.int .u32 0,.int .u32 0,.int .u32 0,.int .u32 0,.int .u32 0,.int .u32 0,.int .u32 0,.int .u32 0,.int .u32 0,.int .u32 0,.int .u32 0,.int .u32 0,.int .u32 0,.int .u32 0,.int .u32 0,.int .i64 ((sizeN yd.size:Nat)),.slice ua (countN yd.size) uc,.string yt,.int .i64 0,.int .i64 0] 45 (0,0))) (w3.heap.size+1) [] (yp,⟨1,yd,yt,ym⟩) (.slice ua (countN yd.size) uc) from .inr ⟨rfl,h46,owns_down (owns_ext (owns_ext hu (HX5.out.trans y6.out)) X7.out) (by have:=ltB hF2.out.over;have:=y3.size;omega),fun b _=>by simp⟩)
              have HUN:=Lib.hid (show ∀ b,(.slice ua (countN yd.size) uc:Value).ownBlock=some b→∀ i,i<4→(vs i).ownBlock≠some b from fun b hb i hi e=>by have h1:=own_ge hu b hb;have h2:=(hF2.out.below i hi b e).2;have h3:=y3.size;omega)
              have HIU:=Lib.hid (show itemU (yp,⟨1,yd,yt,ym⟩) (.slice ua (countN yd.size) uc)=[.string yp,.int .i64 1,.bool false,.int .i64 ((yd.size:Nat)),.int .i64 ym,.int .i64 0,.int .u32 0,.int .u32 0,.int .u32 0,.int .u32 0,.int .u32 0,.int .u32 0,.int .u32 0,.int .u32 0,.int .u32 0,.int .u32 0,.int .u32 0,.int .u32 0,.int .u32 0,.int .u32 0,.int .u32 0,.int .u32 0,.int .i64 ((sizeN yd.size:Nat)),.slice ua (countN yd.size) uc,.string yt,.int .i64 0,.int .i64 0] from by unfold itemU;rw [if_pos rfl];rfl)
              gi_wp2_with (first
                | (refine wpListIn_load_row rfl 45 (.tmp 14) rfl W4.heap.size rfl 45 _ (0,0) _ HB6.out Tryz.underlying45 rfl HC1.out ?_;go_frame)
                | (refine wpListIn_append_k elRec (w3.heap.size+1) (.slice ra s.items.length rc) s.items.length (rowsU s.items us) (owns_ext HOW.out X7.out) W6.heap.size [.string yp,.int .i64 1,.bool false,.int .i64 ((yd.size:Nat)),.int .i64 ym,.int .i64 0,.int .u32 0,.int .u32 0,.int .u32 0,.int .u32 0,.int .u32 0,.int .u32 0,.int .u32 0,.int .u32 0,.int .u32 0,.int .u32 0,.int .u32 0,.int .u32 0,.int .u32 0,.int .u32 0,.int .u32 0,.int .u32 0,.int .i64 ((sizeN yd.size:Nat)),.slice ua (countN yd.size) uc,.string yt,.int .i64 0,.int .i64 0] rfl (.tmp 49) (.tmp 51) rfl rfl rfl rfl (fun j u hj=>(cellB (block_alloc_new W6 _)).trans (by simpa using hj)) (by simp [Value.oneCell']) (by omega) (by simp only [size_alloc];omega) ?_;intro v8 W8 ho8 hg8 hv8;obtain ⟨va,vc,hve⟩:=rowk_shape ho8;rw [hve] at ho8 hv8;rw [hve];have HO8:=Lib.hid ho8;have HG8:=Lib.hid hg8;have HV8:=Lib.hid hv8;clear ho8 hg8 hv8 hve;go_frame)
                | (refine wpListIn_store1 rfl _ _ _ rfl (w.heap.size+1) 0 (.slice va (s.items.length+1) vc) rfl rfl (by kernel_rfl) rfl #[vs 0,vs 1,vs 2,vs 3] 37 ((HG8.out.block (w.heap.size+1) (ltB HF7.out.blk) (fun e=>by have h1:=(hF6.out.below 0 (by decide) (w.heap.size+1) (by rw [show vs 0=_ from HRE.out];exact e.symm)).1;omega)).trans HF7.out.blk) (by show 0<4;decide) ?_;intro W9 hw9;have hg8:=HG8.out;have hv8:=HV8.out;rw [show Value.slice ra s.items.length rc=vs 0 from HRE.out.symm] at hg8 hv8;have ho8:=HO8.out;rw [←HIU.out] at ho8;have hF9:=HF7.out.addItem (yp,⟨1,yd,yt,ym⟩) ho8 hg8 hv8 HU.out HUN.out;have hR9:=HF7.out.addR (nb:=w.heap.size) (j:=0) (by decide) hg8 hv8 (by omega) (by omega);rw [←hw9] at hF9 hR9;have HF9:=Lib.hid hF9;have HR9:=Lib.hid hR9;clear hw9 hg8 hv8 ho8 hF9 hR9;go_frame)
                | (refine wpListIn_store1 rfl _ _ _ rfl w3.heap.size 0 (.string ⟨#[]⟩) rfl rfl (by kernel_rfl) rfl _ _ HF9.out.over Nat.zero_lt_one ?_;intro W10 hw10;have HW10:=Lib.hid hw10;clear hw10;go_frame))
              have hF10:=HF9.out.setOver (nb:=w.heap.size) ⟨#[]⟩ (by omega)
              rw [←HW10.out] at hF10
              have hR10:=((hR6.out.trans (Rnd.ext X7.out (ltB hF6.out.blk) (Nat.le_trans hx2.out.size y26.out.size))).trans HR9.out).trans hF10.2
              have hfin:FoundIn (w3.heap.size+1) (w.heap.size+1) w3.heap.size (walkS ig (List.map clipW (pre++[x]))) W10 (fun i=>if i=0 then .slice va (s.items.length+1) vc else vs i) (us++[.slice ua (countN yd.size) uc]):=by
                rw [HN.out,stepW_item (ig:=ig) (s:=s) (x:=(yp,⟨1,yd,yt,ym⟩)) hsk.out htp hig hbd]
                exact hF10.1
              have hext:=Below.trans hx0.out hR10.kp.low
              have hkp5:=hR10.keep hF0W.out h50.out (by omega) (by omega) (by omega)
              exact ⟨hR10.ko.from _,hR10.kp,⟨_,_,⟨hfin,hext,hkp5⟩⟩⟩
            · have hbd:badN ⟨yk,yd,yt,ym⟩=true:=by unfold badN;rw [decide_eq_true hk,decide_eq_true h46];rfl
              subst he
              clear hC
              have hrw:=Lib.hid (hF6.out.row 3 (by decide))
              obtain ⟨ra,rc,hre⟩:=rowk_shape hrw.out
              have HRE:=Lib.hid hre
              have c6:W6.cell? ⟨w.heap.size+1,3,none⟩=some (.slice ra s.bad.length rc):=(cellB hF6.out.blk).trans (by rw [←show vs 3=.slice ra s.bad.length rc from hre];rfl)
              have HOW:=Lib.hid (show W6.ownsRow (w3.heap.size+1) 9 1 (.slice ra s.bad.length rc) s.bad.length (s.bad.map Value.string) from (show vs 3=.slice ra s.bad.length rc from hre)▸hrw.out)
              have hln:s.bad.length≤16384:=Nat.le_trans (rowOf_le s us 3 (by decide)) (Nat.le_of_lt htot)
              have h61:w3.heap.size+1≤W6.heap.size:=ltB hF6.out.over
              clear hre hrw
              gi_wp2_with (first
                | (refine wpListIn_append_k elText (w3.heap.size+1) (.slice ra s.bad.length rc) s.bad.length (s.bad.map Value.string) (owns_ext HOW.out ((Ext.refl _).alloc _)) W6.heap.size [.string yp] rfl (.tmp 75) (.tmp 77) rfl rfl rfl rfl (fun j u hj=>(cellB (block_alloc_new W6 _)).trans (by simpa using hj)) (by simp [Value.oneCell']) (by omega) (by simp only [size_alloc];omega) ?_;intro v8 W8 ho8 hg8 hv8;obtain ⟨va,vc,hve⟩:=rowk_shape ho8;rw [hve] at ho8 hv8;rw [hve];have HO8:=Lib.hid ho8;have HG8:=Lib.hid hg8;have HV8:=Lib.hid hv8;clear ho8 hg8 hv8 hve;go_frame)
                | (refine wpListIn_store1 rfl _ _ _ rfl (w.heap.size+1) 3 (.slice va (s.bad.length+1) vc) rfl rfl (by kernel_rfl) rfl #[vs 0,vs 1,vs 2,vs 3] 37 ((HG8.out.block (w.heap.size+1) (ltB (hF6.out.ext ((Ext.refl _).alloc _)).blk) (fun e=>by have h1:=(hF6.out.below 3 (by decide) (w.heap.size+1) (by rw [show vs 3=_ from HRE.out];exact e.symm)).1;omega)).trans (hF6.out.ext ((Ext.refl _).alloc _)).blk) (by show 3<4;decide) ?_;intro W9 hw9;have HW9:=Lib.hid hw9;clear hw9;go_frame))
              have hg8:=HG8.out
              have hv8:=HV8.out
              rw [show Value.slice ra s.bad.length rc=vs 3 from HRE.out.symm] at hg8 hv8
              have hF7:=hF6.out.ext ((Ext.refl W6).alloc (.cells #[.string yp] 9 (0,0)))
              have hF9:=hF7.addText (j:=3) (by decide) (by decide) yp HO8.out hg8 hv8
              have hR9:=(hR6.out.trans (Rnd.ext ((Ext.refl W6).alloc (.cells #[.string yp] 9 (0,0))) (ltB hF6.out.blk) (Nat.le_trans hx2.out.size y26.out.size))).trans (hF7.addR (nb:=w.heap.size) (j:=3) (by decide) hg8 hv8 (by omega) (by omega))
              rw [←HW9.out] at hF9 hR9
              have hfin:FoundIn (w3.heap.size+1) (w.heap.size+1) w3.heap.size (walkS ig (List.map clipW (pre++[x]))) W9 (fun i=>if i=3 then .slice va (s.bad.length+1) vc else vs i) us:=by
                rw [HN.out,stepW_bad (ig:=ig) (s:=s) (x:=(yp,⟨yk,yd,yt,ym⟩)) hsk.out htp hig hbd]
                exact hF9
              have hext:=Below.trans hx0.out hR9.kp.low
              have hkp5:=hR9.keep hF0W.out h50.out (by omega) (by omega) (by omega)
              exact ⟨hR9.ko.from _,hR9.kp,⟨_,us,⟨hfin,hext,hkp5⟩⟩⟩
      | false =>
        have hne:decide (s.over=⟨#[]⟩)=false:=decide_eq_false fun e=>by
          rw [e,Lib.toList_data] at ho
          cases ho
        have HW9:=Lib.hid (within_any yp s.over W (by omega) (by have:=hsov;omega) (E.ext hx.out))
        cases hw:withinB yp s.over with
        | true =>
          rw [hw] at HW9
          gi_wp2
          refine ⟨trivial,(CallsIn.inRound l (callsIn_wide.2 HW9.out)).mono ?_⟩
          rintro e W1 ⟨rfl,y1⟩
          gi_wp2
          have hR1:=Rnd.ext (b9:=w3.heap.size) (nb:=w.heap.size) y1 (ltB hF.out.blk) hx.out.size
          have hfin:FoundIn (w3.heap.size+1) (w.heap.size+1) w3.heap.size (walkS ig (List.map clipW (pre++[x]))) W1 vs us:=by
            rw [HN.out,stepW_skip (ig:=ig) (s:=s) (x:=(yp,⟨yk,yd,yt,ym⟩)) (by rw [ho,hw];rfl)]
            exact hF.out.ext y1
          exact ⟨hR1.ko.from _,hR1.kp,⟨_,_,⟨hfin,hx.out.trans y1,(y1.block (ltB h5.out)).trans h5.out⟩⟩⟩
        | false =>
          rw [hw] at HW9
          have hsk:(!s.over.toList.isEmpty&&withinB yp s.over)=false:=by rw [ho,hw];rfl
          gi_wp2
          refine ⟨trivial,(CallsIn.inRound l (callsIn_wide.2 HW9.out)).mono ?_⟩
          rintro e W1 ⟨rfl,hy1⟩
          have y1:=Lib.hid hy1
          clear hy1 c9 f9 HW9
          have hsk:=Lib.hid hsk
          have hF1:=Lib.hid (hF.out.ext y1.out)
          have hR1:=Lib.hid (Rnd.ext (b9:=w3.heap.size) (nb:=w.heap.size) y1.out (ltB hF.out.blk) hx.out.size)
          have h51:=Lib.hid ((y1.out.block (ltB h5.out)).trans h5.out)
          have hg1:=Lib.hid ((y1.out.block (ltB hbg.out)).trans hbg.out)
          have hx1:=Lib.hid (hx.out.trans y1.out)
          have hF0W:=hF
          have h50:=h5
          have hx0:=hx
          clear hF h5 hbg y1 hx
          gi_wp2_with (refine wpListIn_store1 rfl _ _ _ rfl w3.heap.size 0 (.string yp) rfl rfl (by kernel_rfl) rfl _ _ hF1.out.over Nat.zero_lt_one ?_;intro W2 hw2;have HFR:=Lib.hid (hF1.out.setOver (nb:=w.heap.size) yp (by omega));rw [←hw2] at HFR;have hg2:=Lib.hid (show W2.heap[g]?=_ from (hw2▸setCellO (by omega)).trans hg1.out);have h52:=Lib.hid (HFR.out.2.keep hF1.out h51.out (by omega) (by omega) (by omega));have c5:W2.cell? ⟨w.heap.size,0,none⟩=some (.pointer lv):=cellB h52.out;have n0:W2.cell? ⟨g,0,none⟩=some (.int .i64 yk):=cellB hg2.out;have n1:W2.cell? ⟨g,1,none⟩=some (.string yd):=cellB hg2.out;have n2:W2.cell? ⟨g,2,none⟩=some (.string yt):=cellB hg2.out;have n3:W2.cell? ⟨g,3,none⟩=some (.int .i64 ym):=cellB hg2.out;clear hw2;go_frame)
          have hR2:=Lib.hid (hR1.out.trans HFR.out.2)
          have hx2:=Lib.hid (show Ext w W2 from Below.trans hx1.out HFR.out.2.kp.low)
          have hF2:=Lib.hid HFR.out.1
          clear HFR hF1 hR1 h51 hg1 hx1 n0 n1 n2 n3 c5
          refine ⟨trivial,(CallsIn.inRound l (callsIn_wide.2 (HL W2 yp hx2.out hp160))).mono ?_⟩
          rintro e W3 ⟨del,rfl,y3⟩
          have hg3:=(y3.block (ltB hg2.out)).trans hg2.out
          have n0:W3.cell? ⟨g,0,none⟩=some (.int .i64 yk):=cellB hg3
          have n1:W3.cell? ⟨g,1,none⟩=some (.string yd):=cellB hg3
          have n2:W3.cell? ⟨g,2,none⟩=some (.string yt):=cellB hg3
          have n3:W3.cell? ⟨g,3,none⟩=some (.int .i64 ym):=cellB hg3
          clear hg3
          gi_wp2
          refine ⟨trivial,(CallsIn.inRound l (callsIn_wide.2 (item_any yp ⟨yk,yd,yt,ym⟩ W3 (T.ext (hx2.out.trans y3)) hd20))).mono ?_⟩
          rintro e W4 ⟨C,er,rfl,h4⟩
          clear n0 n1 n2 n3
          obtain ⟨hs1,hs2⟩:=item_shape h4.out.1
          have HC1:=Lib.hid (show (Tryz.prog.info? 45).map (·.size)=some C.size from by rw [hs1];kernel_rfl)
          have HC2:=Lib.hid (show 27=C.size from hs1.symm)
          have HC3:=Lib.hid hs2
          clear hs1 hs2
          gi_wp2_with (refine wpListIn_storeT rfl _ _ _ rfl W4.heap.size C rfl rfl 45 _ (block_alloc_new W4 _) HC1.out HC2.out HC3.out ?_;intro W5 hb5 ht5;have HB5:=Lib.hid hb5;have HX5:=Lib.hid (ht5.fresh ((Ext.refl W4).alloc _) (Nat.le_refl _));clear hb5 ht5;go_frame)
          refine ⟨trivial,(CallsIn.inRound l (callsIn_wide.2 (isTemp_any yp W5 (by omega)))).mono ?_⟩
          rintro e W6 ⟨rfl,hdr⟩
          obtain ⟨nd,hdr⟩:=hdr
          have y6:=Lib.hid (show Ext W5 W6 from hdr▸(Ext.refl W5).drewN nd)
          clear hdr
          have HB6:=Lib.hid ((y6.out.block (ltB HB5.out)).trans HB5.out)
          have y26:=Lib.hid (((y3.trans h4.out.2).trans HX5.out).trans y6.out)
          have hF6:=Lib.hid (hF2.out.ext y26.out)
          have hR6:=Lib.hid (hR2.out.trans (Rnd.ext y26.out (ltB hF2.out.blk) hx2.out.size))
          cases htp:isTempB yp with
          | true =>
            have hrw:=Lib.hid (hF6.out.row 1 (by decide))
            obtain ⟨ra,rc,hre⟩:=rowk_shape hrw.out
            have HRE:=Lib.hid hre
            have c6:W6.cell? ⟨w.heap.size+1,1,none⟩=some (.slice ra s.temps.length rc):=(cellB hF6.out.blk).trans (by rw [←show vs 1=.slice ra s.temps.length rc from hre];rfl)
            have HOW:=Lib.hid (show W6.ownsRow (w3.heap.size+1) 9 1 (.slice ra s.temps.length rc) s.temps.length (s.temps.map Value.string) from (show vs 1=.slice ra s.temps.length rc from hre)▸hrw.out)
            have hln:s.temps.length≤16384:=Nat.le_trans (rowOf_le s us 1 (by decide)) (Nat.le_of_lt htot)
            have h61:w3.heap.size+1≤W6.heap.size:=ltB hF6.out.over
            clear hre hrw
            gi_wp2_with (first
              | (refine wpListIn_append_k elText (w3.heap.size+1) (.slice ra s.temps.length rc) s.temps.length (s.temps.map Value.string) (owns_ext HOW.out ((Ext.refl _).alloc _)) W6.heap.size [.string yp] rfl (.tmp 58) (.tmp 60) rfl rfl rfl rfl (fun j u hj=>(cellB (block_alloc_new W6 _)).trans (by simpa using hj)) (by simp [Value.oneCell']) (by omega) (by simp only [size_alloc];omega) ?_;intro v8 W8 ho8 hg8 hv8;obtain ⟨va,vc,hve⟩:=rowk_shape ho8;rw [hve] at ho8 hv8;rw [hve];have HO8:=Lib.hid ho8;have HG8:=Lib.hid hg8;have HV8:=Lib.hid hv8;clear ho8 hg8 hv8 hve;go_frame)
              | (refine wpListIn_store1 rfl _ _ _ rfl (w.heap.size+1) 1 (.slice va (s.temps.length+1) vc) rfl rfl (by kernel_rfl) rfl #[vs 0,vs 1,vs 2,vs 3] 37 ((HG8.out.block (w.heap.size+1) (ltB (hF6.out.ext ((Ext.refl _).alloc _)).blk) (fun e=>by have h1:=(hF6.out.below 1 (by decide) (w.heap.size+1) (by rw [show vs 1=_ from HRE.out];exact e.symm)).1;omega)).trans (hF6.out.ext ((Ext.refl _).alloc _)).blk) (by show 1<4;decide) ?_;intro W9 hw9;have HW9:=Lib.hid hw9;clear hw9;go_frame))
            have hg8:=HG8.out
            have hv8:=HV8.out
            rw [show Value.slice ra s.temps.length rc=vs 1 from HRE.out.symm] at hg8 hv8
            have hF7:=hF6.out.ext ((Ext.refl W6).alloc (.cells #[.string yp] 9 (0,0)))
            have hF9:=hF7.addText (j:=1) (by decide) (by decide) yp HO8.out hg8 hv8
            have hR9:=(hR6.out.trans (Rnd.ext ((Ext.refl W6).alloc (.cells #[.string yp] 9 (0,0))) (ltB hF6.out.blk) (Nat.le_trans hx2.out.size y26.out.size))).trans (hF7.addR (nb:=w.heap.size) (j:=1) (by decide) hg8 hv8 (by omega) (by omega))
            rw [←HW9.out] at hF9 hR9
            have hfin:FoundIn (w3.heap.size+1) (w.heap.size+1) w3.heap.size (walkS ig (List.map clipW (pre++[x]))) W9 (fun i=>if i=1 then .slice va (s.temps.length+1) vc else vs i) us:=by
              rw [HN.out,stepW_temp (ig:=ig) (s:=s) (x:=(yp,⟨yk,yd,yt,ym⟩)) hsk.out htp]
              exact hF9
            have hext:=Below.trans hx0.out hR9.kp.low
            have hkp5:=hR9.keep hF0W.out h50.out (by omega) (by omega) (by omega)
            exact ⟨hR9.ko.from _,hR9.kp,⟨_,us,⟨hfin,hext,hkp5⟩⟩⟩
          | false =>
            cases hig:ig yp with
            | true =>
              have hrw:=Lib.hid (hF6.out.row 2 (by decide))
              obtain ⟨ra,rc,hre⟩:=rowk_shape hrw.out
              have HRE:=Lib.hid hre
              have c6:W6.cell? ⟨w.heap.size+1,2,none⟩=some (.slice ra s.ign.length rc):=(cellB hF6.out.blk).trans (by rw [←show vs 2=.slice ra s.ign.length rc from hre];rfl)
              have HOW:=Lib.hid (show W6.ownsRow (w3.heap.size+1) 9 1 (.slice ra s.ign.length rc) s.ign.length (s.ign.map Value.string) from (show vs 2=.slice ra s.ign.length rc from hre)▸hrw.out)
              have hln:s.ign.length≤16384:=Nat.le_trans (rowOf_le s us 2 (by decide)) (Nat.le_of_lt htot)
              have h61:w3.heap.size+1≤W6.heap.size:=ltB hF6.out.over
              clear hre hrw
              gi_wp2_with (first
                | (refine wpListIn_append_k elText (w3.heap.size+1) (.slice ra s.ign.length rc) s.ign.length (s.ign.map Value.string) (owns_ext HOW.out ((Ext.refl _).alloc _)) W6.heap.size [.string yp] rfl (.tmp 66) (.tmp 68) rfl rfl rfl rfl (fun j u hj=>(cellB (block_alloc_new W6 _)).trans (by simpa using hj)) (by simp [Value.oneCell']) (by omega) (by simp only [size_alloc];omega) ?_;intro v8 W8 ho8 hg8 hv8;obtain ⟨va,vc,hve⟩:=rowk_shape ho8;rw [hve] at ho8 hv8;rw [hve];have HO8:=Lib.hid ho8;have HG8:=Lib.hid hg8;have HV8:=Lib.hid hv8;clear ho8 hg8 hv8 hve;go_frame)
                | (refine wpListIn_store1 rfl _ _ _ rfl (w.heap.size+1) 2 (.slice va (s.ign.length+1) vc) rfl rfl (by kernel_rfl) rfl #[vs 0,vs 1,vs 2,vs 3] 37 ((HG8.out.block (w.heap.size+1) (ltB (hF6.out.ext ((Ext.refl _).alloc _)).blk) (fun e=>by have h1:=(hF6.out.below 2 (by decide) (w.heap.size+1) (by rw [show vs 2=_ from HRE.out];exact e.symm)).1;omega)).trans (hF6.out.ext ((Ext.refl _).alloc _)).blk) (by show 2<4;decide) ?_;intro W9 hw9;have HW9:=Lib.hid hw9;clear hw9;go_frame))
              have hg8:=HG8.out
              have hv8:=HV8.out
              rw [show Value.slice ra s.ign.length rc=vs 2 from HRE.out.symm] at hg8 hv8
              have hF7:=hF6.out.ext ((Ext.refl W6).alloc (.cells #[.string yp] 9 (0,0)))
              have hF9:=hF7.addText (j:=2) (by decide) (by decide) yp HO8.out hg8 hv8
              have hR9:=(hR6.out.trans (Rnd.ext ((Ext.refl W6).alloc (.cells #[.string yp] 9 (0,0))) (ltB hF6.out.blk) (Nat.le_trans hx2.out.size y26.out.size))).trans (hF7.addR (nb:=w.heap.size) (j:=2) (by decide) hg8 hv8 (by omega) (by omega))
              rw [←HW9.out] at hF9 hR9
              have hfin:FoundIn (w3.heap.size+1) (w.heap.size+1) w3.heap.size (walkS ig (List.map clipW (pre++[x]))) W9 (fun i=>if i=2 then .slice va (s.ign.length+1) vc else vs i) us:=by
                rw [HN.out,stepW_ign (ig:=ig) (s:=s) (x:=(yp,⟨yk,yd,yt,ym⟩)) hsk.out htp hig]
                exact hF9
              have hext:=Below.trans hx0.out hR9.kp.low
              have hkp5:=hR9.keep hF0W.out h50.out (by omega) (by omega) (by omega)
              exact ⟨hR9.ko.from _,hR9.kp,⟨_,us,⟨hfin,hext,hkp5⟩⟩⟩
            | false =>
              rcases h4.out.1 with ⟨hk,hC,he⟩ | ⟨hk,h46,he,u,hC,hu⟩ | ⟨hk,h46,he,hC⟩
              · have hrw:=Lib.hid (hF6.out.row 0 (by decide))
                obtain ⟨ra,rc,hre⟩:=rowk_shape hrw.out
                have HRE:=Lib.hid hre
                have c6:W6.cell? ⟨w.heap.size+1,0,none⟩=some (.slice ra s.items.length rc):=(cellB hF6.out.blk).trans (by rw [←show vs 0=.slice ra s.items.length rc from hre];rfl)
                have HOW:=Lib.hid (show W6.ownsRow (w3.heap.size+1) 45 27 (.slice ra s.items.length rc) s.items.length (rowsU s.items us) from (show vs 0=.slice ra s.items.length rc from hre)▸hrw.out)
                have hln:s.items.length≤16384:=Nat.le_trans (rowOf_le s us 0 (by decide)) (Nat.le_of_lt htot)
                have h61:w3.heap.size+1≤W6.heap.size:=ltB hF6.out.over
                have hbd:badN ⟨yk,yd,yt,ym⟩=false:=by unfold badN;rw [decide_eq_false hk];rfl
                clear hre hrw
                subst hC he
                unfold itemC at *
                dsimp only at *
                have X7:=Lib.hid ((Ext.refl W6).alloc (.cells #[.string yp,.int .i64 yk,.bool false,.int .i64 (0),.int .i64 ym,.int .i64 0,.int .u32 0,.int .u32 0,.int .u32 0,.int .u32 0,.int .u32 0,.int .u32 0,.int .u32 0,.int .u32 0,.int .u32 0,.int .u32 0,.int .u32 0,.int .u32 0,.int .u32 0,.int .u32 0,.int .u32 0,.int .u32 0,.int .i64 (0),.slice none 0 0,.string yt,.int .i64 0,.int .i64 0] 45 (0,0)))
                have HF7:=Lib.hid (hF6.out.ext X7.out)
                have HU:=Lib.hid (show HashU (W6.alloc (.cells #[.string yp,.int .i64 yk,.bool false,.int .i64 (0),.int .i64 ym,.int .i64 0,.int .u32 0,.int .u32 0,.int .u32 0,.int .u32 0,.int .u32 0,.int .u32 0,.int .u32 0,.int .u32 0,.int .u32 0,.int .u32 0,.int .u32 0,.int .u32 0,.int .u32 0,.int .u32 0,.int .u32 0,.int .u32 0,.int .i64 (0),.slice none 0 0,.string yt,.int .i64 0,.int .i64 0] 45 (0,0))) (w3.heap.size+1) [] (yp,⟨yk,yd,yt,ym⟩) (.slice none 0 0) from .inl ⟨hk,rfl⟩)
                have HUN:=Lib.hid (show ∀ b,(.slice none 0 0:Value).ownBlock=some b→∀ i,i<4→(vs i).ownBlock≠some b from fun b hb=>by simp [Value.ownBlock] at hb)
                have HIU:=Lib.hid (show itemU (yp,⟨yk,yd,yt,ym⟩) (.slice none 0 0)=[.string yp,.int .i64 yk,.bool false,.int .i64 (0),.int .i64 ym,.int .i64 0,.int .u32 0,.int .u32 0,.int .u32 0,.int .u32 0,.int .u32 0,.int .u32 0,.int .u32 0,.int .u32 0,.int .u32 0,.int .u32 0,.int .u32 0,.int .u32 0,.int .u32 0,.int .u32 0,.int .u32 0,.int .u32 0,.int .i64 (0),.slice none 0 0,.string yt,.int .i64 0,.int .i64 0] from by unfold itemU;rw [if_neg hk];rfl)
                gi_wp2_with (first
                  | (refine wpListIn_load_row rfl 45 (.tmp 14) rfl W4.heap.size rfl 45 _ (0,0) _ HB6.out Tryz.underlying45 rfl HC1.out ?_;go_frame)
                  | (refine wpListIn_append_k elRec (w3.heap.size+1) (.slice ra s.items.length rc) s.items.length (rowsU s.items us) (owns_ext HOW.out X7.out) W6.heap.size [.string yp,.int .i64 yk,.bool false,.int .i64 (0),.int .i64 ym,.int .i64 0,.int .u32 0,.int .u32 0,.int .u32 0,.int .u32 0,.int .u32 0,.int .u32 0,.int .u32 0,.int .u32 0,.int .u32 0,.int .u32 0,.int .u32 0,.int .u32 0,.int .u32 0,.int .u32 0,.int .u32 0,.int .u32 0,.int .i64 (0),.slice none 0 0,.string yt,.int .i64 0,.int .i64 0] rfl (.tmp 49) (.tmp 51) rfl rfl rfl rfl (fun j u hj=>(cellB (block_alloc_new W6 _)).trans (by simpa using hj)) (by simp [Value.oneCell']) (by omega) (by simp only [size_alloc];omega) ?_;intro v8 W8 ho8 hg8 hv8;obtain ⟨va,vc,hve⟩:=rowk_shape ho8;rw [hve] at ho8 hv8;rw [hve];have HO8:=Lib.hid ho8;have HG8:=Lib.hid hg8;have HV8:=Lib.hid hv8;clear ho8 hg8 hv8 hve;go_frame)
                  | (refine wpListIn_store1 rfl _ _ _ rfl (w.heap.size+1) 0 (.slice va (s.items.length+1) vc) rfl rfl (by kernel_rfl) rfl #[vs 0,vs 1,vs 2,vs 3] 37 ((HG8.out.block (w.heap.size+1) (ltB HF7.out.blk) (fun e=>by have h1:=(hF6.out.below 0 (by decide) (w.heap.size+1) (by rw [show vs 0=_ from HRE.out];exact e.symm)).1;omega)).trans HF7.out.blk) (by show 0<4;decide) ?_;intro W9 hw9;have hg8:=HG8.out;have hv8:=HV8.out;rw [show Value.slice ra s.items.length rc=vs 0 from HRE.out.symm] at hg8 hv8;have ho8:=HO8.out;rw [←HIU.out] at ho8;have hF9:=HF7.out.addItem (yp,⟨yk,yd,yt,ym⟩) ho8 hg8 hv8 HU.out HUN.out;have hR9:=HF7.out.addR (nb:=w.heap.size) (j:=0) (by decide) hg8 hv8 (by omega) (by omega);rw [←hw9] at hF9 hR9;have HF9:=Lib.hid hF9;have HR9:=Lib.hid hR9;clear hw9 hg8 hv8 ho8 hF9 hR9;go_frame)
                  | (refine wpListIn_store1 rfl _ _ _ rfl w3.heap.size 0 (.string ⟨#[]⟩) rfl rfl (by kernel_rfl) rfl _ _ HF9.out.over Nat.zero_lt_one ?_;intro W10 hw10;have HW10:=Lib.hid hw10;clear hw10;go_frame))
                have hF10:=HF9.out.setOver (nb:=w.heap.size) ⟨#[]⟩ (by omega)
                rw [←HW10.out] at hF10
                have hR10:=((hR6.out.trans (Rnd.ext X7.out (ltB hF6.out.blk) (Nat.le_trans hx2.out.size y26.out.size))).trans HR9.out).trans hF10.2
                have hfin:FoundIn (w3.heap.size+1) (w.heap.size+1) w3.heap.size (walkS ig (List.map clipW (pre++[x]))) W10 (fun i=>if i=0 then .slice va (s.items.length+1) vc else vs i) (us++[.slice none 0 0]):=by
                  rw [HN.out,stepW_item (ig:=ig) (s:=s) (x:=(yp,⟨yk,yd,yt,ym⟩)) hsk.out htp hig hbd]
                  exact hF10.1
                have hext:=Below.trans hx0.out hR10.kp.low
                have hkp5:=hR10.keep hF0W.out h50.out (by omega) (by omega) (by omega)
                exact ⟨hR10.ko.from _,hR10.kp,⟨_,_,⟨hfin,hext,hkp5⟩⟩⟩
              · obtain ⟨ua,uc,rfl⟩:=rowk_shape hu
                have hk1:yk=1:=hk
                clear hk
                subst hk1
                have hrw:=Lib.hid (hF6.out.row 0 (by decide))
                obtain ⟨ra,rc,hre⟩:=rowk_shape hrw.out
                have HRE:=Lib.hid hre
                have c6:W6.cell? ⟨w.heap.size+1,0,none⟩=some (.slice ra s.items.length rc):=(cellB hF6.out.blk).trans (by rw [←show vs 0=.slice ra s.items.length rc from hre];rfl)
                have HOW:=Lib.hid (show W6.ownsRow (w3.heap.size+1) 45 27 (.slice ra s.items.length rc) s.items.length (rowsU s.items us) from (show vs 0=.slice ra s.items.length rc from hre)▸hrw.out)
                have hln:s.items.length≤16384:=Nat.le_trans (rowOf_le s us 0 (by decide)) (Nat.le_of_lt htot)
                have h61:w3.heap.size+1≤W6.heap.size:=ltB hF6.out.over
                have hbd:badN ⟨1,yd,yt,ym⟩=false:=by unfold badN;rw [decide_eq_false (show ¬ 4096<yd.size from Nat.not_lt.2 h46)];simp
                clear hre hrw
                subst hC he
                unfold itemC at *
                dsimp only at *
                have X7:=Lib.hid ((Ext.refl W6).alloc (.cells #[.string yp,.int .i64 1,.bool false,.int .i64 ((yd.size:Nat)),.int .i64 ym,.int .i64 0,.int .u32 0,.int .u32 0,.int .u32 0,.int .u32 0,.int .u32 0,.int .u32 0,.int .u32 0,.int .u32 0,.int .u32 0,.int .u32 0,.int .u32 0,.int .u32 0,.int .u32 0,.int .u32 0,.int .u32 0,.int .u32 0,.int .i64 ((sizeN yd.size:Nat)),.slice ua (countN yd.size) uc,.string yt,.int .i64 0,.int .i64 0] 45 (0,0)))
                have HF7:=Lib.hid (hF6.out.ext X7.out)
                have HU:=Lib.hid (show HashU (W6.alloc (.cells #[.string yp,.int .i64 1,.bool false,.int .i64 ((yd.size:Nat)),.int .i64 ym,.int .i64 0,.int .u32 0,.int .u32 0,.int .u32 0,.int .u32 0,.int .u32 0,.int .u32 0,.int .u32 0,.int .u32 0,.int .u32 0,.int .u32 0,.int .u32 0,.int .u32 0,.int .u32 0,.int .u32 0,.int .u32 0,.int .u32 0,.int .i64 ((sizeN yd.size:Nat)),.slice ua (countN yd.size) uc,.string yt,.int .i64 0,.int .i64 0] 45 (0,0))) (w3.heap.size+1) [] (yp,⟨1,yd,yt,ym⟩) (.slice ua (countN yd.size) uc) from .inr ⟨rfl,h46,owns_down (owns_ext (owns_ext hu (HX5.out.trans y6.out)) X7.out) (by have:=ltB hF2.out.over;have:=y3.size;omega),fun b _=>by simp⟩)
                have HUN:=Lib.hid (show ∀ b,(.slice ua (countN yd.size) uc:Value).ownBlock=some b→∀ i,i<4→(vs i).ownBlock≠some b from fun b hb i hi e=>by have h1:=own_ge hu b hb;have h2:=(hF2.out.below i hi b e).2;have h3:=y3.size;omega)
                have HIU:=Lib.hid (show itemU (yp,⟨1,yd,yt,ym⟩) (.slice ua (countN yd.size) uc)=[.string yp,.int .i64 1,.bool false,.int .i64 ((yd.size:Nat)),.int .i64 ym,.int .i64 0,.int .u32 0,.int .u32 0,.int .u32 0,.int .u32 0,.int .u32 0,.int .u32 0,.int .u32 0,.int .u32 0,.int .u32 0,.int .u32 0,.int .u32 0,.int .u32 0,.int .u32 0,.int .u32 0,.int .u32 0,.int .u32 0,.int .i64 ((sizeN yd.size:Nat)),.slice ua (countN yd.size) uc,.string yt,.int .i64 0,.int .i64 0] from by unfold itemU;rw [if_pos rfl];rfl)
                gi_wp2_with (first
                  | (refine wpListIn_load_row rfl 45 (.tmp 14) rfl W4.heap.size rfl 45 _ (0,0) _ HB6.out Tryz.underlying45 rfl HC1.out ?_;go_frame)
                  | (refine wpListIn_append_k elRec (w3.heap.size+1) (.slice ra s.items.length rc) s.items.length (rowsU s.items us) (owns_ext HOW.out X7.out) W6.heap.size [.string yp,.int .i64 1,.bool false,.int .i64 ((yd.size:Nat)),.int .i64 ym,.int .i64 0,.int .u32 0,.int .u32 0,.int .u32 0,.int .u32 0,.int .u32 0,.int .u32 0,.int .u32 0,.int .u32 0,.int .u32 0,.int .u32 0,.int .u32 0,.int .u32 0,.int .u32 0,.int .u32 0,.int .u32 0,.int .u32 0,.int .i64 ((sizeN yd.size:Nat)),.slice ua (countN yd.size) uc,.string yt,.int .i64 0,.int .i64 0] rfl (.tmp 49) (.tmp 51) rfl rfl rfl rfl (fun j u hj=>(cellB (block_alloc_new W6 _)).trans (by simpa using hj)) (by simp [Value.oneCell']) (by omega) (by simp only [size_alloc];omega) ?_;intro v8 W8 ho8 hg8 hv8;obtain ⟨va,vc,hve⟩:=rowk_shape ho8;rw [hve] at ho8 hv8;rw [hve];have HO8:=Lib.hid ho8;have HG8:=Lib.hid hg8;have HV8:=Lib.hid hv8;clear ho8 hg8 hv8 hve;go_frame)
                  | (refine wpListIn_store1 rfl _ _ _ rfl (w.heap.size+1) 0 (.slice va (s.items.length+1) vc) rfl rfl (by kernel_rfl) rfl #[vs 0,vs 1,vs 2,vs 3] 37 ((HG8.out.block (w.heap.size+1) (ltB HF7.out.blk) (fun e=>by have h1:=(hF6.out.below 0 (by decide) (w.heap.size+1) (by rw [show vs 0=_ from HRE.out];exact e.symm)).1;omega)).trans HF7.out.blk) (by show 0<4;decide) ?_;intro W9 hw9;have hg8:=HG8.out;have hv8:=HV8.out;rw [show Value.slice ra s.items.length rc=vs 0 from HRE.out.symm] at hg8 hv8;have ho8:=HO8.out;rw [←HIU.out] at ho8;have hF9:=HF7.out.addItem (yp,⟨1,yd,yt,ym⟩) ho8 hg8 hv8 HU.out HUN.out;have hR9:=HF7.out.addR (nb:=w.heap.size) (j:=0) (by decide) hg8 hv8 (by omega) (by omega);rw [←hw9] at hF9 hR9;have HF9:=Lib.hid hF9;have HR9:=Lib.hid hR9;clear hw9 hg8 hv8 ho8 hF9 hR9;go_frame)
                  | (refine wpListIn_store1 rfl _ _ _ rfl w3.heap.size 0 (.string ⟨#[]⟩) rfl rfl (by kernel_rfl) rfl _ _ HF9.out.over Nat.zero_lt_one ?_;intro W10 hw10;have HW10:=Lib.hid hw10;clear hw10;go_frame))
                have hF10:=HF9.out.setOver (nb:=w.heap.size) ⟨#[]⟩ (by omega)
                rw [←HW10.out] at hF10
                have hR10:=((hR6.out.trans (Rnd.ext X7.out (ltB hF6.out.blk) (Nat.le_trans hx2.out.size y26.out.size))).trans HR9.out).trans hF10.2
                have hfin:FoundIn (w3.heap.size+1) (w.heap.size+1) w3.heap.size (walkS ig (List.map clipW (pre++[x]))) W10 (fun i=>if i=0 then .slice va (s.items.length+1) vc else vs i) (us++[.slice ua (countN yd.size) uc]):=by
                  rw [HN.out,stepW_item (ig:=ig) (s:=s) (x:=(yp,⟨1,yd,yt,ym⟩)) hsk.out htp hig hbd]
                  exact hF10.1
                have hext:=Below.trans hx0.out hR10.kp.low
                have hkp5:=hR10.keep hF0W.out h50.out (by omega) (by omega) (by omega)
                exact ⟨hR10.ko.from _,hR10.kp,⟨_,_,⟨hfin,hext,hkp5⟩⟩⟩
              · have hbd:badN ⟨yk,yd,yt,ym⟩=true:=by unfold badN;rw [decide_eq_true hk,decide_eq_true h46];rfl
                subst he
                clear hC
                have hrw:=Lib.hid (hF6.out.row 3 (by decide))
                obtain ⟨ra,rc,hre⟩:=rowk_shape hrw.out
                have HRE:=Lib.hid hre
                have c6:W6.cell? ⟨w.heap.size+1,3,none⟩=some (.slice ra s.bad.length rc):=(cellB hF6.out.blk).trans (by rw [←show vs 3=.slice ra s.bad.length rc from hre];rfl)
                have HOW:=Lib.hid (show W6.ownsRow (w3.heap.size+1) 9 1 (.slice ra s.bad.length rc) s.bad.length (s.bad.map Value.string) from (show vs 3=.slice ra s.bad.length rc from hre)▸hrw.out)
                have hln:s.bad.length≤16384:=Nat.le_trans (rowOf_le s us 3 (by decide)) (Nat.le_of_lt htot)
                have h61:w3.heap.size+1≤W6.heap.size:=ltB hF6.out.over
                clear hre hrw
                gi_wp2_with (first
                  | (refine wpListIn_append_k elText (w3.heap.size+1) (.slice ra s.bad.length rc) s.bad.length (s.bad.map Value.string) (owns_ext HOW.out ((Ext.refl _).alloc _)) W6.heap.size [.string yp] rfl (.tmp 75) (.tmp 77) rfl rfl rfl rfl (fun j u hj=>(cellB (block_alloc_new W6 _)).trans (by simpa using hj)) (by simp [Value.oneCell']) (by omega) (by simp only [size_alloc];omega) ?_;intro v8 W8 ho8 hg8 hv8;obtain ⟨va,vc,hve⟩:=rowk_shape ho8;rw [hve] at ho8 hv8;rw [hve];have HO8:=Lib.hid ho8;have HG8:=Lib.hid hg8;have HV8:=Lib.hid hv8;clear ho8 hg8 hv8 hve;go_frame)
                  | (refine wpListIn_store1 rfl _ _ _ rfl (w.heap.size+1) 3 (.slice va (s.bad.length+1) vc) rfl rfl (by kernel_rfl) rfl #[vs 0,vs 1,vs 2,vs 3] 37 ((HG8.out.block (w.heap.size+1) (ltB (hF6.out.ext ((Ext.refl _).alloc _)).blk) (fun e=>by have h1:=(hF6.out.below 3 (by decide) (w.heap.size+1) (by rw [show vs 3=_ from HRE.out];exact e.symm)).1;omega)).trans (hF6.out.ext ((Ext.refl _).alloc _)).blk) (by show 3<4;decide) ?_;intro W9 hw9;have HW9:=Lib.hid hw9;clear hw9;go_frame))
                have hg8:=HG8.out
                have hv8:=HV8.out
                rw [show Value.slice ra s.bad.length rc=vs 3 from HRE.out.symm] at hg8 hv8
                have hF7:=hF6.out.ext ((Ext.refl W6).alloc (.cells #[.string yp] 9 (0,0)))
                have hF9:=hF7.addText (j:=3) (by decide) (by decide) yp HO8.out hg8 hv8
                have hR9:=(hR6.out.trans (Rnd.ext ((Ext.refl W6).alloc (.cells #[.string yp] 9 (0,0))) (ltB hF6.out.blk) (Nat.le_trans hx2.out.size y26.out.size))).trans (hF7.addR (nb:=w.heap.size) (j:=3) (by decide) hg8 hv8 (by omega) (by omega))
                rw [←HW9.out] at hF9 hR9
                have hfin:FoundIn (w3.heap.size+1) (w.heap.size+1) w3.heap.size (walkS ig (List.map clipW (pre++[x]))) W9 (fun i=>if i=3 then .slice va (s.bad.length+1) vc else vs i) us:=by
                  rw [HN.out,stepW_bad (ig:=ig) (s:=s) (x:=(yp,⟨yk,yd,yt,ym⟩)) hsk.out htp hig hbd]
                  exact hF9
                have hext:=Below.trans hx0.out hR9.kp.low
                have hkp5:=hR9.keep hF0W.out h50.out (by omega) (by omega) (by omega)
                exact ⟨hR9.ko.from _,hR9.kp,⟨_,us,⟨hfin,hext,hkp5⟩⟩⟩
    case done =>
      rintro Dd xs W hDd hS ⟨vs,us,hF,hx,h5⟩ hK
      have hF:=Lib.hid hF
      have hx:=Lib.hid hx
      have hK:=Lib.hid hK
      have hst:walkS ig (xs.map clipW)=walkS ig (eachL D root):=by rw [show xs=eachL D root from hS,clip_each R root]
      rw [hst] at hF
      clear h5 hst
      have HV1:=Lib.hid (show (Tryz.prog.info? 37).map (·.size)=some (#[vs 0,vs 1,vs 2,vs 3]:Array Value).size from by kernel_rfl)
      have HV3:=Lib.hid (show (#[vs 0,vs 1,vs 2,vs 3]:Array Value).all (·.oneCell')=true from by
        obtain ⟨a0,c0,e0⟩:=rowk_shape (hF.out.row 0 (by decide))
        obtain ⟨a1,c1,e1⟩:=rowk_shape (hF.out.row 1 (by decide))
        obtain ⟨a2,c2,e2⟩:=rowk_shape (hF.out.row 2 (by decide))
        obtain ⟨a3,c3,e3⟩:=rowk_shape (hF.out.row 3 (by decide))
        rw [e0,e1,e2,e3]
        simp [Value.oneCell'])
      gi_wp2_with (first
        | (refine wpListIn_load_row rfl 37 (.tmp 6) rfl (w.heap.size+1) rfl 37 _ (0,0) _ hF.out.blk Tryz.underlying37 rfl HV1.out ?_;go_frame)
        | (refine wpListIn_storeT rfl _ _ _ rfl (w.heap.size+1) #[vs 0,vs 1,vs 2,vs 3] rfl rfl 37 _ hF.out.blk HV1.out rfl HV3.out ?_;intro W6 hb6 ht6;have HB6':=Lib.hid hb6;have HT6:=Lib.hid ht6;clear hb6 ht6;go_frame))
      have hDne:Dd≠w.heap.size+1:=by have:=ltB hb6.out;omega
      have hK6:W6.heap[Dd]?=some (.deferred (some [])):=(HT6.out.block Dd (ltB hK.out) (fun e=>hDne (Option.some.inj e))).trans hK.out
      have hB7:(W6.putObj Dd (.deferred none)).heap[w.heap.size+1]?=some (.cells #[vs 0,vs 1,vs 2,vs 3] 37 (0,0)):=(World.putObj_heap_other (fun e=>hDne e.symm)).trans HB6'.out
      have hk7:∀ b c t f,W.heap[b]?=some (Obj.cells c t f)→b≠w.heap.size+1→(W6.putObj Dd (.deferred none)).heap[b]?=W.heap[b]?:=fun b c t f hc hne =>
        (World.putObj_heap_other (fun e=>by rw [e,hK.out] at hc;cases hc)).trans (HT6.out.block b (ltB hc) (fun e=>hne (Option.some.inj e)))
      have hrow:∀ {e:TypeId} {m n:Nat} {v:Value} {ys:List Value},W.ownsRow (w3.heap.size+1) e m v n ys→∀ b,v.ownBlock=some b→(W6.putObj Dd (.deferred none)).heap[b]?=W.heap[b]?:=fun {e m n v ys} ho b hb=>by
        rcases ho.2 with ⟨he,_⟩ | ⟨g,cap,cur,he,hbase,hh,_⟩
        · rw [he] at hb;simp [Value.ownBlock] at hb
        · rw [he] at hb
          simp [Value.ownBlock] at hb
          subst hb
          exact hk7 g _ _ _ hh (by omega)
      refine ⟨by simp,.inl ⟨_,_,rfl,run_takeDeferred hK6,?_⟩⟩
      refine ⟨_,results_row1 rfl _ _ (w.heap.size+1) 37 _ (0,0) _ rfl hB7 Tryz.underlying37 rfl HV1.out,_,by rw [hroot];rfl,⟨⟨vs,us,rfl,fun j hj=>?_,hF.out.len,fun k x u hx1 hu1=>?_⟩,?_⟩⟩
      · exact owns_down (owns_blocks (hF.out.row j hj) (hrow (hF.out.row j hj))) (by omega)
      · rcases hF.out.hs k x u hx1 hu1 with h1 | ⟨h1,h2,h3,h4⟩
        · exact .inl h1
        · exact .inr ⟨h1,h2,owns_down (owns_blocks h3 (hrow h3)) (by omega),h4⟩
      · have x6:=HT6.out.fresh hx.out (by omega)
        exact x6.grown (grownBy_putObj' W6 Dd _) x6.size fun k e=>by
          have:=Option.some.inj e
          have:=XX.out.size
          omega
  · have hel:eachL D root=[]:=by unfold eachL;rw [if_neg hroot]
    have hne:decide (rootE D.live root=0)=false:=decide_eq_false hroot
    rw [hel]
    generalize rootE D.live root=RE at *
    gi_wp2
    refine ⟨trivial,(callsIn_wide.2 HRt.out).mono ?_⟩
    rintro e w3 ⟨rfl,x3⟩
    have HB6:=Lib.hid ((x3.block (ltB HZ1.out)).trans HZ1.out)
    have X3:=Lib.hid (HX2.out.trans x3)
    gi_wp2_with (refine wpListIn_storeT rfl _ _ _ rfl (w.heap.size+1) found0 rfl rfl 37 _ HB6.out HA1.out rfl HA3.out ?_;intro W6 hb6 ht6;have HB6':=Lib.hid hb6;have HT6:=Lib.hid ht6;clear hb6 ht6;go_frame)
    exact ⟨_,results_row1 rfl _ _ (w.heap.size+1) 37 _ (0,0) _ rfl HB6'.out Tryz.underlying37 rfl HA1.out,_,rfl,⟨FoundC.nothing _ _,HT6.out.fresh X3.out (by omega)⟩⟩
end Go.Proofs.YtodickpibbbiiaaGreatDoor

namespace Go.Proofs.YtodickpibbbiiaaGreatDoor
open Go.RowKit

def howN (l:List ByteArray) (p:ByteArray):Nat:=l.countP fun q=>decide (q=p)||withinB p q
def goneB (ig:ByteArray→Bool) (l:Nodes) (y:ByteArray×Nd):Bool:=!covB ig l y.1&&whyB ig y
def foundB2 (ig:ByteArray→Bool) (l:Nodes) (y:ByteArray×Nd):Bool:=!covB ig l y.1&&!whyB ig y

theorem count_none {α:Type} {l:List α} {T:α→Bool} (h:∀ y∈l,T y=false):l.countP T=0:=by
  rw [List.countP_eq_zero]
  intro y hy
  rw [h y hy];simp
theorem count_one {l:Nodes} {T:ByteArray×Nd→Bool} (hs:Sorted l) (hex:∃ y∈l,T y=true) (hun:∀ y∈l,∀ z∈l,T y=true→T z=true→y.1=z.1):l.countP T=1:=by
  induction l with
  | nil=>obtain ⟨y,hy,_⟩:=hex;cases hy
  | cons x r ih =>
    obtain ⟨h1,h2⟩:=List.pairwise_cons.1 hs
    rw [List.countP_cons]
    cases hx:T x with
    | true =>
      rw [count_none fun y hy=>?_]
      · rfl
      · cases hy':T y with
        | false=>rfl
        | true =>
          have h3:=h1 y hy
          rw [hun x (by simp) y (by simp [hy]) hx hy',cmpL_self] at h3
          cases h3
    | false =>
      obtain ⟨y,hy,hy'⟩:=hex
      rcases List.mem_cons.1 hy with rfl | hy
      · rw [hx] at hy';cases hy'
      · rw [ih h2 ⟨y,hy,hy'⟩ fun y hy z hz=>hun y (by simp [hy]) z (by simp [hz])]
        simp
theorem Tidy.same {l:Nodes} (h:Tidy l) {x y:ByteArray×Nd} (hx:x∈l) (hy:y∈l) (e:x.1=y.1):x=y:=by
  obtain ⟨a,b,rfl⟩:=List.append_of_mem hx
  obtain ⟨h1,h2⟩:=h.less rfl
  rcases List.mem_append.1 hy with hy | hy
  · have:=h1 y hy
    rw [e,cmpL_self] at this
    cases this
  · rcases List.mem_cons.1 hy with rfl | hy
    · rfl
    · have:=h2 y hy
      rw [e,cmpL_self] at this
      cases this
theorem top_of {ig:ByteArray→Bool} {l:Nodes} (h:Tidy l) {p:ByteArray}:∀ (n:Nat) (y:ByteArray×Nd),y.1.size≤n→y∈l→whyB ig y=true→withinB p y.1=true→∃ z∈l,whyB ig z=true∧withinB p z.1=true∧covB ig l z.1=false:=by
  intro n
  induction n with
  | zero =>
    intro y hn hy hw hp
    refine ⟨y,hy,hw,hp,?_⟩
    cases hc:covB ig l y.1 with
    | false=>rfl
    | true =>
      obtain ⟨z,hz,h1,_⟩:=covB_mem.1 hc
      have:=within_more (h.may z hz) h1
      omega
  | succ n ih =>
    intro y hn hy hw hp
    cases hc:covB ig l y.1 with
    | false=>exact ⟨y,hy,hw,hp,hc⟩
    | true =>
      obtain ⟨z,hz,h1,h2⟩:=covB_mem.1 hc
      have:=within_more (h.may z hz) h1
      exact ih z (by omega) hz h2 (within_trans (h.may y hy) (h.may z hz) hp h1)
theorem countP_split {α:Type} (l:List α) (p q r:α→Bool) (h:∀ x∈l,p x=(q x||r x)) (hd:∀ x∈l,q x=true→r x=false):l.countP p=l.countP q+l.countP r:=by
  induction l with
  | nil=>rfl
  | cons x t ih =>
    rw [List.countP_cons,List.countP_cons,List.countP_cons,ih (fun y hy=>h y (by simp [hy])) (fun y hy=>hd y (by simp [hy])),h x (by simp)]
    cases hq:q x with
    | true=>rw [hd x (by simp) hq];simp;omega
    | false=>cases r x <;> simp <;> omega
theorem howN_map (l:Nodes) (f:ByteArray×Nd→Bool) (p:ByteArray):howN ((l.filter f).map (·.1)) p=l.countP fun y=>f y&&(decide (y.1=p)||withinB p y.1):=by
  unfold howN
  rw [List.countP_map,List.countP_filter]
  congr 1
  funext y
  simp [Bool.and_comm]
theorem all_once (ig:ByteArray→Bool) {l:Nodes} (h:Tidy l) {x:ByteArray×Nd} (hx:x∈l) :
    (walkS ig l).items.countP (fun y=>decide (y.1=x.1))+howN (walkS ig l).temps x.1+howN (walkS ig l).ign x.1+howN (walkS ig l).bad x.1=1:=by
  have k:=walkS_is ig h
  rw [k.items,k.temps,k.ign,k.bad,howN_map,howN_map,howN_map,List.countP_filter]
  have key:l.countP (fun y=>(foundB2 ig l y&&decide (y.1=x.1))||(goneB ig l y&&(decide (y.1=x.1)||withinB x.1 y.1)))=1:=by
    refine count_one h.sorted ?_ ?_
    · cases hc:covB ig l x.1 with
      | true =>
        obtain ⟨y,hy,h1,h2⟩:=covB_mem.1 hc
        obtain ⟨z,hz,h3,h4,h5⟩:=top_of h _ y (Nat.le_refl _) hy h2 h1
        exact ⟨z,hz,by unfold goneB;rw [h3,h4,h5];simp⟩
      | false =>
        refine ⟨x,hx,?_⟩
        cases hw:whyB ig x <;> simp [foundB2,goneB,hc,hw]
    · intro y hy z hz
      have one:∀ y z:ByteArray×Nd,y∈l→z∈l→y.1=x.1→covB ig l y.1=false→whyB ig z=true→withinB x.1 z.1=true→False:=fun y z hy hz e hc hw hp=>by
        rw [e,covB_mem.2 ⟨z,hz,hp,hw⟩] at hc
        cases hc
      have two:∀ y z:ByteArray×Nd,y∈l→z∈l→covB ig l y.1=false→whyB ig z=true→withinB y.1 z.1=true→False:=fun y z hy hz hc hw hp=>by
        rw [covB_mem.2 ⟨z,hz,hp,hw⟩] at hc
        cases hc
      simp only [foundB2,goneB,Bool.or_eq_true,Bool.and_eq_true,decide_eq_true_eq,Bool.not_eq_true']
      rintro (⟨⟨a1,a2⟩,a3⟩ | ⟨⟨a1,a2⟩,a3 | a3⟩) (⟨⟨b1,b2⟩,b3⟩ | ⟨⟨b1,b2⟩,b3 | b3⟩)
      · exact a3.trans b3.symm
      · exact a3.trans b3.symm
      · exact (one y z hy hz a3 a1 b2 b3).elim
      · exact a3.trans b3.symm
      · exact a3.trans b3.symm
      · exact (one y z hy hz a3 a1 b2 b3).elim
      · exact (one z y hz hy b3 b1 a2 a3).elim
      · exact (one z y hz hy b3 b1 a2 a3).elim
      · rcases within_both (h.may y hy) (h.may z hz) a3 b3 with e | e | e
        · exact e
        · exact (two y z hy hz a1 b2 e).elim
        · exact (two z y hz hy b1 a2 e).elim
  rw [countP_split l _ (fun y=>foundB2 ig l y&&decide (y.1=x.1)) (fun y=>goneB ig l y&&(decide (y.1=x.1)||withinB x.1 y.1)) (fun _ _=>rfl) (fun y _ h1=>by
    unfold foundB2 at h1
    unfold goneB
    cases hw:whyB ig y with
    | true=>rw [hw] at h1;simp at h1
    | false=>simp)] at key
  rw [countP_split l (fun y=>goneB ig l y&&(decide (y.1=x.1)||withinB x.1 y.1)) (fun y=>(!covB ig l y.1&&isTempB y.1)&&(decide (y.1=x.1)||withinB x.1 y.1)) (fun y=>(!covB ig l y.1&&(!isTempB y.1&&(ig y.1||badN y.2)))&&(decide (y.1=x.1)||withinB x.1 y.1)) (fun y _=>by
      unfold goneB whyB
      cases covB ig l y.1 <;> cases isTempB y.1 <;> cases ig y.1 <;> cases badN y.2 <;> cases (decide (y.1=x.1)||withinB x.1 y.1) <;> rfl) (fun y _=>by
      cases covB ig l y.1 <;> cases isTempB y.1 <;> simp),
    countP_split l (fun y=>(!covB ig l y.1&&(!isTempB y.1&&(ig y.1||badN y.2)))&&(decide (y.1=x.1)||withinB x.1 y.1)) (fun y=>(!covB ig l y.1&&(!isTempB y.1&&ig y.1))&&(decide (y.1=x.1)||withinB x.1 y.1)) (fun y=>(!covB ig l y.1&&(!isTempB y.1&&!ig y.1&&badN y.2))&&(decide (y.1=x.1)||withinB x.1 y.1)) (fun y _=>by
      cases covB ig l y.1 <;> cases isTempB y.1 <;> cases ig y.1 <;> cases badN y.2 <;> cases (decide (y.1=x.1)||withinB x.1 y.1) <;> rfl) (fun y _=>by
      cases covB ig l y.1 <;> cases isTempB y.1 <;> cases ig y.1 <;> simp)] at key
  have e1:(fun y:ByteArray×Nd=>decide (y.1=x.1)&&(!covB ig l y.1&&!whyB ig y))=fun y=>foundB2 ig l y&&decide (y.1=x.1):=by
    funext y;unfold foundB2;rw [Bool.and_comm]
  rw [e1]
  omega
theorem home_item (ig:ByteArray→Bool) {l:Nodes} (h:Tidy l) (hh:∀ x∈l,(parentS x.1).toList.isEmpty=true∨∃ y∈l,y.1=parentS x.1∧y.2.kind=2∧withinB x.1 y.1=true) {a b:Nodes} {x:ByteArray×Nd} (e:(walkS ig l).items=a++x::b) :
    (parentS x.1).toList.isEmpty=true∨∃ y∈a,y.1=parentS x.1∧y.2.kind=2:=by
  have k:=walkS_is ig h
  have hx:x∈(walkS ig l).items:=by rw [e];simp
  rw [k.items,List.mem_filter] at hx
  obtain ⟨hxl,hxf⟩:=hx
  simp only [Bool.and_eq_true,Bool.not_eq_true'] at hxf
  rcases hh x hxl with h1 | ⟨y,hy,h1,h2,h3⟩
  · exact .inl h1
  · refine .inr ⟨y,?_,h1,h2⟩
    have hyf:y∈(walkS ig l).items:=by
      rw [k.items,List.mem_filter]
      refine ⟨hy,?_⟩
      have e1:covB ig l y.1=false:=by
        cases hc:covB ig l y.1 with
        | false=>rfl
        | true =>
          obtain ⟨z,hz,g1,g2⟩:=covB_mem.1 hc
          rw [covB_mem.2 ⟨z,hz,within_trans (h.may y hy) (h.may z hz) h3 g1,g2⟩] at hxf
          cases hxf.1
      have e2:whyB ig y=false:=by
        cases hc:whyB ig y with
        | false=>rfl
        | true =>
          rw [covB_mem.2 ⟨y,hy,h3,hc⟩] at hxf
          cases hxf.1
      rw [e1,e2];rfl
    have hsi:Sorted (walkS ig l).items:=by
      rw [k.items]
      exact List.Pairwise.filter _ h.sorted
    rw [e] at hyf hsi
    rcases List.mem_append.1 hyf with h4 | h4
    · exact h4
    · have hlt:=behind_less y.1 x.1 (h.may y hy) h3
      rcases List.mem_cons.1 h4 with rfl | h4
      · rw [cmpL_self] at hlt;cases hlt
      · have:=(List.pairwise_cons.1 (List.pairwise_append.1 hsi).2.1).1 y h4
        have h5:=cmpL_anti y.1.toList x.1.toList
        rw [this,hlt] at h5
        cases h5
end Go.Proofs.YtodickpibbbiiaaGreatDoor

namespace Go.Proofs.YtodickpibbbiiaaGreatDoor
open Go.RowKit

theorem itemU_len (x:ByteArray×Nd) (u:Value):(itemU x u).length=27:=by
  unfold itemU
  split <;> rfl
theorem rowsU_get:∀ (l:Nodes) (us:List Value) (k j:Nat) (x:ByteArray×Nd) (u:Value),l[k]?=some x→us[k]?=some u→j<27→(rowsU l us)[k*27+j]?=(itemU x u)[j]?:=by
  intro l
  induction l with
  | nil=>intro us k j x u h;simp at h
  | cons y r ih =>
    intro us k j x u h hu hj
    cases us with
    | nil=>simp at hu
    | cons v us =>
      show (itemU y v++rowsU r us)[k*27+j]?=_
      cases k with
      | zero =>
        cases h
        cases hu
        rw [Nat.zero_mul,Nat.zero_add,List.getElem?_append_left (by rw [itemU_len];exact hj)]
      | succ k =>
        rw [List.getElem?_append_right (by rw [itemU_len];omega),itemU_len]
        have h1:r[k]?=some x:=by simpa using h
        have h2:us[k]?=some u:=by simpa using hu
        rw [show (k+1)*27+j - 27=k*27+j from by omega]
        exact ih us k j x u h1 h2 hj
def ItemsAt (w:World) (v:Value) (l:Nodes):Prop :=
  ∃ (a:Option Addr) (cap:Nat),v=.slice a l.length cap∧l.length≤cap∧cap≤9223372036854775807∧∀ (k:Nat) x,l[k]?=some x→∃ g u,a=some ⟨g,0,none⟩∧HashU w 0 [] x u∧∀ (j:Nat) y,(itemU x u)[j]?=some y→w.cell? ⟨g,k*27+j,none⟩=some y
theorem row_cells {w:World} {base m n:Nat} {e:TypeId} {v:Value} {xs:List Value} (h:w.ownsRow base e m v n xs):∃ (a:Option Addr) (cap:Nat),v=.slice a n cap∧n≤cap∧cap≤9223372036854775807∧(a=none→n=0∧cap=0)∧∀ (k:Nat) x,xs[k]?=some x→∃ g,a=some ⟨g,0,none⟩∧base≤g∧g<w.heap.size∧w.cell? ⟨g,k,none⟩=some x:=by
  rcases h.2 with ⟨rfl,rfl⟩ | ⟨g,cap,cur,rfl,hb,hh,h1,h2,h3,h4⟩
  · refine ⟨none,0,rfl,by omega,by omega,fun _=>⟨rfl,rfl⟩,fun k x hx=>?_⟩
    have h1:=(List.getElem?_eq_some_iff.1 hx).1
    rw [h.1,Nat.zero_mul] at h1
    omega
  · refine ⟨_,cap,rfl,h1,h2,fun e=>(by cases e),fun k x hx=>⟨g,rfl,hb,ltB hh,?_⟩⟩
    refine (cellB hh).trans ?_
    rw [←h4] at hx
    rw [List.getElem?_take] at hx
    split at hx
    · rw [←Array.getElem?_toList]
      exact hx
    · cases hx
theorem FoundC.items {base:Nat} {w:World} {s:WSt} {C:Array Value} (h:FoundC base w s C):∃ v0 v1 v2 v3,C=#[v0,v1,v2,v3]∧ItemsAt w v0 s.items∧TextsOwn w v1 s.temps∧TextsOwn w v2 s.ign∧TextsOwn w v3 s.bad:=by
  obtain ⟨vs,us,rfl,hr,hl,hh⟩:=h
  refine ⟨vs 0,vs 1,vs 2,vs 3,rfl,?_,TextsOwn.of (hr 1 (by decide)) rfl,TextsOwn.of (hr 2 (by decide)) rfl,TextsOwn.of (hr 3 (by decide)) rfl⟩
  obtain ⟨a,cap,e,h1,h2,_,h3⟩:=row_cells (hr 0 (by decide))
  refine ⟨a,cap,e,h1,h2,fun k x hx=>?_⟩
  have hk:k<us.length:=by rw [hl];exact (List.getElem?_eq_some_iff.1 hx).1
  have hu:us[k]?=some us[k]:=List.getElem?_eq_getElem hk
  have h0:(itemU x us[k])[0]?=some (.string x.1):=by unfold itemU;split <;> rfl
  obtain ⟨g,rfl,_⟩:=h3 (k*27+0) _ ((rowsU_get s.items us k 0 x _ hx hu (by decide)).trans h0)
  refine ⟨g,us[k],rfl,?_,fun j y hj=>?_⟩
  · rcases hh k x _ hx hu with e | ⟨e1,e2,e3,e4⟩
    · exact .inl e
    · exact .inr ⟨e1,e2,owns_down e3 (Nat.zero_le _),e4⟩
  · have hj27:j<27:=by
      have:=(List.getElem?_eq_some_iff.1 hj).1
      rwa [itemU_len] at this
    obtain ⟨g2,e2,_,_,hc⟩:=h3 (k*27+j) y ((rowsU_get s.items us k j x _ hx hu hj27).trans hj)
    cases e2
    exact hc
theorem ItemsAt.ext {w w':World} {v:Value} {l:Nodes} (h:ItemsAt w v l) (x:Ext w w'):ItemsAt w' v l:=by
  obtain ⟨a,cap,e,h1,h2,h3⟩:=h
  refine ⟨a,cap,e,h1,h2,fun k y hy=>?_⟩
  obtain ⟨g,u,e1,e2,e3⟩:=h3 k y hy
  exact ⟨g,u,e1,e2.kept fun b hb=>x.block (e2.own b hb).2,fun j z hz=>(x.cell (lt_of_cell (e3 j z hz))).trans (e3 j z hz)⟩
def pathsT (l:Nodes):ByteArray:=l.foldl (fun s x=>s++x.1++⟨#[32]⟩) ⟨#[]⟩
theorem pathsT_next {l:Nodes} {k:Nat} {x:ByteArray×Nd} (h:l[k]?=some x):pathsT (l.take (k+1))=pathsT (l.take k)++x.1++⟨#[32]⟩:=by
  rw [List.take_add_one,h]
  unfold pathsT
  rw [List.foldl_append]
  rfl
theorem pathsT_size {l:Nodes} (h:∀ x∈l,x.1.size≤160) (k:Nat):(pathsT (l.take k)).size≤k*161:=by
  induction k with
  | zero=>rw [List.take_zero];exact Nat.le_refl _
  | succ k ih =>
    rcases Nat.lt_or_ge k l.length with hk | hk
    · rw [pathsT_next (List.getElem?_eq_getElem hk)]
      have:=h _ (List.getElem_mem hk)
      have h1:(⟨#[32]⟩:ByteArray).size=1:=rfl
      simp only [ByteArray.size_append,h1]
      omega
    · rw [List.take_of_length_le (by omega)] at ih ⊢
      omega
set_option maxRecDepth 100000 in
set_option maxHeartbeats 2000000 in
theorem paths_any {w:World} {v:Value} {l:Nodes} (h:ItemsAt w v l) (hl:l.length≤20000) (hs:∀ x∈l,x.1.size≤160) :
    Calls Tryz.prog 23 #[v] w fun e w'=>e=.returned (.string (pathsT l))∧Ext w w':=by
  obtain ⟨a,cap,rfl,h1,h2,h3⟩:=h
  have HC:=Lib.hid h3
  have HS:=Lib.hid (pathsT_size hs)
  obtain ⟨n,hn⟩:∃ n,n=l.length:=⟨_,rfl⟩
  have HL:=Lib.hid hn
  have HE:=Lib.hid (show pathsT (l.take n)=pathsT l from by rw [hn,List.take_length])
  have HM:=Lib.hid hs
  rw [←hn] at hl h1 ⊢
  clear hn h3 hs
  go_enter Tryz.func23,Tryz.ntmps23
  go_wp2_with fail
  go_loopw [3,4] (fun sv iv wr=>Hid (∃ k:Nat,k≤n∧iv=.int .i64 k∧sv=.string (pathsT (l.take k))∧Ext w wr)) (fun _ iv _=>n - (intOf iv).toNat)
  case atStart=>exact ⟨0,Nat.zero_le _,rfl,rfl,Ext.refl _⟩
  case round =>
    obtain ⟨k,hk,rfl,rfl,hx⟩:=hrel.out
    clear hrel
    have HX:=Lib.hid hx
    by_cases hlt:k<n
    · obtain ⟨x,hxk⟩:∃ x,l[k]?=some x:=⟨_,List.getElem?_eq_getElem (by have:=HL.out;omega)⟩
      obtain ⟨g,u,rfl,_,hc⟩:=HC.out k x hxk
      have h0:(itemU x u)[0]?=some (.string x.1):=by unfold itemU;split <;> rfl
      have c0:wr.cell? ⟨g,k*27,none⟩=some (.string x.1):=(hx.cell (lt_of_cell (hc 0 _ h0))).trans (hc 0 _ h0)
      have HN:=Lib.hid (pathsT_next hxk)
      have z1:=HS.out k
      have z2:=HM.out x (List.mem_of_getElem? hxk)
      obtain ⟨xp,xn⟩:=x
      dsimp only at *
      generalize pathsT (l.take k)=q0 at *
      have z3:q0.size≤3220000:=by omega
      clear hc h0 hxk hx
      go_wp2_with fail
      go_roundw
      case rel=>exact ⟨k+1,by omega,by go_num,by rw [HN.out],HX.out⟩
      case measure=>simp [intOf] <;> omega
    · obtain rfl:k=n:=by omega
      rw [HE.out]
      obtain ⟨q,hq⟩:∃ q,q=pathsT l:=⟨_,rfl⟩
      have HQ:=Lib.hid hq
      rw [←hq]
      clear hq
      have nlt:decide ((k:Int)<(k:Int))=false:=by simp
      clear hx
      go_wp2_with fail
      go_ret
      exact ⟨by rw [←HQ.out];rfl,HX.out⟩
end Go.Proofs.YtodickpibbbiiaaGreatDoor

namespace Go.Proofs.YtodickpibbbiiaaGreatDoor
open Go.RowKit

theorem join_one {w:World} {v:Value} {x:ByteArray} (h:TextsOwn w v [x]) (sep:ByteArray) (hx:x.size≤100000):Calls Tryz.prog 22 #[v,.string sep] w fun e w'=>e=.returned (.string x)∧Ext w w':=by
  obtain ⟨⟨a,cap,rfl,h1,h2⟩,hg⟩:=h
  obtain ⟨g,rfl,hc⟩:=hg a _ cap rfl 0 x rfl
  have hj:(⟨(Lib.join ([x].map (·.data.toList)) sep.data.toList).toArray⟩:ByteArray)=x:=by
    obtain ⟨x⟩:=x
    simp [Lib.join]
  have:=Tryz.strings_Join g 0 cap [x] sep w (fun j y hy=>by
    cases j with
    | zero=>cases hy;exact hc
    | succ j=>simp at hy) (lt_of_cell hc) (by simp) h1 (by
      have e:(Lib.join ([x].map (·.data.toList)) sep.data.toList).length=x.size:=by
        have:=congrArg ByteArray.size hj
        simpa [size_mk] using this
      rw [e];omega)
  rw [hj] at this
  exact this
def aIg:ByteArray→Bool:=fun p=>(matchesL [[101]] p).1
def aItems:Nodes:=[(⟨#[97]⟩,⟨1,tAbc,emp,5⟩),(⟨#[100]⟩,dirN),(⟨#[122]⟩,⟨3,emp,⟨#[97]⟩,6⟩)]
theorem aw_walk (Y:ByteArray):walkS aIg (gE Y)=⟨aItems,[⟨#[100,47,126,116,126,120]⟩],[⟨#[100,47,101]⟩],[],⟨#[]⟩⟩:=by kernel_rfl
theorem aw_paths:pathsT aItems=⟨#[97,32,100,32,122,32]⟩:=by kernel_rfl
theorem aw_call {w0 w:World} {A B:List Thing} {d ll:Nat} (h:Things w0 w (A++.disk d gD::B)) (E:Env w) (T:ShaTabs w) (hL:IsList w ll [[101]]) :
    Calls Tryz.prog 17 #[.pointer (some ⟨d,0,none⟩),.string nF1,.pointer (some ⟨ll,0,none⟩)] w fun e w'=>∃ v0 v1 v2 v3,e=.returned (.tuple #[.agg #[v0,v1,v2,v3],.int .i64 0])∧Hid (ItemsAt w' v0 aItems∧TextsOwn w' v1 [⟨#[100,47,126,116,126,120]⟩]∧TextsOwn w' v2 [⟨#[100,47,101]⟩]∧TextsOwn w' v3 []∧Ext w w'):=by
  refine (disk_ext h fun M I hd=>walk_any hd gD_run.run (gD_run.run.fit (by decide)) E T nF1 (by decide) (some ⟨ll,0,none⟩) aIg fun w' p x hp=>(match_at (by omega) (hL.ext x) (E.ext x)).mono fun e w'' ⟨h1,h2⟩=>⟨_,h1,h2⟩).mono ?_
  rintro e w' ⟨C,he,h1,h2⟩
  rw [gD_root] at he
  rw [gD_each,aw_walk] at h1
  obtain ⟨v0,v1,v2,v3,rfl,k0,k1,k2,k3⟩:=h1.items
  exact ⟨v0,v1,v2,v3,he,⟨k0,k1,k2,k3,h2⟩⟩
set_option maxRecDepth 100000 in
set_option maxHeartbeats 4000000 in
theorem awake17_any (w:World) (E:Env w) (T:ShaTabs w):Calls Tryz.prog 14 #[] w fun e w'=>e=.returned (.bool true)∧Ext w w':=by
  have HG:=Lib.hid (given_any w E)
  have HE:=Lib.hid E
  have HT:=Lib.hid T
  have HN1:=Lib.hid (show nF1=⟨#[102,49]⟩ from rfl)
  clear E T
  go_enter Tryz.func14,Tryz.ntmps14
  go_wp2_with fail
  refine HG.out.mono ?_
  rintro e w1 ⟨d,rfl,h1⟩
  have H1:=h1
  have X1:=Lib.hid h1.out.is_ext
  clear h1
  go_wp2_with fail
  refine (list_any w1 (HE.out.ext X1.out)).mono ?_
  rintro e w2 ⟨ll,rfl,h2⟩
  have H2:=h2
  have X2:=Lib.hid (X1.out.trans h2.out.2)
  have HW:=Lib.hid (aw_call (A:=[]) (B:=[]) (H1.out.ext H2.out.2) (HE.out.ext X2.out) (HT.out.ext X2.out) H2.out.1)
  rw [HN1.out] at HW
  clear h2
  go_wp2_with fail
  refine HW.out.mono ?_
  rintro e w3 ⟨v0,v1,v2,v3,rfl,h3⟩
  have H3:=h3
  have X3:=Lib.hid (X2.out.trans h3.out.2.2.2.2)
  obtain ⟨a0,c0,rfl,_⟩:=h3.out.1
  obtain ⟨⟨a1,c1,rfl,_⟩,_⟩:=h3.out.2.1
  obtain ⟨⟨a2,c2,rfl,_⟩,_⟩:=h3.out.2.2.1
  obtain ⟨⟨a3,c3,rfl,_⟩,_⟩:=h3.out.2.2.2.1
  clear h3 HW
  go_wp2_with fail
  have HB:=Lib.hid (block_alloc_new w3 (.cells #[.slice a0 aItems.length c0,.slice a1 1 c1,.slice a2 1 c2,.slice a3 0 c3] 37 (0,0)))
  have X4:=Lib.hid ((Ext.refl w3).alloc (.cells #[.slice a0 aItems.length c0,.slice a1 1 c1,.slice a2 1 c2,.slice a3 0 c3] 37 (0,0)))
  have HP:=Lib.hid (paths_any (H3.out.1.ext X4.out) (by decide) (fun x hx=>by
    simp only [aItems,List.mem_cons,List.not_mem_nil,or_false] at hx
    rcases hx with rfl | rfl | rfl <;> decide))
  rw [aw_paths] at HP
  refine HP.out.mono ?_
  rintro e w5 ⟨rfl,x5⟩
  have HB5:=Lib.hid ((x5.block (ltB HB.out)).trans HB.out)
  have X5:=Lib.hid (X4.out.trans x5)
  have k1:w5.cell? ⟨w3.heap.size,1,none⟩=some (.slice a1 1 c1):=cellB HB5.out
  clear x5 HP
  go_wp2_with fail
  refine (join_one ⟨(H3.out.2.1).shape,fun a n cap e k s hs=>by
    obtain ⟨g,e1,e2⟩:=H3.out.2.1.get a n cap e k s hs
    exact ⟨g,e1,(X5.out.cell (lt_of_cell e2)).trans e2⟩⟩ _ (by decide)).mono ?_
  rintro e w6 ⟨rfl,x6⟩
  have HB6:=Lib.hid ((x6.block (ltB HB5.out)).trans HB5.out)
  have X6:=Lib.hid (X5.out.trans x6)
  have k2:w6.cell? ⟨w3.heap.size,2,none⟩=some (.slice a2 1 c2):=cellB HB6.out
  clear x6 k1
  go_wp2_with fail
  refine (join_one ⟨(H3.out.2.2.1).shape,fun a n cap e k s hs=>by
    obtain ⟨g,e1,e2⟩:=H3.out.2.2.1.get a n cap e k s hs
    exact ⟨g,e1,(X6.out.cell (lt_of_cell e2)).trans e2⟩⟩ _ (by decide)).mono ?_
  rintro e w7 ⟨rfl,x7⟩
  have HB7:=Lib.hid ((x7.block (ltB HB6.out)).trans HB6.out)
  have k3:w7.cell? ⟨w3.heap.size,3,none⟩=some (.slice a3 0 c3):=cellB HB7.out
  have X7:=Lib.hid (X3.out.trans (X6.out.trans x7))
  clear x7 k2
  go_wp2_with fail
  go_ret
  exact ⟨rfl,X7.out⟩
end Go.Proofs.YtodickpibbbiiaaGreatDoor

namespace Go.Proofs.YtodickpibbbiiaaGreatDoor
open Go.RowKit

theorem howN_take {l:List ByteArray} {p q:ByteArray} {k:Nat} (h:l[k]?=some q):howN (l.take (k+1)) p=howN (l.take k) p+if (decide (q=p)||withinB p q) then 1 else 0:=by
  unfold howN
  rw [List.take_add_one,h,List.countP_append]
  simp [List.countP_cons]
theorem howN_le (l:List ByteArray) (p:ByteArray) (k:Nat):howN (l.take k) p≤k:=by
  unfold howN
  refine Nat.le_trans List.countP_le_length ?_
  rw [List.length_take];omega
set_option maxRecDepth 100000 in
set_option maxHeartbeats 2000000 in
theorem how_any {w:World} {v:Value} {l:List ByteArray} (h:TextsOwn w v l) (E:Env w) (p:ByteArray) (hp:p.size≤100000) (hs:∀ q∈l,q.size≤160) (hl:l.length≤100000) :
    Calls Tryz.prog 18 #[v,.string p] w fun e w'=>e=.returned (.int .i64 (howN l p:Nat))∧Ext w w':=by
  obtain ⟨⟨a,cap,rfl,h1,h2⟩,hg⟩:=h
  have HG:=Lib.hid (hg a _ cap rfl)
  obtain ⟨n,hn⟩:∃ n,n=l.length:=⟨_,rfl⟩
  have HL:=Lib.hid hn
  have HTK:=Lib.hid (show howN (l.take n) p=howN l p from by rw [hn,List.take_length])
  have HS:=Lib.hid hs
  have HW:=fun q (hq:q.size≤160) w' (x:Ext w w')=>Lib.hid (within_any p q w' (by omega) (by omega) (E.ext x))
  have HLE:=Lib.hid (fun k=>howN_le l p k)
  rw [←hn] at hl h1 ⊢
  clear hn hg hs E
  go_enter Tryz.func18,Tryz.ntmps18
  go_wp2_with fail
  go_loopw [5,6] (fun sv iv wr=>Hid (∃ k:Nat,k≤n∧iv=.int .i64 k∧sv=.int .i64 (howN (l.take k) p:Nat)∧Ext w wr)) (fun _ iv _=>n - (intOf iv).toNat)
  case atStart=>exact ⟨0,Nat.zero_le _,rfl,rfl,Ext.refl _⟩
  case round =>
    obtain ⟨k,hk,rfl,rfl,hx⟩:=hrel.out
    clear hrel
    have HX:=Lib.hid hx
    by_cases hlt:k<n
    · obtain ⟨q,hq⟩:∃ q,l[k]?=some q:=⟨_,List.getElem?_eq_getElem (by have:=HL.out;omega)⟩
      obtain ⟨g,rfl,hc⟩:=HG.out k q hq
      have c0:wr.cell? ⟨g,k,none⟩=some (.string q):=(hx.cell (lt_of_cell hc)).trans hc
      have hqs:=HS.out q (List.mem_of_getElem? hq)
      have HWI:=HW q hqs wr hx
      have HN:=Lib.hid (howN_take (p:=p) hq)
      have hhl:=HLE.out k
      generalize hh0:howN (l.take k) p=h0 at *
      clear hc hq hx
      by_cases e:q=p
      · have HN2:=Lib.hid (show howN (l.take (k+1)) p=h0+1 from by rw [HN.out,decide_eq_true e];rfl)
        have e1:(q.toList==p.toList)=true:=by rw [e];exact beq_self_eq_true _
        clear e hh0
        go_wp2_with fail
        go_roundw
        case rel=>exact ⟨k+1,by omega,by go_num,by rw [HN2.out];go_num,HX.out⟩
        case measure=>simp [intOf] <;> omega
      · have e0:decide (q=p)=false:=decide_eq_false e
        have e1:(q.toList==p.toList)=false:=beq_eq_false_iff_ne.2 fun h=>e (ba_ext h)
        cases hw:withinB p q with
        | true =>
          rw [hw] at HWI
          have HN2:=Lib.hid (show howN (l.take (k+1)) p=h0+1 from by rw [HN.out,e0,hw];rfl)
          clear e e0 hh0
          go_wp2_with fail
          refine HWI.out.mono ?_
          rintro e w2 ⟨rfl,x2⟩
          have HX2:=Lib.hid (HX.out.trans x2)
          clear x2 HX
          go_wp2_with fail
          go_roundw
          case rel=>exact ⟨k+1,by omega,by go_num,by rw [HN2.out];go_num,HX2.out⟩
          case measure=>simp [intOf] <;> omega
        | false =>
          rw [hw] at HWI
          have HN2:=Lib.hid (show howN (l.take (k+1)) p=h0 from by rw [HN.out,e0,hw];rfl)
          clear e e0 hh0
          go_wp2_with fail
          refine HWI.out.mono ?_
          rintro e w2 ⟨rfl,x2⟩
          have HX2:=Lib.hid (HX.out.trans x2)
          clear x2 HX
          go_wp2_with fail
          go_roundw
          case rel=>exact ⟨k+1,by omega,by go_num,by rw [HN2.out],HX2.out⟩
          case measure=>simp [intOf] <;> omega
    · obtain rfl:k=n:=by omega
      rw [HTK.out]
      have nlt:decide ((k:Int)<(k:Int))=false:=by simp
      clear hx
      go_wp2_with fail
      go_ret
      exact ⟨rfl,HX.out⟩
theorem TextsAt.of_files {w:World} {v:Value} {fs:List (ByteArray×ByteArray)} (h:FilesIn w v fs):TextsAt w v fs:=by
  obtain ⟨a,cap,h1,h2,h3,h4⟩:=h
  refine ⟨a,cap,h1,h2,h3,fun j f hj=>?_⟩
  obtain ⟨g,o,e,c1,c2⟩:=h4 j f hj
  exact ⟨g,o,e,by rw [Nat.mul_comm 2 j];exact c1,by rw [Nat.mul_comm 2 j];exact c2⟩
def patR (R:Except Nat (List Txt)) (p:ByteArray):Bool:=match R with | .ok ts=>(matchesL ts p).1 | .error _=>false
def patE (R:Except Nat (List Txt)):Int:=match R with | .ok _=>0 | .error k=>(k:Nat)
def PatAs (w:World) (lv:Option Addr) (ig:ByteArray→Bool):Prop :=
  ∀ (w':World) (p:ByteArray),Ext w w'→p.size≤160→Calls Tryz.prog 70 #[.pointer lv,.string p] w' fun e w''=>∃ b,e=.returned (.tuple #[.bool (ig p),.bool b])∧Ext w' w''
theorem PatAs.ext {w w':World} {lv:Option Addr} {ig:ByteArray→Bool} (h:PatAs w lv ig) (x:Ext w w'):PatAs w' lv ig:=fun w2 p x2 hp=>h w2 p (x.trans x2) hp
theorem PatAs.nil (w:World):PatAs w none (fun _=>false):=fun w' p _ _=>(ilmatch_nil p w').mono fun _ _ ⟨h1,h2⟩=>⟨false,h1,h2▸Ext.refl _⟩
theorem parse17_any {vf:Value} {fs:List (ByteArray×ByteArray)} {w:World} (hF:FilesIn w vf fs) (hfs:∀ f∈fs,f.1.size≤8000∧f.2.size≤8000) (E:Env w) :
    Calls Tryz.prog 16 #[vf,.string ⟨#[105]⟩] w fun e w'=>∃ lv,e=.returned (.tuple #[.pointer lv,.int .i64 (patE (parseL (fsL fs) (⟨#[105]⟩:ByteArray).toList))])∧Hid (Ext w w'∧PatAs w' lv (patR (parseL (fsL fs) (⟨#[105]⟩:ByteArray).toList))):=by
  have hT:=TextsAt.of_files hF
  have hfs':∀ f∈fs,f.1.size≤maxLen∧f.2.size<4294967281:=fun f hf=>by
    have:=hfs f hf
    unfold maxLen
    omega
  cases hR:parseL (fsL fs) (⟨#[105]⟩:ByteArray).toList with
  | ok ts =>
    refine (parse_ok hR hT hfs' (by decide) E).mono ?_
    rintro e w' ⟨ll,he,h1,h2⟩
    exact ⟨_,he,⟨h2,fun w2 p x hp=>(match_at (by omega) (h1.out.ext x) (E.ext (h2.trans x))).mono fun e w3 ⟨k1,k2⟩=>⟨_,k1,k2⟩⟩⟩
  | error k =>
    refine (parse_err hR hT hfs' (by decide) E).mono ?_
    rintro e w' ⟨he,_,h2⟩
    exact ⟨_,he,⟨h2,PatAs.nil _⟩⟩
theorem may_big (s:ByteArray) (w:World) (hs:s.size<4611686018427387904) (hb:160<s.size) :
    Calls Tryz.prog 78 #[.string s] w fun e w'=>e=.returned (.bool false)∧Ext w w':=by
  have HS:=fun w=>Lib.hid (split_any s w hs)
  generalize parentS s=P at *
  go_enter Tryz.func78,Tryz.ntmps78
  go_wp2_with fail
  refine ((HS w).out).mono ?_
  rintro e w1 ⟨rfl,n,rfl⟩
  go_wp2_with fail
  go_ret
  exact ⟨rfl,(Ext.refl w).drewN n⟩
theorem wcall_any {w0 w:World} {A B:List Thing} {d k:Nat} {D:Dk} {lv:Option Addr} {ig:ByteArray→Bool} (h:Things w0 w (A++.disk d D::B)) (R:RunF k D) (hk:k≤100000) (E:Env w) (T:ShaTabs w) (root:ByteArray) (hr:root.size≤100000) (hP:PatAs w lv ig) :
    Calls Tryz.prog 17 #[.pointer (some ⟨d,0,none⟩),.string root,.pointer lv] w fun e w'=>∃ v0 v1 v2 v3,e=.returned (.tuple #[.agg #[v0,v1,v2,v3],.int .i64 (rootE D.live root)])∧Hid (ItemsAt w' v0 (walkS ig (eachL D root)).items∧TextsOwn w' v1 (walkS ig (eachL D root)).temps∧TextsOwn w' v2 (walkS ig (eachL D root)).ign∧TextsOwn w' v3 (walkS ig (eachL D root)).bad∧Ext w w'):=by
  refine (disk_ext h fun M I hd=>walk_any hd R.run (R.run.fit hk) E T root hr lv ig hP).mono ?_
  rintro e w' ⟨C,he,h1,h2⟩
  obtain ⟨v0,v1,v2,v3,rfl,k0,k1,k2,k3⟩:=h1.items
  exact ⟨v0,v1,v2,v3,he,⟨k0,k1,k2,k3,h2⟩⟩
end Go.Proofs.YtodickpibbbiiaaGreatDoor

namespace Go.Proofs.YtodickpibbbiiaaGreatDoor
open Go.RowKit Go.Shelf
attribute [local go_sem] Oper.semAt_some

end Go.Proofs.YtodickpibbbiiaaGreatDoor

namespace Go.Proofs.YtodickpibbbiiaaGreatDoor
open Go.RowKit Go.Shelf
attribute [local go_sem] Oper.semAt_some

theorem rooted_big (v:Addr) (root:ByteArray) (w:World) (hs:root.size<4611686018427387904) (hb:160<root.size) :
    Calls Tryz.prog 68 #[.pointer (some v),.string root] w fun e w'=>e=.returned (.int .i64 10)∧Ext w w':=by
  have HM:=Lib.hid (may_big root w hs hb)
  go_enter Tryz.func68,Tryz.ntmps68
  go_wp2_with fail
  refine HM.out.mono ?_
  rintro e w1 ⟨rfl,x1⟩
  go_wp2_with fail
  go_ret
  exact ⟨rfl,x1⟩
set_option maxRecDepth 100000 in
set_option maxHeartbeats 2000000 in
theorem walk_big (v:Addr) (root:ByteArray) (lv:Option Addr) (w:World) (hs:root.size<4611686018427387904) (hb:160<root.size) :
    Calls Tryz.prog 17 #[.pointer (some v),.string root,.pointer lv] w fun e w'=>e=.returned (.tuple #[.agg found0,.int .i64 10])∧Ext w w':=by
  have HX2:=Lib.hid (((Ext.refl w).alloc (.cells #[.pointer lv] 30 (0,0))).alloc (.cells found0 37 (0,0)))
  have HZ1:=Lib.hid (block_alloc_new (w.alloc (.cells #[.pointer lv] 30 (0,0))) (.cells found0 37 (0,0)))
  simp only [size_alloc] at HZ1
  have HA1:=Lib.hid (show (Tryz.prog.info? 37).map (·.size)=some found0.size from by kernel_rfl)
  have HA3:=Lib.hid (show found0.all (·.oneCell')=true from by kernel_rfl)
  unfold found0 at HX2 HZ1
  have HR:=fun w=>Lib.hid (rooted_big v root w hs hb)
  refine callsIn_wide.1 (callsIn_of_wp_marks (n:=4) Tryz.func17 rfl trivial ?_ rfl)
  simp only [Tryz.ntmps17,List.size_toArray,List.length_cons,List.length_nil,Nat.reduceAdd,Nat.reduceSub,Array.replicate_succ,Array.replicate_zero,List.push_toArray,List.append_toArray,List.nil_append,List.cons_append]
  gi_wp2
  refine ⟨trivial,(callsIn_wide.2 (HR _).out).mono ?_⟩
  rintro e w3 ⟨rfl,x3⟩
  have HZ3:=Lib.hid ((x3.block (ltB HZ1.out)).trans HZ1.out)
  have HX3:=Lib.hid (HX2.out.trans x3)
  gi_wp2_with (refine wpListIn_storeT rfl _ _ _ rfl (w.heap.size+1) found0 rfl rfl 37 _ HZ3.out HA1.out rfl HA3.out ?_;intro W6 hb6 ht6;have HB6':=Lib.hid hb6;have HT6:=Lib.hid ht6;clear hb6 ht6;go_frame)
  exact ⟨_,results_row1 rfl _ _ (w.heap.size+1) 37 _ (0,0) _ rfl HB6'.out Tryz.underlying37 rfl HA1.out,rfl,HT6.out.fresh HX3.out (by omega)⟩
structure Seen (D:Dk) (root:ByteArray) (re:Int) (L:Nodes):Prop where
  ok:re=0→root.size≤160∧rootE D.live root=0∧L=eachL D root
  no:re≠0→L=[]
theorem wseen_any {w0 w:World} {A B:List Thing} {d k:Nat} {D:Dk} {lv:Option Addr} {ig:ByteArray→Bool} (h:Things w0 w (A++.disk d D::B)) (R:RunF k D) (hk:k≤100000) (E:Env w) (T:ShaTabs w) (root:ByteArray) (hr:root.size≤reach) (hP:PatAs w lv ig) :
    Calls Tryz.prog 17 #[.pointer (some ⟨d,0,none⟩),.string root,.pointer lv] w fun e w'=>∃ v0 v1 v2 v3 re L,e=.returned (.tuple #[.agg #[v0,v1,v2,v3],.int .i64 re])∧Hid (Seen D root re L∧ItemsAt w' v0 (walkS ig L).items∧TextsOwn w' v1 (walkS ig L).temps∧TextsOwn w' v2 (walkS ig L).ign∧TextsOwn w' v3 (walkS ig L).bad∧Ext w w'):=by
  by_cases hb:root.size≤160
  · refine (wcall_any h R hk E T root (by omega) hP).mono ?_
    rintro e w' ⟨v0,v1,v2,v3,he,k0,k1,k2,k3,x⟩
    have hS:Seen D root (rootE D.live root) (eachL D root):=Seen.mk (fun e=>⟨hb,e,rfl⟩) (fun e=>by unfold eachL;rw [if_neg e])
    exact ⟨v0,v1,v2,v3,_,eachL D root,he,⟨hS,k0,k1,k2,k3,x⟩⟩
  · unfold reach at hr
    refine (walk_big ⟨d,0,none⟩ root lv w (by omega) (by omega)).mono ?_
    rintro e w' ⟨he,x⟩
    obtain ⟨v0,v1,v2,v3,hC,k0,k1,k2,k3⟩:=(FoundC.nothing 0 w').items
    have hC:found0=#[v0,v1,v2,v3]:=hC
    rw [hC] at he
    exact ⟨v0,v1,v2,v3,10,[],he,⟨Seen.mk (fun e=>absurd e (by decide)) (fun _=>rfl),k0,k1,k2,k3,x⟩⟩
end Go.Proofs.YtodickpibbbiiaaGreatDoor

namespace Go.Proofs.YtodickpibbbiiaaGreatDoor
open Go.RowKit Go.Shelf
attribute [local go_sem] Oper.semAt_some

theorem wpList_store1 {P:Program} {ops:Array Oper} {rest:List Oper} {o:Oper} {a:Act} {Q:Exit→Act→World→Prop} {w:World} (hgd:o.guard=none) (ty:TypeId) (x y:Operand) (ho:o.op=.store ty x y)
    (g k:Nat) (v:Value) (hx:a.eval x=.pointer (some ⟨g,k,none⟩)) (hy:a.eval y=v) (hi:(P.info? ty).map (·.size)=some 1) (h1:v.oneCell'=true)
    (cs:Array Value) (t:TypeId) (hg:w.heap[g]?=some (.cells cs t (0,0))) (hk:k<cs.size)
    (h:∀ w1,w1=w.setCell ⟨g,k,none⟩ v→wpList P ops Q rest (a.put o.dst undef) w1):wpList P ops Q (o::rest) a w:=by
  refine wpList_plain hgd fun K hK=>?_
  have h2:=hK _ _ (h _ rfl)
  cases hq:P.info? ty with
  | none=>simp [hq] at hi
  | some i =>
    have hs:i.size=1:=by simpa [hq] using hi
    have hc:w.cell? ⟨g,k,none⟩=some cs[k]:=(cellB hg).trans (Array.getElem?_eq_getElem hk)
    unfold Oper.wp execOp
    simp only [ho,hx,hy,Instr.storeAt,Instr.sureAddr,Sem.run_bind,Sem.run_pure,Result.andThen_ok,Lib.rl_storeVar_one ty i hq hs ⟨g,k,none⟩ v cs[k] h1 w hc (frozenB hg)]
    exact h2
theorem wpList_storeB {P:Program} {ops:Array Oper} {rest:List Oper} {o:Oper} {a:Act} {Q:Exit→Act→World→Prop} {w:World} (hgd:o.guard=none) (ty:TypeId) (x y:Operand) (ho:o.op=.store ty x y)
    (g:Nat) (v u:Value) (hx:a.eval x=.pointer (some ⟨g,0,none⟩)) (hy:a.eval y=v) (hi:(P.info? ty).map (·.size)=some 1) (h1:v.oneCell'=true)
    (t:TypeId) (hg:w.heap[g]?=some (.cells #[u] t (0,0)))
    (h:∀ w1,w1.heap[g]?=some (.cells #[v] t (0,0))→Touch g w w1→wpList P ops Q rest (a.put o.dst undef) w1):wpList P ops Q (o::rest) a w:=by
  refine wpList_store1 hgd ty x y ho g 0 v hx hy hi h1 #[u] t hg Nat.zero_lt_one fun w1 e=>h w1 ?_ ?_
  · rw [e,setCellB hg]
    rfl
  · rw [e]
    exact ⟨rfl,rfl,rfl,by unfold World.setCell;simp,fun i _ hne=>setCellO fun e=>hne (by rw [e])⟩
end Go.Proofs.YtodickpibbbiiaaGreatDoor

namespace Go.Proofs.YtodickpibbbiiaaGreatDoor
open Go.RowKit Go.Shelf
attribute [local go_sem] Oper.semAt_some

theorem results_bool {fn:Func} {p:Tmp} (h:fn.results=#[.cell p 4]) (tmps:Array Value) (w:World) (g:Nat) (b:Bool) (t:TypeId) (fr:Nat×Nat)
    (hp:tmps.getD p undef=.pointer (some ⟨g,0,none⟩)) (hg:w.heap[g]?=some (.cells #[.bool b] t fr)):(results fn tmps).run Tryz.prog w=.ok (.bool b) w:=by
  have hp':tmps[p]?.getD undef=.pointer (some ⟨g,0,none⟩):=by simpa using hp
  have hc:w.cell? ⟨g,0,none⟩=some (.bool b):=cellB hg
  simp [results,h,hp',asAddr,loadVar,go_sem,hc]
end Go.Proofs.YtodickpibbbiiaaGreatDoor

namespace Go.Proofs.YtodickpibbbiiaaGreatDoor
open Go.RowKit Go.Shelf

theorem each_mem {D:Dk} {root:ByteArray} {x:ByteArray×Nd} (hx:x∈eachL D root):mayB root=true∧rootE D.live root=0∧∃ y∈D.live,withinB y.1 root=true∧x=(relS root y.1,y.2):=by
  unfold eachL at hx
  split at hx
  · rename_i h
    obtain ⟨y,h1,h2,h3⟩:=inRoot_mem.1 hx
    exact ⟨mayRoot h,h,y,h1,h2,h3⟩
  · cases hx
theorem rel_join {r p:ByteArray} (hr:mayB r=true) (h:withinB p r=true):r++⟨#[47]⟩++relS r p=p:=by
  obtain ⟨t,ht⟩:=within_form hr h
  apply ba_ext
  rw [toList_append,toList_append,rel_toList ht,ht]
  simp [Lib.toList_data]
theorem each_read {D:Dk} (O:DkOk D) {root:ByteArray} {x:ByteArray×Nd} (hx:x∈eachL D root):readE D.live (root++⟨#[47]⟩++x.1)=(x.2,0):=by
  obtain ⟨hr,_,y,hy,hw,rfl⟩:=each_mem hx
  show readE D.live (root++⟨#[47]⟩++relS root y.1)=(y.2,0)
  rw [rel_join hr hw]
  unfold readE
  rw [if_pos (O.live.may y hy),findA_of_mem O.live.sorted.nodup hy]
theorem each_home {D:Dk} (O:DkOk D) {root:ByteArray}:∀ x∈eachL D root,(parentS x.1).toList.isEmpty=true∨∃ y∈eachL D root,y.1=parentS x.1∧y.2.kind=2∧withinB x.1 y.1=true:=by
  intro x hx
  cases he:(parentS x.1).toList.isEmpty with
  | true=>exact .inl rfl
  | false =>
    refine .inr ?_
    obtain ⟨hr,h0,y,hy,hw,rfl⟩:=each_mem hx
    obtain ⟨t,ht⟩:=within_form hr hw
    have hrel:(relS root y.1).toList=t:=rel_toList ht
    have hpa:(parentS (relS root y.1)).toList=aheadL t:=by rw [(split_toList _).1,hrel]
    have he:(parentS (relS root y.1)).toList.isEmpty=false:=he
    rcases last_slash t with hn | ⟨a,e,hte,hen⟩
    · rw [hpa,aheadL_no hn] at he
      cases he
    · have ha:aheadL t=a:=by rw [hte,aheadL_at a e hen]
      obtain ⟨yp,yn⟩:=y
      dsimp only at *
      have hP:(parentS yp).toList=root.toList++47::a:=by
        rw [(split_toList _).1,ht,hte,show root.toList++47::(a++47::e)=(root.toList++47::a)++47::e from by simp,aheadL_at _ e hen]
      obtain ⟨o,ho,hk⟩:=kindAt_two (show kindAt D.live (parentS yp)=2 from O.live.home (yp,yn) hy) (by rw [hP];simp)
      have hm:=findA_mem ho
      have hmP:mayB (parentS yp)=true:=O.live.may (parentS yp,o) hm
      have hwP:withinB (parentS yp) root=true:=within_of (p:=parentS yp) (d:=root) (r:=a) hmP hr hP
      have hrp:relS root (parentS yp)=parentS (relS root yp):=ba_ext (by rw [rel_toList hP,hpa,ha])
      have hmay:=rel_may hr hwP
      refine ⟨(relS root (parentS yp),o),?_,hrp,hk,?_⟩
      · unfold eachL
        rw [if_pos h0]
        exact inRoot_mem.2 ⟨_,hm,hwP,rfl⟩
      · show withinB (relS root yp) (relS root (parentS yp))=true
        rw [hrp]
        rw [hrp] at hmay
        exact within_parent (rel_may hr hw) hmay rfl
def dirsL (l:Nodes):List ByteArray:=(l.filter fun y=>decide (y.2.kind=2)).map (·.1)
theorem dirsL_next {l:Nodes} {i:Nat} {x:ByteArray×Nd} (h:l[i]?=some x):dirsL (l.take (i+1))=dirsL (l.take i)++if x.2.kind=2 then [x.1] else []:=by
  unfold dirsL
  rw [List.take_add_one,h]
  by_cases hk:x.2.kind=2 <;> simp [hk]
theorem dirsL_le (l:Nodes) (i:Nat):(dirsL (l.take i)).length≤i:=by
  unfold dirsL
  rw [List.length_map]
  exact Nat.le_trans (List.length_filter_le _ _) (List.length_take_le _ _)
theorem dirs_home {D:Dk} (O:DkOk D) {root:ByteArray} (ig:ByteArray→Bool) {i:Nat} {x:ByteArray×Nd} (h:(walkS ig (eachL D root)).items[i]?=some x) :
    (parentS x.1).toList.isEmpty=true∨0<howN (dirsL ((walkS ig (eachL D root)).items.take i)) (parentS x.1):=by
  have hl:=(List.getElem?_eq_some_iff.1 h)
  have e:(walkS ig (eachL D root)).items=(walkS ig (eachL D root)).items.take i++x::(walkS ig (eachL D root)).items.drop (i+1):=by
    obtain ⟨hi,hx⟩:=hl
    rw [←hx,List.getElem_cons_drop,List.take_append_drop]
  rcases home_item ig (eachL_tidy O root) (each_home O) e with h1 | ⟨y,hy,h1,h2⟩
  · exact .inl h1
  · refine .inr (List.countP_pos_iff.2 ⟨y.1,?_,by rw [h1];simp⟩)
    exact List.mem_map.2 ⟨y,List.mem_filter.2 ⟨hy,by simp [h2]⟩,rfl⟩
theorem item_is {D:Dk} (O:DkOk D) {root:ByteArray} (ig:ByteArray→Bool) {x:ByteArray×Nd} (h:x∈(walkS ig (eachL D root)).items):x∈eachL D root∧isTempB x.1=false∧badN x.2=false:=by
  rw [(walkS_is ig (eachL_tidy O root)).items,List.mem_filter] at h
  obtain ⟨h1,h2⟩:=h
  unfold whyB at h2
  simp only [Bool.and_eq_true,Bool.not_eq_true',Bool.or_eq_false_iff] at h2
  exact ⟨h1,h2.2.1.1,h2.2.2⟩
structure Two (fb base:Nat) (w5 w:World) (dv fv:Value) (ds fs:List ByteArray):Prop where
  box:w.heap[fb]?=some (.cells #[fv] 35 (0,0))
  dirs:w.ownsRow base 9 1 dv ds.length (ds.map Value.string)
  found:w.ownsRow base 9 1 fv fs.length (fs.map Value.string)
  apart:∀ b,dv.ownBlock=some b→fv.ownBlock≠some b
  ext:Ext w5 w
  lo:w5.heap.size≤fb
  hi:fb<base
theorem Two.more {fb base:Nat} {w5 w w':World} {dv fv:Value} {ds fs:List ByteArray} (h:Two fb base w5 w dv fv ds fs) (x:Ext w w'):Two fb base w5 w' dv fv ds fs :=
  ⟨(x.block (ltB h.box)).trans h.box,owns_ext h.dirs x,owns_ext h.found x,h.apart,h.ext.trans x,h.lo,h.hi⟩
theorem Two.addDir {fb base:Nat} {w5 w1 w2:World} {dv fv dv':Value} {ds fs:List ByteArray} {s:ByteArray} (h:Two fb base w5 w1 dv fv ds fs) (ho:w2.ownsRow base 9 1 dv' (ds.length+1) (ds.map Value.string++[.string s]))
    (hg:w1.grownBy w2 dv.ownBlock) (hv:dv'.ownBlock=dv.ownBlock∨dv'.ownBlock=some w1.heap.size):Two fb base w5 w2 dv' fv (ds++[s]) fs where
  box:=(hg.block fb (ltB h.box) fun e=>by have:=own_ge h.dirs fb e.symm;have:=h.hi;omega).trans h.box
  dirs:=by rw [List.length_append,List.map_append];exact ho
  found:=owns_blocks h.found fun b hb=>hg.block b (own_lt h.found b hb) fun e=>h.apart b e.symm hb
  apart:=fun b hb hf=>by
    rcases hv with e | e
    · exact h.apart b (e▸hb) hf
    · rw [e] at hb
      cases hb
      have:=own_lt h.found _ hf
      omega
  ext:=grown_ext h.ext (by have:=h.lo;have:=h.hi;omega) h.dirs hg
  lo:=h.lo
  hi:=h.hi
theorem Two.addFound {fb base:Nat} {w5 w1 w2 w3:World} {dv fv fv':Value} {ds fs:List ByteArray} {s:ByteArray} (h:Two fb base w5 w1 dv fv ds fs) (ho:w2.ownsRow base 9 1 fv' (fs.length+1) (fs.map Value.string++[.string s]))
    (hg:w1.grownBy w2 fv.ownBlock) (hv:fv'.ownBlock=fv.ownBlock∨fv'.ownBlock=some w1.heap.size) (hb:w3.heap[fb]?=some (.cells #[fv'] 35 (0,0))) (ht:Touch fb w2 w3):Two fb base w5 w3 dv fv' ds (fs++[s]) where
  box:=hb
  dirs:=owns_blocks (owns_blocks h.dirs fun b hb=>hg.block b (own_lt h.dirs b hb) fun e=>h.apart b hb e.symm) fun b hb=>ht.block b (Nat.lt_of_lt_of_le (own_lt h.dirs b hb) hg.size) fun e=>by
    have:=own_ge h.dirs b hb
    have:=h.hi
    have:=Option.some.inj e
    omega
  found:=owns_blocks (by rw [List.length_append,List.map_append];exact ho) fun b hb=>ht.block b (own_lt ho b hb) fun e=>by
    have:=own_ge ho b hb
    have:=h.hi
    have:=Option.some.inj e
    omega
  apart:=fun b hb hf=>by
    rcases hv with e | e
    · exact h.apart b hb (e▸hf)
    · rw [e] at hf
      cases hf
      have:=own_lt h.dirs _ hb
      omega
  ext:=ht.fresh (grown_ext h.ext (by have:=h.lo;have:=h.hi;omega) h.found hg) h.lo
  lo:=h.lo
  hi:=h.hi
def sizeI (n:Nd):Nat:=if n.kind=1 then n.data.size else 0
def manyI (n:Nd):Nat:=if n.kind=1 then countN n.data.size else 0
structure ToldI (x:ByteArray×Nd) (C:Array Value):Prop where
  len:C.size=27
  one:C.all (·.oneCell')=true
  c0:C[0]?=some (.string x.1)
  c1:C[1]?=some (.int .i64 x.2.kind)
  c3:C[3]?=some (.int .i64 (sizeI x.2:Nat))
  c23:∃ a c,C[23]?=some (.slice a (manyI x.2) c)
theorem ToldI.plain {x:ByteArray×Nd} (h:x.2.kind≠1):ToldI x (itemC x.1 x.2 0 0 (.slice none 0 0)):=by
  have e1:sizeI x.2=0:=if_neg h
  have e2:manyI x.2=0:=if_neg h
  exact ⟨rfl,by simp [itemC,Value.oneCell'],rfl,rfl,by rw [e1];rfl,none,0,by rw [e2];rfl⟩
theorem ToldI.file {x:ByteArray×Nd} (h:x.2.kind=1) (a:Option Addr) (c:Nat):ToldI x (itemC x.1 x.2 (x.2.data.size:Nat) (sizeN x.2.data.size:Nat) (.slice a (countN x.2.data.size) c)):=by
  have e1:sizeI x.2=x.2.data.size:=if_pos h
  have e2:manyI x.2=countN x.2.data.size:=if_pos h
  exact ⟨rfl,by simp [itemC,Value.oneCell'],rfl,rfl,by rw [e1];rfl,a,c,by rw [e2];rfl⟩
theorem one_told {base:Nat} {w:World} {D:Dk} (O:DkOk D) {root:ByteArray} {x:ByteArray×Nd} (hx:x∈eachL D root) (hm:mayB x.1=true) (hb:badN x.2=false) {C:Array Value} {e:Int} (h:OneIs base w D.live root x.1 C e):e=0∧ToldI x C:=by
  have hr:=(each_mem hx).1
  have hre:=each_read O hx
  have hI:ItemIs base w x.1 x.2 C e:=by
    rcases h with ⟨h1,_⟩ | ⟨_,h2,_⟩ | ⟨_,_,h3⟩
    · rw [hr,hm] at h1;cases h1
    · rw [hre] at h2;exact absurd rfl h2
    · rw [hre] at h3;exact h3
  rcases hI with ⟨h1,rfl,h3⟩ | ⟨h1,_,h3,u,rfl,hu⟩ | ⟨h1,h2,_⟩
  · exact ⟨h3,ToldI.plain h1⟩
  · obtain ⟨a,c,rfl⟩:=rowk_shape hu
    exact ⟨h3,ToldI.file h1 a c⟩
  · unfold badN at hb
    rw [decide_eq_true h1,decide_eq_true h2] at hb
    cases hb
theorem row_told {w:World} {base:Nat} {F:List Nat} {x:ByteArray×Nd} {u:Value} (h:HashU w base F x u):ToldI x (itemU x u).toArray:=by
  unfold itemU
  rcases h with ⟨h1,rfl⟩ | ⟨h1,_,hu,_⟩
  · rw [if_neg h1]
    exact ToldI.plain h1
  · obtain ⟨a,c,rfl⟩:=rowk_shape hu
    rw [if_pos h1]
    exact ToldI.file h1 a c
theorem sizeI_le {n:Nd} (h:badN n=false):sizeI n≤4096:=by
  unfold sizeI
  unfold badN at h
  split
  · rename_i hk
    rw [decide_eq_true hk,Bool.true_and,decide_eq_false_iff_not] at h
    omega
  · omega
theorem Item_many {w0 w:World} {A B:List Thing} {d k:Nat} {D:Dk} (h:Things w0 w (A++.disk d D::B)) (R:RunF k D) (E:Env w) (T:ShaTabs w) (root p:ByteArray) (hr:root.size≤100000) (hp:p.size≤100000) :
    Calls Tryz.prog 24 #[.pointer (some ⟨d,0,none⟩),.string root,.string p] w fun e w'=>∃ C x,e=.returned (.tuple #[.agg C,.int .i64 x])∧Hid (OneIs w.heap.size w' D.live root p C x∧Ext w w') :=
  disk_ext h fun _ _ hd=>Item_any hd R.run E T root p hr hp
theorem clip_mem {m:Nat} {D:Dk} (R:DkRun m D) {r:ByteArray} {x:ByteArray×Nd} (hx:x∈eachL D r):clipW x=x:=by
  obtain ⟨k,hk⟩:=List.getElem?_of_mem hx
  have h:=congrArg (·[k]?) (clip_each R r)
  simp only [List.getElem?_map,hk,Option.map_some] at h
  exact Option.some.inj h
theorem bytes_more {l:Nodes} {p:ByteArray} {k:Nat} {x:ByteArray×Nd} (h:l[k]?=some x):(l.take (k+1)).countP (fun y=>decide (y.1=p))=(l.take k).countP (fun y=>decide (y.1=p))+if decide (x.1=p) then 1 else 0:=by
  rw [List.take_add_one,h,Option.toList_some,List.countP_append,List.countP_singleton]
end Go.Proofs.YtodickpibbbiiaaGreatDoor

namespace Go.Proofs.YtodickpibbbiiaaGreatDoor
open Go.RowKit

def noDefer (ops:Array Oper):Bool:=ops.all fun o=>match o.op with | .defer _=>false | _=>true
theorem noDefer_at {ops:Array Oper} (h:noDefer ops=true) {i:Nat} {o:Oper} (ho:ops[i]?=some o):∀ c,o.op≠.defer c:=fun c e=>by
  unfold noDefer at h
  rw [Array.all_eq_true] at h
  obtain ⟨hi,rfl⟩:=Array.getElem?_eq_some_iff.1 ho
  have:=h i hi
  rw [e] at this
  cases this
variable {F:Fence} {n:Nat} {P:Program} {ops:Array Oper} {C:World→Prop} {md:Region.Mode}
theorem wpIn_of_quietR {o:Oper} {a:Act} {K:Act→Prop} {K':Act→World→Prop} {Q':Exit→Act→World→Prop} {w:World} (hnd:∀ c,o.op≠.defer c) (hw:C w) (h:∀ a w',C w'→K a→K' a w')
    (ha:o.askedIn F P a C) (hh:o.quietIn F n P a C K):o.wpIn F n P a w K' Q':=by
  obtain ⟨v,h1,h2⟩:=hh
  have h3:=h1 w hw
  unfold Oper.quietAtIn at h3
  unfold Oper.wpIn
  refine ⟨ha w hw,?_⟩
  rw [Oper.semAt_plain F _ _ hnd]
  generalize (execOp a.eval o).run P w=r at *
  cases r with
  | ok x w' =>
    cases x <;> simp only [Oper.quietUponIn] at h3 <;> simp only [Oper.uponIn]
    case value u =>
      obtain ⟨e1,e2⟩:=h3
      rw [e1,e2]
      exact h _ _ hw h2
    case skip =>
      obtain ⟨e1,e2⟩:=h3
      rw [e1,←e2]
      exact h _ _ hw h2
    case enter f args =>
      obtain ⟨e1,hd,hc⟩:=h3
      rw [e1]
      exact ⟨hd,hc.mono fun e w'' ⟨he,hw''⟩=>by subst he;exact h _ _ hw'' h2⟩
  | halt x w'=>simp only [Oper.quietUponIn] at h3
theorem wpOpIn_of_qOpInR {i:Nat} {a:Act} {K:Act→Prop} {K':Act→World→Prop} {Q':Exit→Act→World→Prop} {w:World} (hnd:noDefer ops=true) (hC:C w) (h:∀ a w',C w'→K a→K' a w')
    (hh:qOpIn F n P ops C i K a):wpOpIn F n P ops Q' i K' a w:=by
  unfold qOpIn at hh
  unfold wpOpIn
  split
  · rename_i ho;simp only [ho] at hh;exact h _ _ hC hh
  · rename_i o ho
    simp only [ho] at hh
    obtain ⟨ha,hh⟩:=hh
    split
    · rename_i hw;simp only [hw,if_true] at hh;exact wpIn_of_quietR (noDefer_at hnd ho) hC h ha hh
    · rename_i hw;simp only [hw] at hh;exact ⟨ha w hC,h _ _ hC hh⟩
theorem wpAnyIn_of_quietR {Q:Act→Prop} {Q':Exit→Act→World→Prop} (hnd:noDefer ops=true) (hQ:∀ a w,C w→Q a→Q' .normal a w):∀ (fuel:Nat) (listed:Array Bool) (a:Act) (w:World),C w →
    wpAnyQIn F n P md ops C Q fuel listed a→wpAnyIn F n P md ops Q' fuel listed a w
  | 0,_,_,_,hw,h=>⟨h.1,hQ _ _ hw h.2⟩
  | fuel+1,_,_,_,hw,h=>⟨fun h0=>hQ _ _ hw (h.1 h0),fun i hi=>wpOpIn_of_qOpInR hnd hw (fun a' w' hw'=>wpAnyIn_of_quietR hnd hQ fuel _ a' w' hw') (h.2 i hi)⟩
theorem wpIn_region_quietR {id:Nat} {Q:Exit→Act→World→Prop} {a:Act} {w:World} (hnd:noDefer ops=true) (hm:P.follows .mixedOrders=true) (hB:Region.lexB .any ops=true) (hC:C { w with drawn:=w.drawn+1 })
    (h:wpQuietIn F n P ops C (fun a'=>∀ w',C w'→Q .normal a' w') ops.toList a):(Code.region id ops true).wpIn F n P Q a w:=by
  simp only [Region.lexB,Bool.and_eq_true] at hB
  refine wpIn_region_any hm (wpAnyIn_of_quietR (Q:=fun a'=>∀ w',C w'→Q .normal a' w') hnd (fun _ w' hw' h=>h w' hw') _ _ _ _ hC ?_)
  have:=wpAnyQIn_lex (F:=F) (n:=n) (C:=C) (md:=.any) hB.1 ops.toList 0 (Array.replicate ops.size false) a (by simp) (by simpa using hB.2) h
  simpa using this
theorem wpListIn_storeB {o:Oper} {rest:List Oper} {a:Act} {Q:Exit→Act→World→Prop} {w:World} (hgd:o.guard=none) (ty:TypeId) (x y:Operand) (ho:o.op=.store ty x y)
    (g:Nat) (v u:Value) (hx:a.eval x=.pointer (some ⟨g,0,none⟩)) (hy:a.eval y=v) (hi:(P.info? ty).map (·.size)=some 1) (h1:v.oneCell'=true)
    (t:TypeId) (hg:w.heap[g]?=some (.cells #[u] t (0,0)))
    (h:∀ w1,w1.heap[g]?=some (.cells #[v] t (0,0))→Touch g w w1→wpListIn F n P ops Q rest (a.put o.dst undef) w1):wpListIn F n P ops Q (o::rest) a w:=by
  refine wpListIn_store1 hgd ty x y ho g 0 v hx hy hi h1 #[u] t hg Nat.zero_lt_one fun w1 e=>h w1 ?_ ?_
  · rw [e,setCellB hg]
    rfl
  · rw [e]
    exact ⟨rfl,rfl,rfl,by unfold World.setCell;simp,fun i _ hne=>setCellO fun e=>hne (by rw [e])⟩
theorem KeepsFrom.touch {B g:Nat} {W V:World} (x:Touch g W V) (hg:g<B):KeepsFrom B W V :=
  ⟨x.size,fun j _ hB hj _=>(x.block j (ltB hj) fun e=>by have:=Option.some.inj e;omega).trans hj⟩
theorem KpK.touch {g nb:Nat} {W V:World} (x:Touch g W V) (hg:nb≤g) (hs:nb≤W.heap.size):KpK (fun _=>[g]) nb W V :=
  ⟨(Below.refl nb W).grown x hs fun k e=>by cases e;exact hg,fun b _ ho _ hn=>(x.block b (ltB ho) fun e=>hn (by rw [Option.some.inj e];exact List.mem_singleton.2 rfl)).trans ho,fun _ hb=>.inl hb⟩
end Go.Proofs.YtodickpibbbiiaaGreatDoor
