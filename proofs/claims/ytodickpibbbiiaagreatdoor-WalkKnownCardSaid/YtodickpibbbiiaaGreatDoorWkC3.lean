import Derived.Test.YtodickpibbbiiaaGreatDoorWkC2
import Derived.Test.YtodickpibbbiiaaGreatDoorWkA1
import Derived.Laws.AppendOwnNone
import Derived.Maps.Range
import Derived.Shelf.Strings.SlTrimAscii
import Derived.Outline
open Go.Proofs.Tryz
namespace Go.Proofs.YtodickpibbbiiaaGreatDoor
open Go.RowKit
section
end
section
def Avoid (v u:Value):Prop:=∀ g,u.ownBlock=some g->v.ownBlock≠some g
theorem CellsAt.shape {w:World} {u:Value} {xs:List Value} (h:CellsAt w u xs):∃ a cap,u=.slice a xs.length cap/\xs.length<=cap/\cap<=maxLen/\∀ (j:Nat) x,xs[j]?=some x->∃ g,a=some ⟨g,0,none⟩/\w.cell? ⟨g,j,none⟩=some x:=by
 rcases h with ⟨h1,h2⟩ | ⟨g,cap,h1,h2,h3,h4,h5⟩
 ·subst h2;exact ⟨none,0,h1,Nat.le_refl _,by unfold maxLen;omega,fun j x hj=>by cases hj⟩
 ·exact ⟨_,cap,h1,h3,h4,fun j x hj=>⟨g,rfl,h5 j x hj⟩⟩
theorem patL_err {s:Txt} {k:Nat} (h:patL s=.error k):k=3\/k=4:=by
 unfold patL at h;split at h
 ·cases h;exact .inl rfl
 ·split at h
  ·cases h;exact .inr rfl
  ·split at h
   ·cases h;exact .inr rfl
   ·split at h
    ·cases h;exact .inr rfl
    ·cases h
structure RdInv (w0 w wr:World) (vl v vd vs:Value) (dp ls pats:List ByteArray):Prop where
 grown:w.grownBy wr vl.ownBlock
 ext:Ext w0 wr
 own:wr.ownsRow w0.heap.size 9 1 v pats.length (pats.map Value.string)
 at_:v.ownBlock=vl.ownBlock\/∃ g,v.ownBlock=some g/\w.heap.size<=g
 cd:CellsAt wr vd (dp.map Value.string)
 cs:CellsAt wr vs (ls.map Value.string)
 ad:Avoid v vd
 as_:Avoid v vs
theorem lineL_skip {rd:Txt->RSt->Except Nat RSt} {st:RSt} {s:Txt} (h:(s.isEmpty||Lib.hasPrefix s [47,47])=true):lineL rd st s=.ok st:=by unfold lineL;rw [if_pos h]
theorem lineL_incl {rd:Txt->RSt->Except Nat RSt} {st:RSt} {s:Txt} (h:(s.isEmpty||Lib.hasPrefix s [47,47])=false) (h2:Lib.hasPrefix s inclT=true):lineL rd st s=rd (s.drop 9) ⟨st.pats,st.inc+1⟩:=by
 unfold lineL;rw [h,if_neg (by decide),if_pos h2]
theorem lineL_full {rd:Txt->RSt->Except Nat RSt} {st:RSt} {s:Txt} (h:(s.isEmpty||Lib.hasPrefix s [47,47])=false) (h2:Lib.hasPrefix s inclT=false) (h3:st.pats.length=64):lineL rd st s=.error 3:=by
 unfold lineL;rw [h,if_neg (by decide),h2,if_neg (by decide),if_pos (by simpa using h3)]
theorem lineL_bad {rd:Txt->RSt->Except Nat RSt} {st:RSt} {s:Txt} {k:Nat} (h:(s.isEmpty||Lib.hasPrefix s [47,47])=false) (h2:Lib.hasPrefix s inclT=false) (h3:st.pats.length≠64) (h4:patL s=.error k):lineL rd st s=.error k:=by
 unfold lineL;rw [h,if_neg (by decide),h2,if_neg (by decide),if_neg (by simpa using h3),h4]
theorem lineL_pat {rd:Txt->RSt->Except Nat RSt} {st:RSt} {s:Txt} {p:Pat} (h:(s.isEmpty||Lib.hasPrefix s [47,47])=false) (h2:Lib.hasPrefix s inclT=false) (h3:st.pats.length≠64) (h4:patL s=.ok p):lineL rd st s=.ok ⟨st.pats++[s],st.inc⟩:=by
 unfold lineL;rw [h,if_neg (by decide),h2,if_neg (by decide),if_neg (by simpa using h3),h4]
theorem foldL_ok {f:RSt->Txt->Except Nat RSt} {st st':RSt} {s:Txt} {l:List Txt} (h:f st s=.ok st'):foldL f st (s::l)=foldL f st' l:=by rw [foldL,h]
theorem foldL_err {f:RSt->Txt->Except Nat RSt} {st:RSt} {s:Txt} {l:List Txt} {k:Nat} (h:f st s=.error k):foldL f st (s::l)=.error k:=by rw [foldL,h]
theorem foldL_small {f:RSt->Txt->Except Nat RSt} (hf:∀ st s st',st.inc<=64/\st.pats.length<=64->f st s=.ok st'->st'.inc<=64/\st'.pats.length<=64):∀ (l:List Txt) (st st':RSt),st.inc<=64/\st.pats.length<=64->foldL f st l=.ok st'->st'.inc<=64/\st'.pats.length<=64
 | [],st,st',h,e=>by cases e;exact h
 | s::l,st,st',h,e=>by
  unfold foldL at e;split at e
  ·cases e
  ·rename_i st1 h1;exact foldL_small hf l st1 st' (hf _ _ _ h h1) e
theorem readL_small (fs:List (Txt×Txt)):∀ (n:Nat) (name:Txt) (within:List Txt) (st st':RSt),st.pats.length<=64->readL fs n name within st=.ok st'->st'.inc<=64/\st'.pats.length<=64
 | 0,_,_,_,_,_,e=>by cases e
 | n+1,name,within,st,st',h1,e=>by
  unfold readL at e;split at e
  ·cases e
  ·split at e
   ·cases e
   ·split at e
    ·cases e
    ·rename_i hi;refine foldL_small (fun st s st' hs e=>?_) _ _ _ ⟨by simp at hi;omega,h1⟩ e;unfold lineL at e;split at e
     ·cases e;exact hs
     ·split at e
      ·exact readL_small fs n _ _ ⟨st.pats,st.inc+1⟩ st' hs.2 e
      ·split at e
       ·cases e
       ·rename_i h64;split at e
        ·cases e
        ·cases e
         have:st.pats.length≠64:=by simpa using h64
         exact ⟨hs.1,by simp;omega⟩
theorem trimT_le (l:Txt):(trimT l).length<=l.length:=by
 unfold trimT Lib.trimS Lib.trimLeftS Lib.trimRightS;have h1:=(List.dropWhile_sublist (l:=(l.reverse.dropWhile fun x=>[32,9].contains x).reverse) fun x=>[(32:UInt8),9].contains x).length_le;have h2:=(List.dropWhile_sublist (l:=l.reverse) fun x=>[(32:UInt8),9].contains x).length_le;rw [List.length_reverse] at h1 h2;omega
theorem readL_none {fs:List (Txt×Txt)} {n:Nat} {name:Txt} {within:List Txt} {st:RSt} (h:findL fs name=none):readL fs (n+1) name within st=.error 5:=by rw [readL,h]
theorem readL_busy {fs:List (Txt×Txt)} {n:Nat} {name t:Txt} {within:List Txt} {st:RSt} (h:findL fs name=some t) (h2:within.contains name=true):readL fs (n+1) name within st=.error 22:=by
 rw [readL,h];simp only [h2,if_true]
theorem readL_long {fs:List (Txt×Txt)} {n:Nat} {name t:Txt} {within:List Txt} {st:RSt} (h:findL fs name=some t) (h2:within.contains name=false) (h3:4<within.length+1\/64<st.inc):readL fs (n+1) name within st=.error 3:=by
 rw [readL,h];simp only [h2];rw [if_neg (by decide),if_pos (by simpa using h3)]
theorem readL_go {fs:List (Txt×Txt)} {n:Nat} {name t:Txt} {within:List Txt} {st:RSt} (h:findL fs name=some t) (h2:within.contains name=false) (h3:within.length<=3) (h4:st.inc<=64) :
  readL fs (n+1) name within st=foldL (lineL fun nm st=>readL fs n nm (within++[name]) st) st (linesL t):=by
 rw [readL,h];simp only [h2];rw [if_neg (by decide),if_neg (by simp;omega)]
end
section
def firstL:List Txt->Txt->Bool×Bool
 | [],_=>(false,false)
 | t::ts,s=>match patL t with
  | .error _=>firstL ts s
  | .ok p=>if matchL p s then (!p.marks.neg,!p.marks.neg&&p.marks.del) else firstL ts s
def matchesL (ts:List Txt) (s:ByteArray):Bool×Bool:=if mayB s then firstL ts s.toList else (false,false)
theorem firstL_hit {t:Txt} {ts:List Txt} {s:Txt} {p:Pat} (h:patL t=.ok p) (hm:matchL p s=true):firstL (t::ts) s=(!p.marks.neg,!p.marks.neg&&p.marks.del):=by rw [firstL,h];simp only [hm,if_true]
theorem firstL_miss {t:Txt} {ts:List Txt} {s:Txt} {p:Pat} (h:patL t=.ok p) (hm:matchL p s=false):firstL (t::ts) s=firstL ts s:=by rw [firstL,h];simp [hm]
end
section
theorem trim_any (s:ByteArray) (w:World) (hs:s.size<=9223372036854775807) :
  Calls prog 63 #[.string s,.string ⟨#[32,9]⟩] w fun e w'=>e=.returned (.string (bsL (trimT s.toList)))/\Ext w w':=by
 refine (Any.strings_Trim_laid Tryz.lays160 (by kernel_rfl) s ⟨#[32,9]⟩ w hs (by decide) (fun j b hb=>?_)).mono fun e w' ⟨h1,h2⟩=>⟨?_,h2⟩
 ·match j,hb with
  | 0,hb=>cases hb;decide
  | 1,hb=>cases hb;decide
 ·rw [h1,Lib.toList_data];rfl
theorem splitNewline (s:ByteArray) (w:World) (hs:s.size<4294967281) (E:Env w) :
  Calls prog 67 #[.string s,.string ⟨#[10]⟩] w fun e w' =>
   e=.returned (.slice (some ⟨w.heap.size,0,none⟩) (nlOf s).length (nlOf s).length)/\w'=w.alloc (.cells ((nlOf s).map Value.string).toArray 9):=by
 obtain ⟨m,hm⟩:=E.maxlen;have h:=Lib.splitB_all ⟨#[10]⟩ (by decide) 0 _ s rfl;have h2:=Tryz.strings_Split s ⟨#[10]⟩ m _ hs hm (by decide);rw [show (nlOf s).length=Lib.countB s ⟨#[10]⟩+1 from h];exact h2
theorem nlOf_len (s:ByteArray):(nlOf s).length<=s.size+1:=by
 have h:(nlOf s).length=Lib.countB s ⟨#[10]⟩+1:=Lib.splitB_all ⟨#[10]⟩ (by decide) 0 _ s rfl;have:=Lib.countB_le ⟨#[10]⟩ (by decide) s.size s (Nat.le_refl _);omega
theorem nlOf_sizes (s x:ByteArray) (h:x∈nlOf s):x.size<=s.size:=splitB_sizes _ _ _ _ h
def findB:List (ByteArray×ByteArray)->ByteArray->Option (ByteArray×ByteArray)
 | [],_=>none
 | f::fs,n=>if f.1=n then some f else findB fs n
theorem findB_list (fs:List (ByteArray×ByteArray)) (n:ByteArray):findL (fsL fs) n.toList=(findB fs n).map fun f=>f.2.toList:=by
 induction fs with
 | nil=>rfl
 | cons f fs ih =>
  show (if f.1.toList==n.toList then some f.2.toList else findL (fsL fs) n.toList)=_
  by_cases h:f.1=n
  ·rw [findB,if_pos h,h];simp
  ·rw [findB,if_neg h,<-ih,if_neg (by simpa using fun e=>h (ba_ext e))]
theorem findB_name {fs:List (ByteArray×ByteArray)} {n:ByteArray} {f:ByteArray×ByteArray} (h:findB fs n=some f):f∈fs:=by
 induction fs with
 | nil=>cases h
 | cons g fs ih =>
  unfold findB at h;split at h
  ·cases h;exact List.mem_cons_self
  ·exact List.mem_cons_of_mem _ (ih h)
def textV (f:ByteArray×ByteArray):Value:=.agg #[.string f.1,.string f.2]
def FarV (s1:Nat) (v:Value) (b:Nat):Prop:=s1+7<=b/\some b≠v.ownBlock
structure IgInv (w0:World) (s0 s1:Nat) (fs:List (ByteArray×ByteArray)) (wi:List ByteArray) (v:Value) (ps:List (ByteArray×Pat×Nat)) (inc n:Nat) (w:World):Prop where
 ext:Ext w0 w
 env:Env w0
 ord:w0.heap.size<=s0/\s0+2<=s1
 ct:w.cell? ⟨s0+1,0,none⟩=some (.map (some s0))
 texts:∃ k,MapAt w s0 k fun x=>(findB fs x).map textV
 co:w.cell? ⟨s1+3,0,none⟩=some (.map (some (s1+2)))
 opens:∃ f,MapAt w (s1+2) n f/\∀ x,x.size<=maxLen->(f x).getD (.int .i64 0)=.int .i64 (if (wi.map (·.toList)).contains x.toList then 1 else 0)
 ci:w.heap[s1+4]?=some (.cells #[.int .i64 inc] 3 (0,0))
 cr:w.cell? ⟨s1+5,0,none⟩=some (.func (.func 66) #[] #[.pointer (some ⟨s0+1,0,none⟩),.pointer (some ⟨s1+3,0,none⟩),.pointer (some ⟨s1+4,0,none⟩),.pointer (some ⟨s1+6,0,none⟩)])
 cn:w.cell? ⟨s1+6,0,none⟩=some (.func (.func 62) #[] #[.pointer (some ⟨s1+4,0,none⟩),.pointer (some ⟨s1+5,0,none⟩),.pointer (some ⟨s1+1,0,none⟩)])
 cl:w.cell? ⟨s1+1,0,none⟩=some (.pointer (some ⟨s1,0,none⟩))
 blk:w.heap[s1]?=some (.cells #[v] 139 (0,0))
 size:s1+7<=w.heap.size
 own:w.ownsRow (s1+7) 144 1 v ps.length (ps.map fun x=>Value.pointer (some ⟨x.2.2,0,none⟩))
 pats:∀ x∈ps,PatAt w (FarV s1 v) x.2.2 x.1 x.2.1/\patL x.1.toList=.ok x.2.1
theorem IgInv.on {w0 w w1:World} {s0 s1:Nat} {fs:List (ByteArray×ByteArray)} {wi:List ByteArray} {v:Value} {ps:List (ByteArray×Pat×Nat)} {inc n:Nat} (I:IgInv w0 s0 s1 fs wi v ps inc n w) (x:Ext w w1):IgInv w0 s0 s1 fs wi v ps inc n w1:=by
 obtain ⟨k,hk⟩:=I.texts;obtain ⟨f,hf,hf2⟩:=I.opens
 refine ⟨I.ext.trans x,I.env,I.ord,(x.cell (lt_of_cell I.ct)).trans I.ct,⟨k,hk.ext x⟩,(x.cell (lt_of_cell I.co)).trans I.co,⟨f,hf.ext x,hf2⟩,(x.block (lt_of_block I.ci)).trans I.ci,(x.cell (lt_of_cell I.cr)).trans I.cr,(x.cell (lt_of_cell I.cn)).trans I.cn,
  (x.cell (lt_of_cell I.cl)).trans I.cl,(x.block (lt_of_block I.blk)).trans I.blk,Nat.le_trans I.size x.size,owns_ext I.own x,fun y hy=>⟨(I.pats y hy).1.ext x,(I.pats y hy).2⟩⟩
theorem IgInv.ext_set {w0 w w1:World} {s0 s1:Nat} {fs:List (ByteArray×ByteArray)} {wi:List ByteArray} {v:Value} {ps:List (ByteArray×Pat×Nat)} {inc n:Nat} (I:IgInv w0 s0 s1 fs wi v ps inc n w) {b:Nat} (hb:s1<=b) (hg:w.grownBy w1 (some b)):Ext w0 w1 :=
 I.ext.grown hg I.ext.size (fun k hk=>by cases hk;have:=I.ord;omega)
theorem IgInv.included {w0 w:World} {s0 s1:Nat} {fs:List (ByteArray×ByteArray)} {wi:List ByteArray} {v:Value} {ps:List (ByteArray×Pat×Nat)} {inc n:Nat} (I:IgInv w0 s0 s1 fs wi v ps inc n w) (j:Nat) :
  IgInv w0 s0 s1 fs wi v ps j n (w.setCell ⟨s1+4,0,none⟩ (.int .i64 j)):=by
 obtain ⟨k,hk⟩:=I.texts;obtain ⟨f,hf,hf2⟩:=I.opens;have ho:=I.ord;have oth:∀ b,b≠s1+4->(w.setCell ⟨s1+4,0,none⟩ (.int .i64 j)).heap[b]?=w.heap[b]?:=fun b hb=>heap_setCell_other _ _ _ _ hb;have cel:∀ b,b≠s1+4->(w.setCell ⟨s1+4,0,none⟩ (.int .i64 j)).cell? ⟨b,0,none⟩=w.cell? ⟨b,0,none⟩:=fun b hb=>World.cell?_of_block (oth b hb)
 refine ⟨I.ext.setCell (by show w0.heap.size<=s1+4;omega) _,I.env,I.ord,(cel _ (by omega)).trans I.ct,⟨k,hk.kept (oth _ (by omega))⟩,(cel _ (by omega)).trans I.co,⟨f,hf.kept (oth _ (by omega)),hf2⟩,?_,(cel _ (by omega)).trans I.cr,(cel _ (by omega)).trans I.cn,
  (cel _ (by omega)).trans I.cl,(oth _ (by omega)).trans I.blk,by simpa using I.size,owns_setCell I.own (by omega),fun y hy=>⟨(I.pats y hy).1.stays (Stays.setCell w (fun h=>by have:=h.1;omega) _),(I.pats y hy).2⟩⟩
 ·exact heap_setCell_same w (s1+4) 0 _ _ (.int .i64 j) I.ci
theorem IgInv.mapped {w0 w w1:World} {s0 s1:Nat} {fs:List (ByteArray×ByteArray)} {wi wi':List ByteArray} {v:Value} {ps:List (ByteArray×Pat×Nat)} {inc n n':Nat} (I:IgInv w0 s0 s1 fs wi v ps inc n w) (hg:w.grownBy w1 (some (s1+2)))
  (hM:∃ f,MapAt w1 (s1+2) n' f/\∀ x,x.size<=maxLen->(f x).getD (.int .i64 0)=.int .i64 (if (wi'.map (·.toList)).contains x.toList then 1 else 0)) :
  IgInv w0 s0 s1 fs wi' v ps inc n' w1:=by
 obtain ⟨k,hk⟩:=I.texts;have ho:=I.ord;have hs:=I.size;have oth:∀ b,b<w.heap.size->b≠s1+2->w1.heap[b]?=w.heap[b]?:=fun b hl hb=>hg.block b hl (fun e=>hb (Option.some.inj e));have cel:∀ b,b<w.heap.size->b≠s1+2->w1.cell? ⟨b,0,none⟩=w.cell? ⟨b,0,none⟩:=fun b hl hb=>World.cell?_of_block (oth b hl hb)
 refine ⟨I.ext_set (by omega) hg,I.env,I.ord,(cel _ (by omega) (by omega)).trans I.ct,⟨k,hk.kept (oth _ (by omega) (by omega))⟩,(cel _ (by omega) (by omega)).trans I.co,hM,(oth _ (by omega) (by omega)).trans I.ci,(cel _ (by omega) (by omega)).trans I.cr,(cel _ (by omega) (by omega)).trans I.cn,
  (cel _ (by omega) (by omega)).trans I.cl,(oth _ (by omega) (by omega)).trans I.blk,Nat.le_trans hs hg.size,I.own.kept hg (.inr (fun e=>?_)),fun y hy=>⟨(I.pats y hy).1.stays (Stays.grown hg (fun k hk h=>by cases hk;have:=h.1;omega)),(I.pats y hy).2⟩⟩
 have:=(I.own.lt _ e).1;omega
structure IgStep (s1:Nat) (v v':Value) (w w':World):Prop where
 stays:Stays (FarV s1 v) w w'
 far:∀ b,b<w.heap.size->FarV s1 v b->FarV s1 v' b
theorem IgStep.trans {s1:Nat} {v v' v'':Value} {a b c:World} (h:IgStep s1 v v' a b) (k:IgStep s1 v' v'' b c):IgStep s1 v v'' a c :=
 ⟨⟨Nat.le_trans h.stays.size k.stays.size,fun x hx hl=>(k.stays.block x (h.far x hl hx) (Nat.lt_of_lt_of_le hl h.stays.size)).trans (h.stays.block x hx hl)⟩,
  fun x hl hx=>k.far x (Nat.lt_of_lt_of_le hl h.stays.size) (h.far x hl hx)⟩
theorem IgStep.of_ext {s1:Nat} {v:Value} {w w':World} (x:Ext w w'):IgStep s1 v v w w':=⟨x.stays _,fun _ _ h=>h⟩
theorem IgStep.of_set {s1 b:Nat} {v u:Value} {w:World} (hb:b<s1+7):IgStep s1 v v w (w.setCell ⟨b,0,none⟩ u):=⟨Stays.setCell w (fun h=>by have:=h.1;omega) u,fun _ _ h=>h⟩
theorem IgStep.of_map {s1:Nat} {v:Value} {w w':World} (hg:w.grownBy w' (some (s1+2))):IgStep s1 v v w w':=⟨Stays.grown hg (fun k hk h=>by cases hk;have:=h.1;omega),fun _ _ h=>h⟩
theorem IgInv.pushed {w0 w w1 w2:World} {s0 s1:Nat} {fs:List (ByteArray×ByteArray)} {wi:List ByteArray} {v v':Value} {ps:List (ByteArray×Pat×Nat)} {inc n bp:Nat} {t:ByteArray} {p:Pat} (I:IgInv w0 s0 s1 fs wi v ps inc n w) (x1:Ext w w1)
  (hp:PatAt w1 (fun b=>w.heap.size<=b) bp t p) (ht:patL t.toList=.ok p)
  (hown:w2.ownsRow (s1+7) 144 1 v' (ps.length+1) ((ps.map fun x=>Value.pointer (some ⟨x.2.2,0,none⟩))++[.pointer (some ⟨bp,0,none⟩)])) (hg:w1.grownBy w2 v.ownBlock)
  (hw:v'.ownBlock=v.ownBlock\/v'.ownBlock=some w1.heap.size) :
  IgInv w0 s0 s1 fs wi v' (ps++[(t,p,bp)]) inc n (w2.setCell ⟨s1,0,none⟩ v')/\IgStep s1 v v' w (w2.setCell ⟨s1,0,none⟩ v'):=by
 have I1:=I.on x1;obtain ⟨k,hk⟩:=I1.texts;obtain ⟨f,hf,hf2⟩:=I1.opens;have ho:=I.ord;have hs:=I1.size;have hs0:=I.size;have hge:=own_block_ge_k I1.own;have hlo:=fun k hk=>(I.own.lt k hk).2
 have oth:∀ b,b<s1+7->b≠s1->(w2.setCell ⟨s1,0,none⟩ v').heap[b]?=w1.heap[b]?:=fun b hl hb=>by
  rw [heap_setCell_other _ _ _ _ hb,hg.block b (by omega) (fun e=>by have:=hge b e.symm;omega)]
 have cel:∀ b,b<s1+7->b≠s1->(w2.setCell ⟨s1,0,none⟩ v').cell? ⟨b,0,none⟩=w1.cell? ⟨b,0,none⟩:=fun b hl hb=>World.cell?_of_block (oth b hl hb);have hS:Stays (FarV s1 v) w1 (w2.setCell ⟨s1,0,none⟩ v'):=(Stays.grown hg (fun k hk hf=>hf.2 hk.symm)).trans (Stays.setCell _ (fun hf=>by have:=hf.1;omega) _)
 have farv:∀ b,b<w1.heap.size->FarV s1 v b->FarV s1 v' b:=fun b hb hf=>⟨hf.1,fun e=>by
  rcases hw with h | h
  ·exact hf.2 (e.trans h)
  ·have:=Option.some.inj (e.trans h);omega⟩
 refine ⟨⟨?_,I.env,I.ord,(cel _ (by omega) (by omega)).trans I1.ct,⟨k,hk.kept (oth _ (by omega) (by omega))⟩,(cel _ (by omega) (by omega)).trans I1.co,⟨f,hf.kept (oth _ (by omega) (by omega)),hf2⟩,(oth _ (by omega) (by omega)).trans I1.ci,
  (cel _ (by omega) (by omega)).trans I1.cr,(cel _ (by omega) (by omega)).trans I1.cn,(cel _ (by omega) (by omega)).trans I1.cl,?_,?_,?_,fun y hy=>?_⟩,⟨?_,?_⟩⟩
 ·exact (I1.ext.grown hg I1.ext.size (fun k hk=>by have:=hge k hk;omega)).setCell (by show w0.heap.size<=s1;omega) _
 ·exact heap_setCell_same w2 s1 0 _ _ v' ((hg.block s1 (by omega) (fun e=>by have:=hge s1 e.symm;omega)).trans I1.blk)
 ·have:=hg.size;simp;omega
 ·rw [List.length_append,List.map_append];exact owns_setCell hown (by omega)
 ·have key:PatAt w1 (FarV s1 v) y.2.2 y.1 y.2.1/\patL y.1.toList=.ok y.2.1:=by
   rcases List.mem_append.1 hy with h | h
   ·exact I1.pats y h
   ·obtain rfl:=List.mem_singleton.1 h;exact ⟨hp.farther (fun b _ hb=>⟨by omega,fun e=>by have:=hlo b e.symm;omega⟩),ht⟩
  have key2:PatAt w1 (fun b=>FarV s1 v b/\FarV s1 v' b) y.2.2 y.1 y.2.1:=key.1.farther fun b hb hf=>⟨hf,farv b hb hf⟩;exact ⟨(key2.stays (hS.weaken fun b _ hf=>hf.1)).farther fun b _ hf=>hf.2,key.2⟩
 ·exact ⟨Nat.le_trans x1.size hS.size,fun b hb hl=>(hS.block b hb (Nat.lt_of_lt_of_le hl x1.size)).trans (x1.block hl)⟩
 ·exact fun b hl hb=>farv b (Nat.lt_of_lt_of_le hl x1.size) hb
def IgPost (w0:World) (s0 s1:Nat) (fs:List (ByteArray×ByteArray)) (wi:List ByteArray) (v:Value) (inc n slack:Nat) (w:World) (R:Except Nat RSt) (e:Ending) (w':World):Prop:=match R with
 | .error k=>k≠0/\e=.returned (.int .i64 (k:Nat))/\Ext w0 w'
 | .ok st=>∃ v' ps' n',e=.returned (.int .i64 0)/\(ps'.map fun x=>x.1.toList)=st.pats/\IgInv w0 s0 s1 fs wi v' ps' st.inc n' w'/\n'+2*inc<=n+slack+2*st.inc/\IgStep s1 v v' w w'
theorem IgPost.err {w0 w w':World} {s0 s1:Nat} {fs:List (ByteArray×ByteArray)} {wi:List ByteArray} {v:Value} {inc n slack k:Nat} {R:Except Nat RSt} (h:R=.error k) (hk:k≠0) (x:Ext w0 w') :
  IgPost w0 s0 s1 fs wi v inc n slack w R (.returned (.int .i64 (k:Nat))) w':=by unfold IgPost;rw [h];exact ⟨hk,rfl,x⟩
theorem IgPost.ok {w0 w w':World} {s0 s1:Nat} {fs:List (ByteArray×ByteArray)} {wi:List ByteArray} {v v':Value} {inc n n' slack inc':Nat} {R:Except Nat RSt} {ps':List (ByteArray×Pat×Nat)} (h:R=.ok ⟨ps'.map fun x=>x.1.toList,inc'⟩)
  (I:IgInv w0 s0 s1 fs wi v' ps' inc' n' w') (hn:n'+2*inc<=n+slack+2*inc') (S:IgStep s1 v v' w w'):IgPost w0 s0 s1 fs wi v inc n slack w R (.returned (.int .i64 0)) w':=by
 unfold IgPost;rw [h];exact ⟨v',ps',n',rfl,rfl,I,hn,S⟩
end
section
def ReadsAt (w0:World) (s0 s1:Nat) (fs:List (ByteArray×ByteArray)) (m:Nat) (wi:List ByteArray):Prop:=∀ (name:ByteArray) (v:Value) (ps:List (ByteArray×Pat×Nat)) (inc n:Nat) (w:World),
 name.size<=maxLen->IgInv w0 s0 s1 fs wi v ps inc n w->ps.length<=64->inc<=65->n<=2*inc ->
 Calls prog 66 #[.string name,.int .i64 (wi.length+1:Nat),.pointer (some ⟨s0+1,0,none⟩),.pointer (some ⟨s1+3,0,none⟩),.pointer (some ⟨s1+4,0,none⟩),.pointer (some ⟨s1+6,0,none⟩)] w
  (IgPost w0 s0 s1 fs wi v inc n 2 w (readL (fsL fs) m name.toList (wi.map (·.toList)) ⟨ps.map fun x=>x.1.toList,inc⟩))
theorem own_shape {w:World} {base:Nat} {e:TypeId} {v:Value} {n:Nat} {xs:List Value} (h:w.ownsRow base e 1 v n xs):∃ a c,v=.slice a n c/\n<=c/\c<=maxLen:=by
 rcases h.2 with ⟨h1,h2⟩ | ⟨g,cap,cur,hv,hb,hh,hc,hm,hs,ht⟩
 ·exact ⟨none,0,by rw [h1,h2],by omega,by unfold maxLen;omega⟩
 ·exact ⟨_,cap,hv,hc,hm⟩
theorem new1d {W:World} {g:Nat} {a:Value} {t:TypeId} (h:W.heap[g]?=some (.cells #[a] t (0,0))):∀ (j:Nat) u,[a][j]?=some u->W.cell? ⟨g,j,none⟩=some u:=by
 intro j u hj;rw [cell_of_block h,<-hj];simp
theorem onep (b:Nat):∀ u∈[Value.pointer (some ⟨b,0,none⟩)],u.oneCell'=true:=by
 intro u hu;obtain rfl:=List.mem_singleton.1 hu;rfl
theorem elP:ElemK prog 137 144 (.pointer none) 1 8:=⟨by kernel_rfl,by kernel_rfl,rfl,by decide,by decide⟩
set_option maxHeartbeats 8000000 in
set_option maxRecDepth 100000 in
theorem line_any (w0:World) (s0 s1:Nat) (fs:List (ByteArray×ByteArray)) (m:Nat) (wi:List ByteArray) (hR:ReadsAt w0 s0 s1 fs m wi) (s:ByteArray) (v:Value) (ps:List (ByteArray×Pat×Nat)) (inc n:Nat) (w:World)
  (hs:s.size<4294967281) (hwi:wi.length<=5) (I:IgInv w0 s0 s1 fs wi v ps inc n w) (hps:ps.length<=64) (hinc:inc<=64) (hn:n<=2*inc+1) :
  Calls prog 62 #[.string s,.int .i64 wi.length,.pointer (some ⟨s1+4,0,none⟩),.pointer (some ⟨s1+5,0,none⟩),.pointer (some ⟨s1+1,0,none⟩)] w
   (IgPost w0 s0 s1 fs wi v inc n 0 w (lineL (fun nm st=>readL (fsL fs) m nm (wi.map (·.toList)) st) ⟨ps.map fun x=>x.1.toList,inc⟩ (trimT s.toList))):=by
 have HTr:=fun w=>lh (trim_any s w (by omega));have HRd:=lh hR;have HPa:=fun t w hs=>lh (gparse_any t w hs);obtain ⟨t,ht⟩:∃ t,t=bsL (trimT s.toList):=⟨_,rfl⟩;have htl:t.toList=trimT s.toList:=by rw [ht,bsL_toList]
 have htz:t.size<=s.size:=by rw [<-len_toList t,htl,<-len_toList s];exact trimT_le _
 rw [<-ht] at HTr;rw [<-htl];have HP1:=fun w=>lh (Tryz.strings_HasPrefix t ⟨#[47,47]⟩ w);have HP2:=fun w=>lh (Tryz.strings_HasPrefix t ⟨#[35,105,110,99,108,117,100,101,32]⟩ w);rw [show Lib.hasPrefix t.data.toList (⟨#[47,47]⟩:ByteArray).data.toList=Lib.hasPrefix t.toList [47,47] from by rw [Lib.toList_data]] at HP1;rw [show Lib.hasPrefix t.data.toList (⟨#[35,105,110,99,108,117,100,101,32]⟩:ByteArray).data.toList=Lib.hasPrefix t.toList inclT from by rw [Lib.toList_data];rfl] at HP2;clear ht htl hR;obtain ⟨rd,hrd⟩:∃ rd:Txt->RSt->Except Nat RSt,rd=fun nm st=>readL (fsL fs) m nm (wi.map (·.toList)) st:=⟨_,rfl⟩;rw [<-hrd];have HRD:=lh hrd;have HI:=lh I;have kinc:=@lineL_incl rd ⟨ps.map fun x=>x.1.toList,inc⟩ t.toList;clear hrd I;have hsk:(t.toList.isEmpty||Lib.hasPrefix t.toList [47,47])=true\/(t.toList.isEmpty||Lib.hasPrefix t.toList [47,47])=false:=by cases (t.toList.isEmpty||Lib.hasPrefix t.toList [47,47]) <;> simp
 rcases hsk with hsk | hsk
 ·have HF:=lh (lineL_skip (rd:=rd) (st:=⟨ps.map fun x=>x.1.toList,inc⟩) hsk);clear kinc
  cases he:t.toList.isEmpty with
  | true =>
   have he2:t.toList=[]:=List.isEmpty_iff.1 he;clear hsk HP1 HP2;go_enter func62,ntmps62;go_wp2_with fail;refine ((HTr _).out).mono ?_;rintro e w1 ⟨rfl,x1⟩;have HX:=lh x1;clear x1;go_wp2_with fail;go_ret;exact IgPost.ok HF.out (HI.out.on HX.out) (by omega) (IgStep.of_ext HX.out)
  | false =>
   rw [he,Bool.false_or] at hsk;rw [hsk] at HP1;clear hsk HP2;go_enter func62,ntmps62;go_wp2_with fail;refine ((HTr _).out).mono ?_;rintro e w1 ⟨rfl,x1⟩;have HX:=lh x1;clear x1;go_wp2_with fail;refine ((HP1 _).out).mono ?_;rintro e w2 ⟨rfl,hw2⟩;obtain rfl:=hw2.symm;go_wp2_with fail;go_ret;exact IgPost.ok HF.out (HI.out.on HX.out) (by omega) (IgStep.of_ext HX.out)
 ·have he:t.toList.isEmpty=false:=(Bool.or_eq_false_iff.1 hsk).1;rw [(Bool.or_eq_false_iff.1 hsk).2] at HP1;have HSK:=lh hsk;clear hsk
  cases hq:Lib.hasPrefix t.toList inclT with
  | true =>
   rw [hq] at HP2
   have h9:9<=t.size:=by
    have:=(List.isPrefixOf_iff_prefix.1 hq).length_le;rw [len_toList] at this;exact this
   have HE:=lh (kinc HSK.out hq);clear kinc hq;go_enter func62,ntmps62;go_wp2_with fail;refine ((HTr _).out).mono ?_;rintro e w1 ⟨rfl,x1⟩;have HX:=lh x1;clear x1;go_wp2_with fail;refine ((HP1 _).out).mono ?_;rintro e w2 ⟨rfl,hw2⟩;obtain rfl:=hw2.symm;go_wp2_with fail;refine ((HP2 _).out).mono ?_;rintro e w2 ⟨rfl,hw2⟩;obtain rfl:=hw2.symm;have HI1:=lh (HI.out.on HX.out);have ci:w1.cell? ⟨s1+4,0,none⟩=some (.int .i64 inc):=cell_of_block HI1.out.ci;have fi:w1.frozen? ⟨s1+4,0,none⟩=false:=frozen_of_block HI1.out.ci;have HI2:=lh (HI1.out.included (inc+1));have cr:=HI2.out.cr;rw [show ((inc+1:Nat):Int)=(inc:Int)+1 from by omega] at HI2;obtain ⟨W2,hW2⟩:∃ W2,W2=w1.setCell ⟨s1+4,0,none⟩ (.int .i64 ((inc:Int)+1)):=⟨_,rfl⟩;rw [<-hW2] at HI2;have CR:=After.cell HI2.out.cr;have HST:=lh (show IgStep s1 v v w W2 from by rw [hW2];exact (IgStep.of_ext HX.out).trans (IgStep.of_set (by omega)));go_wp2_with fail;rw [<-hW2];clear hW2 ci fi HTr HPa HP1 HP2;refine wp_region_after_tail 5 (by kernel_rfl) (by kernel_rfl) ?_;simp only [List.take_succ_cons,List.take_zero,List.drop_succ_cons,List.drop_zero]
   repeat (go_big_quiet_step (fail))
   refine wpQuiet_nil ?_;rintro _ ⟨y,rfl⟩;go_wp2_with fail;refine (HRd.out (t.extract 9 t.size) v ps (inc+1) n y.v (by unfold maxLen;simp;omega) (HI2.out.on y.x) hps (by omega) (by omega)).mono ?_;rintro e w3 hres;rw [ext_toList] at hres;have hre:readL (fsL fs) m (t.toList.drop 9) (wi.map (·.toList)) ⟨ps.map fun x=>x.1.toList,inc+1⟩=lineL rd ⟨ps.map fun x=>x.1.toList,inc⟩ t.toList:=by rw [HE.out,HRD.out]
   rw [hre] at hres;clear hre HE HRD;obtain ⟨RR,hRR⟩:∃ RR,RR=lineL rd ⟨ps.map fun x=>x.1.toList,inc⟩ t.toList:=⟨_,rfl⟩;rw [<-hRR] at hres;have HRR:=lh hRR.symm;clear hRR
   cases RR with
   | error k =>
    obtain ⟨hk,rfl,x3⟩:=hres;have HK:=lh hk;have HX3:=lh x3;clear hk x3;go_wp2_with fail;go_ret;exact IgPost.err HRR.out HK.out HX3.out
   | ok st =>
    obtain ⟨v',ps',n',rfl,hp',I',hn',S'⟩:=hres;have HI':=lh I';have HS':=lh ((HST.out.trans (IgStep.of_ext y.x)).trans S');have HP':=lh hp';clear I' S' hp';go_wp2_with fail;go_ret;refine IgPost.ok (inc':=st.inc) (ps':=ps') (by rw [HRR.out,HP'.out]) HI'.out (by omega) HS'.out
  | false =>
   rw [hq] at HP2;obtain ⟨av,cv,rfl,hv1,hv2⟩:=own_shape HI.out.own;unfold maxLen at hv2;by_cases h64:ps.length=64
   ·have HF:=lh (lineL_full (rd:=rd) (st:=⟨ps.map fun x=>x.1.toList,inc⟩) HSK.out hq (by simpa using h64));have n64:((ps.length:Int)==64)=true:=by rw [h64];rfl
    clear hq kinc h64;go_enter func62,ntmps62;go_wp2_with fail;refine ((HTr _).out).mono ?_;rintro e w1 ⟨rfl,x1⟩;have HX:=lh x1;clear x1;go_wp2_with fail;refine ((HP1 _).out).mono ?_;rintro e w2 ⟨rfl,hw2⟩;obtain rfl:=hw2.symm;go_wp2_with fail;refine ((HP2 _).out).mono ?_;rintro e w2 ⟨rfl,hw2⟩;obtain rfl:=hw2.symm;have HI1:=lh (HI.out.on HX.out);have cl:=HI1.out.cl;have cb:w1.cell? ⟨s1,0,none⟩=some (.slice av ps.length cv):=cell_of_block HI1.out.blk;go_wp2_with fail;go_ret;exact IgPost.err HF.out (by decide) HI1.out.ext
   ·have n64:((ps.length:Int)==64)=false:=beq_eq_false_iff_ne.2 (by omega);go_enter func62,ntmps62;go_wp2_with fail;refine ((HTr _).out).mono ?_;rintro e w1 ⟨rfl,x1⟩;have HX:=lh x1;clear x1;go_wp2_with fail;refine ((HP1 _).out).mono ?_;rintro e w2 ⟨rfl,hw2⟩;obtain rfl:=hw2.symm;go_wp2_with fail;refine ((HP2 _).out).mono ?_;rintro e w2 ⟨rfl,hw2⟩;obtain rfl:=hw2.symm;have HI1:=lh (HI.out.on HX.out);have cl:=HI1.out.cl;have cb:w1.cell? ⟨s1,0,none⟩=some (.slice av ps.length cv):=cell_of_block HI1.out.blk;go_wp2_with fail;refine ((HPa t _ (by unfold maxLen;omega)).out).mono ?_;rintro e w2 ⟨x2,hres⟩
    cases hpl:patL t.toList with
    | error k =>
     rw [hpl] at hres;subst hres;have HF:=lh (lineL_bad (rd:=rd) (st:=⟨ps.map fun x=>x.1.toList,inc⟩) HSK.out hq (by simpa using h64) hpl);have hk0:k≠0:=by rcases patL_err hpl with h | h <;> omega
     have n0:((k:Int)==0)=false:=beq_eq_false_iff_ne.2 (by omega);have HX2:=lh (HI1.out.ext.trans x2);clear hpl hq kinc x2;go_wp2_with fail;go_ret;exact IgPost.err HF.out hk0 HX2.out
    | ok p =>
     rw [hpl] at hres;obtain ⟨bp,rfl,hpat⟩:=hres
     have HF:=lh (show lineL rd ⟨ps.map fun x=>x.1.toList,inc⟩ t.toList=.ok ⟨(ps++[(t,p,bp)]).map fun x=>x.1.toList,inc⟩ from by
      rw [lineL_pat HSK.out hq (by simpa using h64) hpl,List.map_append];rfl)
     have HPT:=lh hpl;have HPA:=lh hpat;have HX2:=lh x2;have HI2:=lh (HI1.out.on x2);have hsz:=x2.size;clear hpl hq kinc x2 hpat cl cb;have cl:=HI2.out.cl;have cb:w2.cell? ⟨s1,0,none⟩=some (.slice av ps.length cv):=cell_of_block HI2.out.blk;have fb:w2.frozen? ⟨s1,0,none⟩=false:=frozen_of_block HI2.out.blk;have hlt:s1+1<w2.heap.size:=lt_of_cell cl;have hlt0:s1<w2.heap.size:=by omega
     have hz7:=HI2.out.size;have HW:=lh (show ((w2.alloc (.cells #[.pointer (some ⟨bp,0,none⟩)] 144)).drew).heap[s1]?=_ from ((((Ext.refl w2).alloc _).drew).block hlt0).trans HI2.out.blk);go_wp2_with fail
     go_region_law
      (refine step_append_k elP (s1+7) (.slice av ps.length cv) ps.length (ps.map fun x=>Value.pointer (some ⟨x.2.2,0,none⟩)) (owns_ext HI2.out.own ?_) w2.heap.size [.pointer (some ⟨bp,0,none⟩)] rfl (.tmp 48) (.tmp 50) rfl rfl ?_ ?_ (new1d (t:=144) ?_) (onep bp) ?_ ?_ ?_
       ·repeat (first | exact Ext.refl _ | refine Ext.alloc ?_ _ | refine Ext.drew ?_)
       ·simp [Act.eval]
       ·simp [Act.eval]
       ·exact heap_new_drew rfl
       ·omega
       ·simp;omega
       intro v' w3 hown3 hgr3 hrow3 hwh3;obtain ⟨g3,cap3,rfl,_⟩:=hrow3;have hb3:=(hgr3.block s1 (by simp;omega) (fun e=>by have:=own_block_ge_k HI2.out.own _ e.symm;omega)).trans HW.out;have f53:w3.frozen? ⟨s1,0,none⟩=false:=frozen_of_block hb3;have c53:w3.cell? ⟨s1,0,none⟩=some (.slice av ps.length cv):=cell_of_block hb3;have c13:w3.cell? ⟨s1+1,0,none⟩=some (.pointer (some ⟨s1,0,none⟩)):=(World.cell?_of_block (hgr3.block (s1+1) (by simp;omega) (fun e=>by have:=own_block_ge_k HI2.out.own _ e.symm;omega))).trans ((((Ext.refl w2).alloc _).drew.cell hlt).trans cl);have HPU:=lh (IgInv.pushed (t:=t) (p:=p) (bp:=bp) HI1.out ((HX2.out.alloc _).drew) (HPA.out.ext (((Ext.refl w2).alloc _).drew)) HPT.out hown3 hgr3 hwh3)
       clear hown3 hgr3 hwh3 hb3)
     all_goals
      go_wp2_with fail;go_ret;exact IgPost.ok HF.out HPU.out.1 (by omega) ((IgStep.of_ext HX.out).trans HPU.out.2)
end
section
theorem zText (w:World):(zeroValue 128).run prog w=.ok (.agg #[.string ByteArray.empty,.string ByteArray.empty]) w:=by kernel_rfl
theorem zInt (w:World):(zeroValue 3).run prog w=.ok (.int .i64 0) w:=by kernel_rfl
theorem step_env {w0 w:World} (E:Env w0) (x:Ext w0 w):Env w:=E.ext x
theorem lineL_small {fs:List (Txt×Txt)} {m:Nat} {wi:List Txt} {rd:Txt->RSt->Except Nat RSt} (hrd:rd=fun nm st=>readL fs m nm wi st) {st st':RSt} {s:Txt} (h:st.inc<=64/\st.pats.length<=64) (e:lineL rd st s=.ok st'):st'.inc<=64/\st'.pats.length<=64:=by
 unfold lineL at e;split at e
 ·cases e;exact h
 ·split at e
  ·rw [hrd] at e;exact readL_small fs m _ _ ⟨st.pats,st.inc+1⟩ st' h.2 e
  ·split at e
   ·cases e
   ·rename_i h64;split at e
    ·cases e
    ·cases e
     have:st.pats.length≠64:=by simpa using h64
     exact ⟨h.1,by simp;omega⟩
theorem contains_app (l:List Txt) (n x:Txt):(l++[n]).contains x=(l.contains x||x==n):=by
 rw [Bool.eq_iff_iff,Bool.or_eq_true,List.contains_iff_mem,List.contains_iff_mem,List.mem_append,List.mem_singleton,beq_iff_eq]
set_option maxHeartbeats 8000000 in
set_option maxRecDepth 100000 in
theorem read_any (w0:World) (s0 s1:Nat) (fs:List (ByteArray×ByteArray)) (hfs:∀ f∈fs,f.2.size<4294967281):∀ (m:Nat) (wi:List ByteArray),1<=m->wi.length+m=5->ReadsAt w0 s0 s1 fs m wi:=by
 intro m
 induction m with
 | zero=>intro wi h;exact absurd h (by decide)
 | succ m ih =>
  intro wi _ hm name v ps inc n w hname I hps hinc hn;have IH:=lh ih;have HI:=lh I;have E:=step_env I.env I.ext;have HSp:=fun s w hs E=>lh (splitNewline s w hs E);obtain ⟨kt,hkt⟩:=I.texts;obtain ⟨fo,hfo,hfo2⟩:=I.opens;have rt:=hkt.look_ok underlying135 (zText w) name hname;have ro:=fun (x:World) (hx:MapAt x (s1+2) n fo)=>hx.look underlying140 (zInt x) name hname;have hgo:=hfo2 name hname;have ct:=I.ct;have co:=I.co;have ci:w.cell? ⟨s1+4,0,none⟩=some (.int .i64 inc):=cell_of_block I.ci;have hsz:=I.size;have hord:=I.ord;have l3:s1+3<w.heap.size:=by omega
  have l4:s1+4<w.heap.size:=by omega
  have HFO:=lh hfo;have HFO2:=lh hfo2;have HFS:=lh hfs;clear ih I hkt hfo hfo2 hfs;have hfl:=findB_list fs name
  cases hf:findB fs name with
  | none =>
   rw [hf] at rt hfl;have HF:=lh (readL_none (n:=m) (within:=wi.map (·.toList)) (st:=⟨ps.map fun x=>x.1.toList,inc⟩) hfl);have rt2:(Instr.lookup 135 (.map (some s0)) (.string name) true).run prog w=.ok (.tuple #[.agg #[.string ByteArray.empty,.string ByteArray.empty],.bool false]) w:=rt;clear hf hfl rt ro hgo;go_enter func66,ntmps66;go_wp2_with fail;go_ret;exact IgPost.err HF.out (by decide) (HI.out.ext.alloc _)
  | some f =>
   rw [hf] at rt hfl;have hfm:=findB_name hf;have rt2:(Instr.lookup 135 (.map (some s0)) (.string name) true).run prog w=.ok (.tuple #[.agg #[.string f.1,.string f.2],.bool true]) w:=rt;have hfz:=HFS.out f hfm;have HFL:=lh (show findL (fsL fs) name.toList=some f.2.toList from hfl);clear hf hfl rt hfm HFS
   cases hc:(wi.map (·.toList)).contains name.toList with
   | true =>
    rw [hc] at hgo;have HF:=lh (readL_busy (n:=m) (st:=⟨ps.map fun x=>x.1.toList,inc⟩) HFL.out hc);have ro2:=ro (w.alloc (.cells #[.string f.1,.string f.2] 128)) (HFO.out.ext ((Ext.refl w).alloc _));rw [hgo] at ro2;clear hc hgo ro;go_enter func66,ntmps66;go_wp2_with fail;go_ret;exact IgPost.err HF.out (by decide) (HI.out.ext.alloc _)
   | false =>
    rw [hc] at hgo;have ro2:=ro (w.alloc (.cells #[.string f.1,.string f.2] 128)) (HFO.out.ext ((Ext.refl w).alloc _));rw [hgo] at ro2;have HCT:=lh hc;clear hgo ro hc;by_cases h4:4<wi.length+1
    ·have HF:=lh (readL_long (n:=m) (st:=⟨ps.map fun x=>x.1.toList,inc⟩) HFL.out HCT.out (.inl (by simpa using h4)));have d4:decide ((4:Int)<(wi.length:Int)+1)=true:=by rw [decide_eq_true_eq];omega
     go_enter func66,ntmps66;go_wp2_with fail;go_ret;exact IgPost.err HF.out (by decide) (HI.out.ext.alloc _)
    ·have d4:decide ((4:Int)<(wi.length:Int)+1)=false:=by rw [decide_eq_false_iff_not];omega
     by_cases h64:64<inc
     ·have HF:=lh (readL_long (n:=m) (st:=⟨ps.map fun x=>x.1.toList,inc⟩) HFL.out HCT.out (.inr h64));have d5:decide ((64:Int)<(inc:Int))=true:=by rw [decide_eq_true_eq];omega
      go_enter func66,ntmps66;go_wp2_with fail;go_ret;exact IgPost.err HF.out (by decide) (HI.out.ext.alloc _)
     ·have d5:decide ((64:Int)<(inc:Int))=false:=by rw [decide_eq_false_iff_not];omega
      have HF:=lh (readL_go (n:=m) (st:=⟨ps.map fun x=>x.1.toList,inc⟩) HFL.out HCT.out (by simp;omega) (by show inc<=64;omega));have l5:s1+6<w.heap.size:=by omega
      obtain ⟨W1,hW1⟩:∃ W1,W1=w.alloc (.cells #[.string f.1,.string f.2] 128):=⟨_,rfl⟩;have hx1:Ext w W1:=hW1▸(Ext.refl w).alloc _;obtain ⟨w2,hup,hM2,hg2,hz2⟩:=(HFO.out.ext hx1).store underlying140 (by unfold maxLen;omega) name hname (.int .i64 1);rw [hW1] at hup
      have hI2:IgInv w0 s0 s1 fs (wi++[name]) v ps inc (n+1) w2:=(HI.out.on hx1).mapped hg2 ⟨_,hM2,fun x hx=>by
       rw [List.map_append,List.map_cons,List.map_nil,contains_app];by_cases e:x=name
       ·subst e;rw [if_pos rfl];simp
       ·rw [if_neg e,HFO2.out x hx,show (x.toList==name.toList)=false from by simpa using fun q=>e (ba_ext q),Bool.or_false]⟩
      have b9:w2.heap[w.heap.size]?=some (.cells #[.string f.1,.string f.2] 128 (0,0)):=by
       rw [hg2.block w.heap.size (by rw [hW1];simp) (fun e=>by have:=Option.some.inj e;omega),hW1];exact heap_alloc_new _ _
      have c9:w2.cell? ⟨w.heap.size,1,none⟩=some (.string f.2):=cell_of_block b9;have HST:=lh (show IgStep s1 v v w w2 from (IgStep.of_ext hx1).trans (IgStep.of_map hg2));have HI2:=lh hI2;have E2:Env w2:=step_env HI.out.env hI2.ext;have hws:w.heap.size<=w2.heap.size:=by rw [hz2,hW1];simp
      clear hM2 hg2 hz2 hI2 b9 hx1 hW1 HFO HFO2;go_enter func66,ntmps66;go_wp2_with fail;refine ((HSp f.2 w2 hfz E2).out).mono ?_;rintro e w3 ⟨rfl,hw3⟩;have hx3:Ext w2 w3:=hw3▸(Ext.refl w2).alloc _;have hb3:w3.heap[w2.heap.size]?=some (.cells ((nlOf f.2).map Value.string).toArray 9 (0,0)):=by rw [hw3];exact heap_alloc_new _ _
      have hnl:=nlOf_len f.2;have hnz:=nlOf_sizes f.2;have hls:=nlOf_lines f.2;obtain ⟨ls,hlsd⟩:∃ ls,ls=nlOf f.2:=⟨_,rfl⟩;rw [<-hlsd] at hb3 hnl hnz hls ⊢;obtain ⟨rd,hrd⟩:∃ rd:Txt->RSt->Except Nat RSt,rd=fun nm st=>readL (fsL fs) m nm ((wi++[name]).map (·.toList)) st:=⟨_,rfl⟩;obtain ⟨RR,hRR⟩:∃ RR,RR=readL (fsL fs) (m+1) name.toList (wi.map (·.toList)) ⟨ps.map fun x=>x.1.toList,inc⟩:=⟨_,rfl⟩;have HEQ:=lh hRR.symm;have HF1:=lh (show RR=foldL (lineL rd) ⟨ps.map fun x=>x.1.toList,inc⟩ (ls.map fun x=>trimT x.toList) from by rw [hRR,HF.out,hrd,hls,List.map_append];rfl);have HRD:=lh hrd;have HI3:=lh (HI2.out.on hx3);have HS3:=lh (HST.out.trans (IgStep.of_ext hx3));have HB3:=lh hb3;have HNZ:=lh hnz;have HFAR:=lh (show FarV s1 v w2.heap.size from ⟨by omega,fun e=>by have:=(HI2.out.own.lt _ e.symm).2;omega⟩);have HRA:=lh (IH.out (wi++[name]) (by omega) (by simp;omega));have hlen:(wi++[name]).length=wi.length+1:=by simp
      have HLN:=lh hlen;clear hw3 hx3 hb3 hnz hls hlsd hrd hRR HF HST HI2 IH HSp hup rt2 ro2 ct co ci c9 hlen E E2;generalize w2.heap.size=gL at *;go_wp2_with fail
      go_loopw [43] (fun iv wr=>Hid (∃ (k:Nat) (v':Value) (ps':List (ByteArray×Pat×Nat)) (ic n':Nat),k<=ls.length/\iv=.int .i64 k/\RR=foldL (lineL rd) ⟨ps'.map fun x=>x.1.toList,ic⟩ ((ls.drop k).map fun x=>trimT x.toList)/\ps'.length<=64/\ic<=64/\n'+2*inc<=n+1+2*ic /\
       IgInv w0 s0 s1 fs (wi++[name]) v' ps' ic n' wr/\IgStep s1 v v' w wr/\FarV s1 v' gL/\wr.heap[gL]?=some (.cells (ls.map Value.string).toArray 9 (0,0)))) (fun iv _=>ls.length - (intOf iv).toNat)
      case atStart=>exact ⟨0,v,ps,inc,n+1,Nat.zero_le _,rfl,HF1.out,hps,by omega,by omega,HI3.out,HS3.out,HFAR.out,HB3.out⟩
      case round =>
       obtain ⟨k,v',ps',ic,n',hk,rfl,hR,hps',hic,hn',I,S,hfar,hb⟩:=hrel.out;clear hrel HI3 HS3 HFAR HB3 HF1;have HRR:=lh hR;have HI:=lh I;have HS:=lh S;have HB:=lh hb;have HFAR:=lh hfar;clear hR I S hb hfar;by_cases hlt:k<ls.length
       ·obtain ⟨x,hx⟩:∃ x,ls[k]?=some x:=⟨_,List.getElem?_eq_getElem hlt⟩
        have hdr:ls.drop k=x::ls.drop (k+1):=by
         obtain ⟨h1,h2⟩:=List.getElem?_eq_some_iff.1 hx;rw [List.drop_eq_getElem_cons h1,h2]
        rw [hdr,List.map_cons] at HRR;have hxz:=HNZ.out x (List.mem_of_getElem? hx);have c1:wr.cell? ⟨gL,k,none⟩=some (.string x):=(cell_of_block HB.out).trans (by simp [hx]);have cn:=HI.out.cn;clear hx hdr;go_wp2_with fail;have HL1:=line_any w0 s0 s1 fs m (wi++[name]) HRA.out x v' ps' ic n' wr (by omega) (by rw [HLN.out];omega) HI.out hps' hic (by omega);rw [HLN.out,<-HRD.out] at HL1;have HL1:=lh HL1;refine HL1.out.mono ?_;clear HL1;rintro e w4 hres;obtain ⟨RL,hRL⟩:∃ RL,RL=lineL rd ⟨ps'.map fun x=>x.1.toList,ic⟩ (trimT x.toList):=⟨_,rfl⟩;rw [<-hRL] at hres
        cases RL with
        | error ke =>
         obtain ⟨hk0,rfl,hx4⟩:=hres;have HF2:=lh (HRR.out.trans (foldL_err hRL.symm));have n0:((ke:Int) != 0)=true:=by rw [bne,beq_eq_false_iff_ne.2 (by omega)];rfl
         have HK0:=lh hk0;have HX4:=lh hx4;clear hRL HRR hk0 hx4;go_wp2_with fail;go_ret;exact IgPost.err (HEQ.out.trans HF2.out) HK0.out HX4.out
        | ok st =>
         obtain ⟨v'',ps'',n'',rfl,hp'',I'',hn'',S''⟩:=hres;have hsm:=lineL_small HRD.out ⟨hic,by rw [List.length_map];exact hps'⟩ hRL.symm;have HN:=lh (show RR=foldL (lineL rd) ⟨ps''.map fun x=>x.1.toList,st.inc⟩ ((ls.drop (k+1)).map fun x=>trimT x.toList) from by rw [HRR.out,foldL_ok hRL.symm,hp'']);have hl'':ps''.length<=64:=by rw [<-List.length_map (f:=fun x:ByteArray×Pat×Nat=>x.1.toList),hp''];exact hsm.2
         have hi'':=hsm.1;have HI4:=lh I'';have HS4:=lh (HS.out.trans S'');have hgl:=lt_of_block HB.out;have HFAR4:=lh (S''.far gL hgl HFAR.out);have HB4:=lh ((S''.stays.block gL HFAR.out hgl).trans HB.out);have hnn:n''+2*inc<=n+1+2*st.inc:=by omega
         clear hRL HRR I'' S'' hp'' hsm hgl hn'' HI HS HB HFAR cn c1 hn';obtain ⟨si,hsi⟩:∃ si,si=st.inc:=⟨_,rfl⟩;rw [<-hsi] at HN hi'' HI4 hnn;clear hsi;go_wp2_with fail;go_roundw
         case rel=>exact ⟨k+1,v'',ps'',si,n'',by omega,by go_num,HN.out,hl'',hi'',hnn,HI4.out,HS4.out,HFAR4.out,HB4.out⟩
         case measure=>simp [intOf] <;> omega
       ·obtain rfl:k=ls.length:=by omega
        have HF2:=lh (show RR=.ok ⟨ps'.map fun x=>x.1.toList,ic⟩ from by rw [HRR.out,List.drop_length];rfl);obtain ⟨fo,hfo,hfo2⟩:=HI.out.opens;have hl1:=hfo.look underlying140 (zInt wr) name hname;rw [hfo2 name hname,List.map_append,List.map_cons,List.map_nil,contains_app,show (name.toList==name.toList)=true from by simp,Bool.or_true] at hl1;have co:=HI.out.co;obtain ⟨w5,hup,hM5,hg5,hz5⟩:=hfo.store underlying140 (by unfold maxLen;omega) name hname (.int .i64 0)
        have HI5:=lh (HI.out.mapped (wi':=wi) hg5 ⟨_,hM5,fun x hx=>by
         by_cases e:x=name
         ·subst e;rw [if_pos rfl,HCT.out];rfl
         ·rw [if_neg e,hfo2 x hx,List.map_append,List.map_cons,List.map_nil,contains_app,show (x.toList==name.toList)=false from by simpa using fun q=>e (ba_ext q),Bool.or_false]⟩)
        have HS5:=lh (HS.out.trans (IgStep.of_map hg5));have nlt:decide ((ls.length:Int)<(ls.length:Int))=false:=by simp
        clear HRR hfo hfo2 hM5 hg5 hz5;go_wp2_with fail;go_ret;exact IgPost.ok (HEQ.out.trans HF2.out) HI5.out (by omega) HS5.out
end
section
theorem MapAt.made_at {w':World} {b':Nat} (k:w'.heap[b']?=some (.map #[] 0)):MapAt w' b' 0 fun _=>none:=by
 obtain ⟨D,⟨es,clock,h1,h2⟩,h3⟩:=MapAt.made w';rw [heap_alloc_new] at h1;exact ⟨D,⟨es,clock,k.trans h1,h2⟩,h3⟩
theorem findB_app (fs:List (ByteArray×ByteArray)) (f:ByteArray×ByteArray) (x:ByteArray):findB (fs++[f]) x=match findB fs x with | some g=>some g | none=>if f.1=x then some f else none:=by
 induction fs with
 | nil=>rfl
 | cons g fs ih =>
  show (if g.1=x then some g else findB (fs++[f]) x)=_
  by_cases h:g.1=x
  ·rw [if_pos h,findB,if_pos h]
  ·rw [if_neg h,ih,findB,if_neg h]
def ListAt (w:World) (ll:Nat) (ts:List ByteArray):Prop:=∃ (v:Value) (ps:List (ByteArray×Pat×Nat)),w.heap[ll]?=some (.cells #[v] 139 (0,0))/\CellsAt w v (ps.map fun x=>Value.pointer (some ⟨x.2.2,0,none⟩)) /\
 ps.map (·.1)=ts/\∀ x∈ps,PatAt w (fun _=>True) x.2.2 x.1 x.2.1/\patL x.1.toList=.ok x.2.1
theorem ListAt.ext {w w':World} {ll:Nat} {ts:List ByteArray} (h:ListAt w ll ts) (x:Ext w w'):ListAt w' ll ts:=by
 obtain ⟨v,ps,h1,h2,h3,h4⟩:=h;exact ⟨v,ps,(x.block (lt_of_block h1)).trans h1,h2.ext x,h3,fun y hy=>⟨(h4 y hy).1.ext x,(h4 y hy).2⟩⟩
theorem ListAt.of_inv {w0 w:World} {s0 s1:Nat} {fs:List (ByteArray×ByteArray)} {wi:List ByteArray} {v:Value} {ps:List (ByteArray×Pat×Nat)} {inc n:Nat} (I:IgInv w0 s0 s1 fs wi v ps inc n w):ListAt w s1 (ps.map (·.1)) :=
 ⟨v,ps,I.blk,CellsAt.of_owns (base:=s1+7) (e:=144) (by rw [List.length_map];exact I.own),rfl,fun x hx=>⟨(I.pats x hx).1.farther fun _ _ _=>trivial,(I.pats x hx).2⟩⟩
theorem seven (wr:World) (o0 o1 o2 o3 o4 o5 o6:Obj) {W:World} (hW:W=((((((wr.alloc o0).alloc o1).alloc o2).alloc o3).alloc o4).alloc o5).alloc o6) :
  W.heap[wr.heap.size]?=some o0/\W.heap[wr.heap.size+1]?=some o1/\W.heap[wr.heap.size+2]?=some o2/\W.heap[wr.heap.size+3]?=some o3/\W.heap[wr.heap.size+4]?=some o4/\W.heap[wr.heap.size+5]?=some o5/\W.heap[wr.heap.size+6]?=some o6/\W.heap.size=wr.heap.size+7/\Ext wr W:=by
 subst hW;have sz:∀ (w:World) (o:Obj),(w.alloc o).heap.size=w.heap.size+1:=fun w o=>by simp
 have nw:∀ (w:World) (o:Obj) (b:Nat),b=w.heap.size->(w.alloc o).heap[b]?=some o:=fun w o b h=>h▸heap_alloc_new w o;have od:∀ (w:World) (o:Obj) (b:Nat),b<w.heap.size->(w.alloc o).heap[b]?=w.heap[b]?:=fun w o b h=>((Ext.refl w).alloc o).block h;refine ⟨?_,?_,?_,?_,?_,?_,?_,by simp,((((((Ext.refl wr).alloc _).alloc _).alloc _).alloc _).alloc _).alloc _ |>.alloc _⟩
 ·rw [od _ _ _ (by simp only [sz];omega),od _ _ _ (by simp only [sz];omega),od _ _ _ (by simp only [sz];omega),od _ _ _ (by simp only [sz];omega),od _ _ _ (by simp only [sz];omega),od _ _ _ (by simp only [sz];omega),nw _ _ _ rfl]
 ·rw [od _ _ _ (by simp only [sz];omega),od _ _ _ (by simp only [sz];omega),od _ _ _ (by simp only [sz];omega),od _ _ _ (by simp only [sz];omega),od _ _ _ (by simp only [sz];omega),nw _ _ _ (by simp only [sz])]
 ·rw [od _ _ _ (by simp only [sz];omega),od _ _ _ (by simp only [sz];omega),od _ _ _ (by simp only [sz];omega),od _ _ _ (by simp only [sz];omega),nw _ _ _ (by simp only [sz])]
 ·rw [od _ _ _ (by simp only [sz];omega),od _ _ _ (by simp only [sz];omega),od _ _ _ (by simp only [sz];omega),nw _ _ _ (by simp only [sz])]
 ·rw [od _ _ _ (by simp only [sz];omega),od _ _ _ (by simp only [sz];omega),nw _ _ _ (by simp only [sz])]
 ·rw [od _ _ _ (by simp only [sz];omega),nw _ _ _ (by simp only [sz])]
 ·rw [nw _ _ _ (by simp only [sz])]
theorem IgInv.start {w0 wr:World} {s0 s1:Nat} {fs:List (ByteArray×ByteArray)} (E:Env w0) (hx:Ext w0 wr) (hs0:w0.heap.size<=s0) (hs1:s1=wr.heap.size) (ht:∃ k,MapAt wr s0 k fun x=>(findB fs x).map textV) (hc:wr.cell? ⟨s0+1,0,none⟩=some (.map (some s0)))
  {W:World} (hW:W=((((((wr.alloc (.cells #[.slice none 0 0] 139)).alloc (.cells #[.pointer (some ⟨s1,0,none⟩)] 30)).alloc (.map #[] 0)).alloc (.cells #[.map (some (s1+2))] 140)).alloc (.cells #[.int .i64 0] 3)).alloc
   (.cells #[.func (.func 66) #[] #[.pointer (some ⟨s0+1,0,none⟩),.pointer (some ⟨s1+3,0,none⟩),.pointer (some ⟨s1+4,0,none⟩),.pointer (some ⟨s1+6,0,none⟩)]] 141)).alloc
   (.cells #[.func (.func 62) #[] #[.pointer (some ⟨s1+4,0,none⟩),.pointer (some ⟨s1+5,0,none⟩),.pointer (some ⟨s1+1,0,none⟩)]] 141)) :
  IgInv w0 s0 s1 fs [] (.slice none 0 0) [] 0 0 W:=by
 have hlt:=lt_of_cell hc;obtain ⟨g0,g1,g2,g3,g4,g5,g6,g7,g8⟩:=seven wr _ _ _ _ _ _ _ hW;rw [<-hs1] at g0 g1 g2 g3 g4 g5 g6 g7;obtain ⟨k,hk⟩:=ht;refine ⟨hx.trans g8,E,⟨hs0,by omega⟩,(g8.cell hlt).trans hc,⟨k,hk.ext g8⟩,cell_of_block g3,⟨fun _=>none,?_,fun x _=>rfl⟩,g4,cell_of_block g5,cell_of_block g6,cell_of_block g1,g0,by omega,World.ownsRow_nil _ _ _ _,fun x hx=>by cases hx⟩;exact MapAt.made_at g2
def IgParsePost (w:World) (R:Except Nat (List Txt)) (e:Ending) (w':World):Prop:=Ext w w'/\(match R with
 | .error k=>k≠0/\e=.returned (.tuple #[.pointer none,.int .i64 (k:Nat)])
 | .ok ts=>∃ (ll:Nat) (l:List ByteArray),e=.returned (.tuple #[.pointer (some ⟨ll,0,none⟩),.int .i64 0])/\l.map (·.toList)=ts/\ListAt w' ll l)
set_option maxHeartbeats 8000000 in
set_option maxRecDepth 100000 in
theorem igparse_any (v:Value) (fs:List (ByteArray×ByteArray)) (name:ByteArray) (w:World) (hT:TextsAt w v fs) (hfs:∀ f∈fs,f.1.size<=maxLen/\f.2.size<4294967281) (hn:name.size<=maxLen) (E:Env w) :
  Calls prog 16 #[v,.string name] w (IgParsePost w (parseL (fsL fs) name.toList)):=by
 obtain ⟨a,cap,rfl,h1,h2,h3⟩:=hT;unfold maxLen at h2;have H3:=lh h3;have HFS:=lh hfs;have hmm:=@run_makeMap prog;clear h3 hfs;go_enter func16,ntmps16;go_wp2_with fail;go_loopw [20] (fun iv wr=>Hid (∃ (k n:Nat),k<=fs.length/\iv=.int .i64 k/\n<=k/\MapAt wr w.heap.size n (fun x=>(findB (fs.take k) x).map textV)/\wr.cell? ⟨w.heap.size+1,0,none⟩=some (.map (some w.heap.size))/\Ext w wr)) (fun iv _=>fs.length - (intOf iv).toNat)
 case atStart =>
  refine ⟨0,0,Nat.zero_le _,rfl,Nat.le_refl _,((MapAt.made w).ext ((Ext.refl _).alloc _)).congr (fun x _=>rfl),?_,((Ext.refl w).alloc _).alloc _⟩;rw [cell_alloc_new (by simp)];rfl
 case round =>
  obtain ⟨k,n,hk,rfl,hnk,hM,hc,hx⟩:=hrel.out;clear hrel;have hlt1:w.heap.size+1<wr.heap.size:=lt_of_cell hc;have hlt2:w.heap.size+1<wr.heap.size+1:=by omega
  by_cases hlt:k<fs.length
  ·obtain ⟨f,hf⟩:∃ f,fs[k]?=some f:=⟨_,List.getElem?_eq_getElem hlt⟩;obtain ⟨g,o,rfl,c1,c2⟩:=H3.out k f hf;have c1':wr.cell? ⟨g,o+k*2,none⟩=some (.string f.1):=by rw [Nat.mul_comm k 2];exact (hx.cell (lt_of_cell c1)).trans c1
   have c2':wr.cell? ⟨g,o+k*2+1,none⟩=some (.string f.2):=by rw [Nat.mul_comm k 2];exact (hx.cell (lt_of_cell c2)).trans c2
   have hfz:=(HFS.out f (List.mem_of_getElem? hf)).1;have htk:fs.take (k+1)=fs.take k++[f]:=by rw [List.take_add_one,hf];rfl
   obtain ⟨W1,hW1⟩:∃ W1,W1=wr.alloc (.cells #[.string f.1,.string f.2] 128):=⟨_,rfl⟩;have hx1:Ext wr W1:=hW1▸(Ext.refl wr).alloc _;have rt:=(hM.ext hx1).look_ok underlying135 (zText W1) f.1 hfz;rw [hW1] at rt;have HX:=lh hx
   cases hq:findB (fs.take k) f.1 with
   | some g' =>
    rw [hq] at rt;have rt2:(Instr.lookup 135 (.map (some w.heap.size)) (.string f.1) true).run prog (wr.alloc (.cells #[.string f.1,.string f.2] 128))=.ok (.tuple #[.agg #[.string g'.1,.string g'.2],.bool true]) (wr.alloc (.cells #[.string f.1,.string f.2] 128)):=rt
    have HM:=lh (hM.congr (g:=fun x=>(findB (fs.take (k+1)) x).map textV) (fun x _=>by
     rw [htk,findB_app]
     cases hqx:findB (fs.take k) x with
     | some y=>rfl
     | none =>
      by_cases e:f.1=x
      ·rw [e,hqx] at hq;cases hq
      ·rw [if_neg e]))
    clear hM hq rt hx1 hW1 hx c1 c2 hf htk;go_wp2_with fail;go_roundw
    case rel=>exact ⟨k+1,n,by omega,by go_num,by omega,HM.out.ext (((Ext.refl _).alloc _).alloc _),((((Ext.refl _).alloc _).alloc _).cell hlt1).trans hc,(HX.out.alloc _).alloc _⟩
    case measure=>simp [intOf] <;> omega
   | none =>
    rw [hq] at rt;have rt2:(Instr.lookup 135 (.map (some w.heap.size)) (.string f.1) true).run prog (wr.alloc (.cells #[.string f.1,.string f.2] 128))=.ok (.tuple #[.agg #[.string ByteArray.empty,.string ByteArray.empty],.bool false]) (wr.alloc (.cells #[.string f.1,.string f.2] 128)):=rt;have hxx:Ext wr ((wr.alloc (.cells #[.string f.1,.string f.2] 128)).alloc (.cells #[.string ByteArray.empty,.string ByteArray.empty] 128)):=((Ext.refl wr).alloc _).alloc _;obtain ⟨w2,hup,hM2,hg2,hz2⟩:=(hM.ext hxx).store underlying135 (by unfold maxLen;omega) f.1 hfz (.agg #[.string f.1,.string f.2])
    have HM:=lh (hM2.congr (g:=fun x=>(findB (fs.take (k+1)) x).map textV) (fun x _=>by
     rw [htk,findB_app];by_cases e:x=f.1
     ·subst e;rw [if_pos rfl,hq,if_pos rfl];rfl
     ·rw [if_neg e]
      cases hqx:findB (fs.take k) x with
      | some y=>rfl
      | none=>rw [if_neg (fun q=>e q.symm)]))
    have HC:=lh (show w2.cell? ⟨w.heap.size+1,0,none⟩=some (.map (some w.heap.size)) from (World.cell?_of_block (hg2.block (w.heap.size+1) (by simp;omega) (fun e=>by have:=Option.some.inj e;omega))).trans ((hxx.cell hlt1).trans hc));have HX2:=lh (show Ext w w2 from (hx.trans hxx).grown hg2 (by have:=hx.size;simp;omega) (fun j hj=>by cases hj;omega));clear hM hM2 hg2 hz2 hxx hq rt hx1 hW1 hx c1 c2 hf htk;go_wp2_with fail;go_roundw
    case rel=>exact ⟨k+1,n+1,by omega,by go_num,by omega,HM.out,HC.out,HX2.out⟩
    case measure=>simp [intOf] <;> omega
  ·obtain rfl:k=fs.length:=by omega
   have HM:=lh (show ∃ n,MapAt wr w.heap.size n (fun x=>(findB fs x).map textV) from ⟨n,hM.congr (fun x _=>by rw [List.take_length])⟩);have HX:=lh hx;have HC:=lh hc;have hws:=hx.size;clear hM hx;have HII:=fun W hW=>lh (read_any w w.heap.size wr.heap.size fs (fun f hf=>(HFS.out f hf).2) 5 [] (by decide) rfl name (.slice none 0 0) [] 0 0 W hn (IgInv.start (W:=W) E HX.out (Nat.le_refl _) rfl HM.out HC.out hW) (by decide) (by decide) (by decide));clear hc hlt1 hlt2;go_wp2_with fail;refine ((HII _ rfl).out).mono ?_;clear HII;rintro e w2 hres;simp only [List.map_nil] at hres;have hP:parseL (fsL fs) name.toList=match readL (fsL fs) 5 name.toList [] ⟨[],0⟩ with | .error k=>.error k | .ok st=>.ok st.pats:=rfl
   cases hr:readL (fsL fs) 5 name.toList [] ⟨[],0⟩ with
   | error k =>
    rw [hr] at hres hP;obtain ⟨hk0,rfl,hx2⟩:=hres;have n0:((k:Int) != 0)=true:=by rw [bne,beq_eq_false_iff_ne.2 (by omega)];rfl
    have HP:=lh hP;have HK:=lh hk0;have HX2:=lh hx2;clear hr hP hk0 hx2;go_wp2_with fail;go_ret2;refine ⟨HX2.out,?_⟩;rw [HP.out];exact ⟨HK.out,rfl⟩
   | ok st =>
    rw [hr] at hres hP;obtain ⟨v',ps',n',rfl,hp',I,_,_⟩:=hres;have HP:=lh hP;have HI:=lh I;have HQ:=lh hp';have cl:=I.cl;clear hr hP I hp';go_wp2_with fail;go_ret2;refine ⟨HI.out.ext,?_⟩;rw [HP.out];refine ⟨_,ps'.map (·.1),rfl,?_,ListAt.of_inv HI.out⟩;rw [List.map_map];exact HQ.out
end
section
theorem ListAt.rows {w:World} {ll:Nat} {ts:List ByteArray} (h:ListAt w ll ts):∃ (a:Option Addr) (cap:Nat) (ps:List (ByteArray×Pat×Nat)),w.cell? ⟨ll,0,none⟩=some (.slice a ps.length cap)/\ps.length<=cap/\cap<=maxLen/\ps.map (·.1)=ts /\
  ∀ (j:Nat) x,ps[j]?=some x->∃ g,a=some ⟨g,0,none⟩/\w.cell? ⟨g,j,none⟩=some (.pointer (some ⟨x.2.2,0,none⟩))/\PatAt w (fun _=>True) x.2.2 x.1 x.2.1/\patL x.1.toList=.ok x.2.1:=by
 obtain ⟨v,ps,h1,h2,h3,h4⟩:=h;obtain ⟨a,cap,rfl,k1,k2,k3⟩:=h2.shape;rw [List.length_map] at k1 h1;refine ⟨a,cap,ps,cell_of_block h1,k1,k2,h3,fun j x hj=>?_⟩;obtain ⟨g,g1,g2⟩:=k3 j _ (by rw [List.getElem?_map,hj];rfl);exact ⟨g,g1,g2,h4 x (List.mem_of_getElem? hj)⟩
set_option maxHeartbeats 4000000 in
set_option maxRecDepth 100000 in
theorem ilmatch_any (ll:Nat) (ts:List ByteArray) (s:ByteArray) (w:World) (hs:s.size<4294967281) (hL:ListAt w ll ts) (E:Env w) :
  Calls prog 70 #[.pointer (some ⟨ll,0,none⟩),.string s] w fun e w'=>e=.returned (.tuple #[.bool (matchesL (ts.map (·.toList)) s).1,.bool (matchesL (ts.map (·.toList)) s).2])/\Ext w w':=by
 have HMay:=lh (may_any s w hs E);obtain ⟨a,cap,ps,c0,h1,h2,rfl,h3⟩:=hL.rows;unfold maxLen at h2;have H3:=lh h3;have HM:=lh (show matchesL ((ps.map (·.1)).map (·.toList)) s=if mayB s then firstL (ps.map fun x=>x.1.toList) s.toList else (false,false) from by rw [List.map_map];rfl);clear hL h3 E;generalize matchesL ((ps.map (·.1)).map (·.toList)) s=M at *
 cases hm:mayB s with
 | false =>
  rw [hm] at HMay;have HF:=lh (show M=(false,false) from by rw [HM.out,hm];rfl);clear HM hm c0;go_enter func70,ntmps70;go_wp2_with fail;refine (HMay.out).mono ?_;rintro e w1 ⟨rfl,hx⟩;have HX:=lh hx;clear hx;go_wp2_with fail;go_ret2;rw [HF.out];exact ⟨rfl,HX.out⟩
 | true =>
  rw [hm] at HMay;have HF:=lh (show M=firstL (ps.map fun x=>x.1.toList) s.toList from by rw [HM.out,hm];rfl);clear HM hm;go_enter func70,ntmps70;go_wp2_with fail;refine (HMay.out).mono ?_;rintro e w1 ⟨rfl,hx⟩;have c0':=(hx.cell (lt_of_cell c0)).trans c0;have HX:=lh hx;clear hx c0 HMay;go_wp2_with fail;go_loopw [20] (fun iv wr=>Hid (∃ k:Nat,k<=ps.length/\iv=.int .i64 k/\M=firstL ((ps.drop k).map fun x=>x.1.toList) s.toList/\Ext w wr)) (fun iv _=>ps.length - (intOf iv).toNat)
  case atStart=>exact ⟨0,Nat.zero_le _,rfl,HF.out,HX.out⟩
  case round =>
   obtain ⟨k,hk,rfl,hM,hx⟩:=hrel.out;clear hrel HX HF c0';have HF:=lh hM;have HX:=lh hx;by_cases hlt:k<ps.length
   ·obtain ⟨x,ht⟩:∃ t,ps[k]?=some t:=⟨_,List.getElem?_eq_getElem hlt⟩
    have hdr:ps.drop k=x::ps.drop (k+1):=by
     obtain ⟨h1,h2⟩:=List.getElem?_eq_some_iff.1 ht;rw [List.drop_eq_getElem_cons h1,h2]
    rw [hdr,List.map_cons] at HF;obtain ⟨g,rfl,c1,hpa,hpt⟩:=H3.out k x ht;have c2:=(hx.cell (lt_of_cell c1)).trans c1;obtain ⟨t,p,bp⟩:=x;have HMt:=lh (gmatch_any bp t s p _ wr (by unfold maxLen;omega) (hpa.ext hx) (patL_ne hpt));have HPA:=lh hpa;have HPT:=lh hpt;clear c1 hx hM hdr ht hpt hpa;go_wp2_with fail;refine (HMt.out).mono ?_;rintro e w2 ⟨rfl,x2⟩;have HX2:=lh (HX.out.trans x2);clear x2 HX HMt c2;have HNeg:=lh (negated_any bp t p _ w2 (HPA.out.ext HX2.out));have HDel:=lh (deletable_any bp t p _ w2 (HPA.out.ext HX2.out))
    cases hmt:matchL p s.toList with
    | true =>
     have HR:=lh (HF.out.trans (firstL_hit HPT.out hmt));clear hmt HF
     cases hn:p.marks.neg with
     | true =>
      rw [hn] at HNeg HR;go_wp2_with fail;refine (HNeg.out).mono ?_;rintro e w3 ⟨rfl,rfl⟩;go_wp2_with fail;refine (HNeg.out).mono ?_;rintro e w4 ⟨rfl,rfl⟩;go_wp2_with fail;go_ret2;rw [HR.out];exact ⟨rfl,HX2.out⟩
     | false =>
      rw [hn] at HNeg HR;go_wp2_with fail;refine (HNeg.out).mono ?_;rintro e w3 ⟨rfl,rfl⟩;go_wp2_with fail;refine (HNeg.out).mono ?_;rintro e w4 ⟨rfl,rfl⟩;go_wp2_with fail;refine (HDel.out).mono ?_;rintro e w5 ⟨rfl,rfl⟩;go_wp2_with fail;go_ret2;rw [HR.out];exact ⟨rfl,HX2.out⟩
    | false =>
     have HN:=lh (HF.out.trans (firstL_miss HPT.out hmt));clear hmt HF;go_wp2_with fail;go_roundw
     case rel=>exact ⟨k+1,by omega,by go_num,HN.out,HX2.out⟩
     case measure=>simp [intOf] <;> omega
   ·obtain rfl:k=ps.length:=by omega
    have HR:=lh (show M=(false,false) from by rw [HF.out,List.drop_length];rfl);have nlt:decide ((ps.length:Int)<(ps.length:Int))=false:=by simp
    clear hM hx;go_wp2_with fail;go_ret2;rw [HR.out];exact ⟨rfl,HX.out⟩
theorem ilmatch_nil (s:ByteArray) (w:World) :
  Calls prog 70 #[.pointer none,.string s] w fun e w'=>e=.returned (.tuple #[.bool false,.bool false])/\w'=w:=by
 go_enter func70,ntmps70;go_wp2_with fail;go_ret2;exact ⟨rfl,rfl⟩
end
section
def IsList (w:World) (ll:Nat) (ts:List Txt):Prop:=∃ l:List ByteArray,l.map (·.toList)=ts/\ListAt w ll l
theorem IsList.ext {w w':World} {ll:Nat} {ts:List Txt} (h:IsList w ll ts) (x:Ext w w'):IsList w' ll ts:=let ⟨l,h1,h2⟩:=h;⟨l,h1,h2.ext x⟩
theorem parse_ok {v:Value} {fs:List (ByteArray×ByteArray)} {name:ByteArray} {w:World} {ts:List Txt} (hp:parseL (fsL fs) name.toList=.ok ts) (hT:TextsAt w v fs) (hfs:∀ f∈fs,f.1.size<=maxLen/\f.2.size<4294967281) (hn:name.size<=maxLen) (E:Env w) :
  Calls prog 16 #[v,.string name] w fun e w'=>∃ ll,e=.returned (.tuple #[.pointer (some ⟨ll,0,none⟩),.int .i64 0])/\Hid (IsList w' ll ts)/\Ext w w':=by
 refine (igparse_any v fs name w hT hfs hn E).mono ?_;rintro e w' ⟨hx,hres⟩;rw [hp] at hres;obtain ⟨ll,l,rfl,h1,h2⟩:=hres;exact ⟨ll,rfl,⟨l,h1,h2⟩,hx⟩
theorem match_at {ll:Nat} {ts:List Txt} {s:ByteArray} {w:World} (hs:s.size<4294967281) (hL:IsList w ll ts) (E:Env w) :
  Calls prog 70 #[.pointer (some ⟨ll,0,none⟩),.string s] w fun e w'=>e=.returned (.tuple #[.bool (matchesL ts s).1,.bool (matchesL ts s).2])/\Ext w w':=by
 obtain ⟨l,rfl,h⟩:=hL;exact ilmatch_any ll l s w hs h E
theorem texts_one {w:World} {a b:ByteArray} {t:TypeId}:TextsAt (w.alloc (.cells #[.string a,.string b] t)) (.slice (some ⟨w.heap.size,0,none⟩) 1 1) [(a,b)]:=by
 refine ⟨some ⟨w.heap.size,0,none⟩,1,rfl,by simp,by decide,fun j f hj=>?_⟩
 match j,hj with
 | 0,hj =>
  cases hj
  refine ⟨_,0,rfl,?_,?_⟩ <;> rw [cell_alloc_new (by simp)] <;> rfl
end
section
end
section
end
end Go.Proofs.YtodickpibbbiiaaGreatDoor
