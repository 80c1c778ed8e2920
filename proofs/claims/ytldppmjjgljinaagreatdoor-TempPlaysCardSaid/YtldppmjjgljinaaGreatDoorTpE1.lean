import Derived.Test.YtldppmjjgljinaaGreatDoorTpB2
import Derived.Test.YtldppmjjgljinaaGreatDoorTpC3
open Go.Proofs.Tryz
namespace Go.Proofs.YtldppmjjgljinaaGreatDoor
open Go.RowKit
section
theorem tempR_le (p:ByteArray):(tempR p).size<=200:=by
 unfold tempR;split
 ·rename_i h;have h160:p.size<=160:=by unfold mayB at h;simp at h;exact h.1.1
  have h1:=parentS_le p;have h2:=hex8_size p;have e1:(⟨#[126,116,126]⟩:ByteArray).size=3:=rfl;have e2:(⟨#[47]⟩:ByteArray).size=1:=rfl;unfold tempS besideS;split <;> simp <;> omega
 ·exact Nat.zero_le _
def placeS (root p:ByteArray):ByteArray:=root++⟨#[47]⟩++tempR p
def placeB (root p:ByteArray):Bool:=mayB p&&(mayB root&&mayB (placeS root p))
set_option maxHeartbeats 1000000 in
set_option maxRecDepth 100000 in
theorem place_any (root p:ByteArray) (w:World) (hs:p.size<4294967281) (hr:root.size<=2147483648) (E:Env w) (T:ShaTabs w) :
  Calls prog 73 #[.string root,.string p] w fun e w'=>e=.returned (.tuple #[.string (placeS root p),.bool (placeB root p)])/\Ext w w':=by
 have HT:=lh (temp_any p w hs E T);have HM1:=fun w' (x:Ext w w')=>lh (may_any root w' (by omega) (E.ext x));have hle:=tempR_le p;have HM2:=fun w' (x:Ext w w')=>lh (may_any (placeS root p) w' (by unfold placeS;simp only [ByteArray.size_append,size_mk];simp;omega) (E.ext x));have HP:=lh (show placeS root p=root++⟨#[47]⟩++tempR p from rfl);unfold placeB;generalize placeS root p=P at *;generalize tempR p=t at *;clear hs E T;generalize mayB p=b1 at *;generalize mayB root=b2 at *;generalize mayB P=b3 at *
 cases b1
 case' true =>
  cases b2
  case' true=>cases b3
 all_goals
  go_enter func73,ntmps73;go_wp2_with fail;refine HT.out.mono ?_;rintro e w1 ⟨rfl,x1⟩;have HX1:=lh x1;clear x1 HT;have HPe:=HP.out;subst HPe;go_wp2_with fail
  first
  | (go_ret2
     exact ⟨rfl,HX1.out⟩)
  | (refine (HM1 _ HX1.out).out.mono ?_
     rintro e w2 ⟨rfl,x2⟩;have HX2:=lh (HX1.out.trans x2);clear x2;go_wp2_with fail
     first
     | (go_ret2
        exact ⟨rfl,HX2.out⟩)
     | (refine (HM2 _ HX2.out).out.mono ?_
        rintro e w3 ⟨rfl,x3⟩;have HX3:=lh (HX2.out.trans x3);clear x3;go_wp2_with fail;go_ret2
        exact ⟨rfl,HX3.out⟩))
end
section
def PartAt (w:World) (I:List Nat) (v:Value):Option (List UInt8)->Prop
 | none=>v=.slice none 0 0
 | some l=>∃ b o cap,v=.slice (some ⟨b,o,none⟩) l.length cap/\0<l.length/\l.length<=cap/\cap<=maxLen/\b∈I/\w.rangeAt b o (l.map bv)
structure DrIn (w:World) (p g:Nat) (D cs:Array Value) (bl:Value) (I:List Nat) (r:RecS) (N:Nat) (name:ByteArray) (ps:List (Option (List UInt8))):Prop where
 good:r.Good N
 blk:w.heap[p]?=some (.cells D 118 (0,0))
 n:D.size=29
 rc:RecC (D.extract 0 27) r bl
 c27:D[27]?=some (.string name)
 c28:D[28]?=some (.slice (some ⟨g,0,none⟩) ps.length ps.length)
 hs:HashesAt w bl r.hs
 hsI:∀ b o n c,bl=.slice (some ⟨b,o,none⟩) n c->b∈I
 len:ps.length=countN N
 row:w.heap[g]?=some (.cells cs 22 (0,0))
 size:cs.size=ps.length
 parts:∀ (k:Nat) x,ps[k]?=some x->∃ v,cs[k]?=some v/\PartAt w I v x
 imm:∀ b∈I,b≠g/\b<w.heap.size
 self:p∈I
theorem HashesAt.kept {w w':World} {bl:Value} {hs:List (List UInt8)} (h:HashesAt w bl hs) (hs':w.heap.size<=w'.heap.size) (hk:∀ b o n c,bl=.slice (some ⟨b,o,none⟩) n c->b<w.heap.size->w'.heap[b]?=w.heap[b]?):HashesAt w' bl hs:=by
 obtain ⟨a,cap,h1,h2,h3,h4⟩:=h;refine ⟨a,cap,h1,h2,h3,fun i y hy=>?_⟩;obtain ⟨h5,g,o,h6,h7,h8⟩:=h4 i y hy;refine ⟨h5,g,o,h6,Nat.lt_of_lt_of_le h7 hs',fun j u hj=>?_⟩;have:=h8 j u hj;unfold World.cell? at this ⊢;rw [hk g o _ _ (by rw [h1,h6]) h7];exact this
theorem rangeAt.kept {w w':World} {b o:Nat} {l:List Value} (h:w.rangeAt b o l) (hk:w'.heap[b]?=w.heap[b]?):w'.rangeAt b o l:=fun j u hj=>by
 have:=h j u hj;unfold World.cell? at this ⊢;rw [hk];exact this
theorem PartAt.kept {w w':World} {I:List Nat} {v:Value} {x:Option (List UInt8)} (h:PartAt w I v x) (hk:∀ b∈I,w'.heap[b]?=w.heap[b]?):PartAt w' I v x:=by
 cases x with
 | none=>exact h
 | some l =>
  obtain ⟨b,o,cap,h1,h2,h3,h4,h5,h6⟩:=h;exact ⟨b,o,cap,h1,h2,h3,h4,h5,rangeAt.kept h6 (hk b h5)⟩
theorem PartAt.more {w:World} {I I':List Nat} {v:Value} {x:Option (List UInt8)} (h:PartAt w I v x) (hk:∀ b∈I,b∈I'):PartAt w I' v x:=by
 cases x with
 | none=>exact h
 | some l =>
  obtain ⟨b,o,cap,h1,h2,h3,h4,h5,h6⟩:=h;exact ⟨b,o,cap,h1,h2,h3,h4,hk b h5,h6⟩
theorem DrIn.kept {w w':World} {p g:Nat} {D cs:Array Value} {bl:Value} {I:List Nat} {r:RecS} {N:Nat} {name:ByteArray} {ps:List (Option (List UInt8))} (h:DrIn w p g D cs bl I r N name ps)
  (hs:w.heap.size<=w'.heap.size) (hk:∀ b,b<w.heap.size->b∈g::I->w'.heap[b]?=w.heap[b]?):DrIn w' p g D cs bl I r N name ps where
 good:=h.good
 blk:=(hk p (ltB h.blk) (List.mem_cons_of_mem _ h.self)).trans h.blk
 n:=h.n
 rc:=h.rc
 c27:=h.c27
 c28:=h.c28
 hs:=h.hs.kept hs fun b o n c e hb=>hk b hb (List.mem_cons_of_mem _ (h.hsI b o n c e))
 hsI:=h.hsI
 len:=h.len
 row:=(hk g (ltB h.row) List.mem_cons_self).trans h.row
 size:=h.size
 parts:=fun k x hx=>by
  obtain ⟨v,h1,h2⟩:=h.parts k x hx;exact ⟨v,h1,h2.kept fun b hb=>hk b (h.imm b hb).2 (List.mem_cons_of_mem _ hb)⟩
 imm:=fun b hb=>⟨(h.imm b hb).1,Nat.lt_of_lt_of_le (h.imm b hb).2 hs⟩
 self:=h.self
theorem DrIn.turned {w w':World} {p g:Nat} {D cs cs':Array Value} {bl:Value} {I:List Nat} {r:RecS} {N:Nat} {name:ByteArray} {ps ps':List (Option (List UInt8))} (h:DrIn w p g D cs bl I r N name ps)
  (x:Chg [g] w w') (hg:w'.heap[g]?=some (.cells cs' 22 (0,0))) (hz:cs'.size=ps.length) (hl:ps'.length=ps.length) (hp:∀ (k:Nat) x,ps'[k]?=some x->∃ v,cs'[k]?=some v/\PartAt w I v x):DrIn w' p g D cs' bl I r N name ps' where
 good:=h.good
 blk:=(x.block p (ltB h.blk) (by simpa using (h.imm p h.self).1)).trans h.blk
 n:=h.n
 rc:=h.rc
 c27:=h.c27
 c28:=by rw [hl];exact h.c28
 hs:=h.hs.kept x.size fun b o n c e hb=>x.block b hb (by simpa using (h.imm b (h.hsI b o n c e)).1)
 hsI:=h.hsI
 len:=hl.trans h.len
 row:=hg
 size:=hz.trans hl.symm
 parts:=fun k y hy=>by
  obtain ⟨v,h1,h2⟩:=hp k y hy;exact ⟨v,h1,h2.kept fun b hb=>x.block b (h.imm b hb).2 (by simpa using (h.imm b hb).1)⟩
 imm:=fun b hb=>⟨(h.imm b hb).1,Nat.lt_of_lt_of_le (h.imm b hb).2 x.size⟩
 self:=h.self
theorem wpQuiet_load_at_g {P:Program} {ops:Array Oper} {C:World->Prop} {Q:Act->Prop} {a:Act} {o:Oper} {rest:List Oper} (hw:Region.wanted o (yielded ops a.tmps)=true) (ty:TypeId) (x:Operand) (ho:o.op=.load ty x)
  (b off:Nat) (hx:a.eval x=.pointer (some ⟨b,off,none⟩)) (cs:Array Value) (d:TypeDesc) (hc:∀ w,C w->w.rangeAt b off cs.toList)
  (hu:P.underlying ty=some d) (hd:d.isRow=true) (hi:(P.info? ty).map (·.size)=some cs.size)
  (h:wpQuiet P ops C Q rest (a.put o.dst (.agg cs))):wpQuiet P ops C Q (o::rest) a :=
 wpQuiet_step fun K hK=>by
  rw [if_pos hw];refine ⟨.agg cs,fun w hw=>?_,hK _ h⟩;unfold Oper.quietAt execOp;simp only [ho,hx,Instr.loadAt,Instr.sureAddr,Sem.run_bind,Sem.run_pure,Result.andThen_ok,run_loadVar_mid w b off ty cs.toList d (hc w hw) hu hd (by rw [hi];simp)];exact ⟨rfl,by simp⟩
def sameL (N:Nat) (hs:List (List UInt8)) (l:List UInt8) (i k:Nat):Bool:=decide (hs[k]?=hs[i]?)&&decide (lenN N k=l.length)
def fillP (N:Nat) (hs:List (List UInt8)) (i:Nat) (l:List UInt8) (ps:List (Option (List UInt8))):List (Option (List UInt8)):=ps.mapIdx fun k x=>if sameL N hs l i k then some l else x
theorem rangeAt_rec {w:World} {p:Nat} {D:Array Value} {t:TypeId} {fr:Nat×Nat} (h:w.heap[p]?=some (.cells D t fr)) (n:Nat):w.rangeAt p 0 (D.extract 0 n).toList:=fun j u hj=>by
 rw [Nat.zero_add,cellB h];have hj':(D.extract 0 n)[j]?=some u:=by rw [<-Array.getElem?_toList];exact hj
 rw [Array.getElem?_extract] at hj';split at hj'
 ·simpa using hj'
 ·cases hj'
theorem rec_cell {D:Array Value} (k:Nat) {v:Value} (h:(D.extract 0 27)[k]?=some v):D[k]?=some v:=by
 rw [Array.getElem?_extract] at h;split at h
 ·simpa using h
 ·cases h
set_option maxRecDepth 100000 in
set_option maxHeartbeats 2000000 in
theorem fill_any (w:World) (p g:Nat) (D cs:Array Value) (bl:Value) (I:List Nat) (r:RecS) (N:Nat) (name:ByteArray) (ps:List (Option (List UInt8))) (h:DrIn w p g D cs bl I r N name ps)
  (i:Nat) (hi:i<countN N) (l:List UInt8) (v:Value) (hv:PartAt w I v (some l)) :
  Calls prog 76 #[.pointer (some ⟨p,0,none⟩),.int .i64 i,v] w fun e w'=>e=.returned (.tuple #[])/\Hid (Chg [g] w w'/\∃ cs',DrIn w' p g D cs' bl I r N name (fillP N r.hs i l ps)):=by
 have HD:=lh h
 have HLen:=fun (k:Nat) (hk:k<countN N) w'=>lh (show Calls prog 77 #[.agg (D.extract 0 27),.int .i64 k] w' (fun e w''=>e=.returned (.int .i64 (lenN N k:Nat))/\Ext w' w'') from by
  rw [<-h.good.len hk];obtain ⟨a,cap,hb,_⟩:=h.hs
  exact clength_any r _ _ k w' h.rc ⟨a,cap,hb⟩ (by rw [h.good.size];omega) (by rw [h.good.size];have:=h.good.small;omega))
 have hcn:=h.good.count;have hc32:=count_le h.good.small;obtain ⟨a,hcap,rfl,hb1,hb2,hb3⟩:=h.hs;obtain ⟨hi',hh⟩:∃ h',r.hs[i]?=some h':=⟨_,List.getElem?_eq_getElem (by omega)⟩;obtain ⟨hh32,hb,ho,rfl,hbl,hrg⟩:=hb3 i hi' hh;have D23:D[23]?=some (.slice (some ⟨hb,ho,none⟩) (countN N) hcap):=by rw [<-hcn];exact rec_cell 23 h.rc.c23
 have D28:D[28]?=some (.slice (some ⟨g,0,none⟩) (countN N) (countN N)):=by rw [<-h.len];exact h.c28
 have hpg:=(h.imm p h.self).1;have hhg:=(h.imm hb (h.hsI _ _ _ _ rfl)).1;have HB:=lh (show ∀ wr,Chg [g] w wr->wr.heap[p]?=some (.cells D 118 (0,0)) from fun wr x=>(x.block p (ltB h.blk) (by simpa using hpg)).trans h.blk)
 have HR:=lh (show ∀ wr,Chg [g] w wr->∀ k y,r.hs[k]?=some y->y.length=32/\wr.rangeAt hb (ho+k*32) (hArr y 32).toList from fun wr x k y hy=>by
  obtain ⟨h5,g5,o5,h6,h7,h8⟩:=hb3 k y hy
  cases h6
  exact ⟨h5,by rw [hArr_list h5];exact rangeAt.kept h8 (x.block hb hbl (by simpa using hhg))⟩)
 have k23:=(cellB (k:=23) h.blk).trans D23;have HRw:=lh (And.intro h.row h.size);have HV:=lh hv;obtain ⟨vb,vo,vcap,rfl,hv1,hv2,hv3,hv4,hv5⟩:=hv;have HRz:=lh (show (prog.info? 31).map (·.size)=some (D.extract 0 27).size from by rw [h.rc.n];kernel_rfl);have HLn:=lh h.len;obtain ⟨c,hc⟩:∃ c,c=countN N:=⟨_,rfl⟩;have HC:=lh hc;rw [<-hc] at k23 D23 D28 hi HLen hcn hc32;clear hb3 hrg h hv5 hv4 hc;go_enter func76,ntmps76;go_wp2_with fail;go_loopw [15] (fun iv wr=>Hid (∃ k:Nat,k<=c/\iv=.int .i64 k/\Chg [g] w wr/\∃ cs',wr.heap[g]?=some (.cells cs' 22 (0,0))/\cs'.size=c/\∀ j,cs'[j]?=if j<k/\sameL N r.hs l i j=true then some (.slice (some ⟨vb,vo,none⟩) l.length vcap) else cs[j]?)) (fun iv _=>c - (intOf iv).toNat)
 case atStart=>exact ⟨0,Nat.zero_le _,rfl,Chg.refl _ _,cs,HRw.out.1,by rw [HRw.out.2,HLn.out,HC.out],fun j=>by simp⟩
 case round =>
  obtain ⟨k,hk,rfl,hx,cs',hg,hz,hcs⟩:=hrel.out;clear hrel k23;have HX:=lh hx;have HG:=lh hg;have HCs:=lh hcs;have hb0:=HB.out wr hx;have k23:=(cellB (k:=23) hb0).trans D23;by_cases hlt:k<c
  ·obtain ⟨hk',hhk⟩:∃ h',r.hs[k]?=some h':=⟨_,List.getElem?_eq_getElem (by omega)⟩;obtain ⟨hk32,hRk⟩:=HR.out wr hx k hk' hhk;have HAk:=lh (show (hArr hk' 32).size=32 from hArr_size _ _ hk32 (by omega));have HZk:=lh (show (prog.info? 45).map (·.size)=some (hArr hk' 32).size from by rw [hArr_size _ _ hk32 (by omega)];kernel_rfl);have HRk:=lh hRk;clear hx hg hcs hRk;go_wp2_with (first | (refine wpList_load_at rfl 45 (.tmp 18) rfl hb (ho+k*32) rfl (hArr hk' 32) _ HRk.out underlying45 rfl HZk.out ?_;go_frame) | (refine wpList_storeT rfl _ _ _ rfl wr.heap.size (hArr hk' 32) rfl rfl 45 _ (heap_alloc_new wr _) HZk.out (by rw [HAk.out];rfl) (hArr_one _ _) ?_;intro w1 hb1 ht1;have HB1:=lh hb1;have X1:=lh (ht1.fresh ((Ext.refl wr).alloc _) (Nat.le_refl _));clear hb1 ht1;go_frame));have HX1:=lh (HX.out.trans_ext X1.out);have hbp:=HB.out w1 HX1.out;have k23:=(cellB (k:=23) hbp).trans D23;have q23:=After.cell k23;have HG1:=lh ((X1.out.block (ltB HG.out)).trans HG.out)
   have HQk:=lh (show ∀ w',(∃ y:After w1,w'=y.v)->w'.heap[wr.heap.size]?=some (.cells (hArr hk' 32) 45 (0,0)) from by
    rintro _ ⟨y,rfl⟩
    exact (y.x.block (ltB HB1.out)).trans HB1.out)
   have HQi:=lh (show ∀ w',(∃ y:After w1,w'=y.v)->w'.rangeAt hb (ho+i*32) (hArr hi' 32).toList from by
    rintro _ ⟨y,rfl⟩
    exact (HR.out _ (HX1.out.trans_ext y.x) i hi' hh).2)
   have HQr:=lh (show ∀ w',(∃ y:After w1,w'=y.v)->w'.rangeAt p 0 (D.extract 0 27).toList from by
    rintro _ ⟨y,rfl⟩
    exact rangeAt_rec (HB.out _ (HX1.out.trans_ext y.x)) 27)
   have HZi:=lh (show (prog.info? 45).map (·.size)=some (hArr hi' 32).size from by rw [hArr_size _ _ hh32 (by omega)];kernel_rfl);have heq:=eq_hash hk' hi' hk32 hh32;obtain ⟨q,hq⟩:∃ q,q=decide (hk'=hi'):=⟨_,rfl⟩
   have HSm:=lh (show sameL N r.hs l i k=(q&&decide (lenN N k=l.length)) from by
    unfold sameL;rw [hhk,hh,hq]
    congr 1
    rw [decide_eq_decide,Option.some.injEq])
   rw [<-hq] at heq;have HLk:=HLen k hlt;have hin:(i:Int)<(c:Int):=by omega
   have hkn:(k:Int)<(c:Int):=by omega
   have hlv:l.length<=9223372036854775807:=by unfold maxLen at hv3;omega
   generalize hArr hk' 32=Ak at *;generalize hArr hi' 32=Ai at *;generalize lenN N k=lk at *
   have HNs:=lh (show sameL N r.hs l i k=false->∀ j,cs'[j]?=if j<k+1/\sameL N r.hs l i j=true then some (.slice (some ⟨vb,vo,none⟩) l.length vcap) else cs[j]? from fun hf j=>by
    rw [HCs.out j];by_cases hj:j=k
    ·subst hj;simp [hf]
    ·have:j<k↔j<k+1:=by omega
     simp only [this])
   clear hq hhk hk32
   cases q with
   | false =>
    have HN2:=lh (HNs.out (by rw [HSm.out];rfl));refine wp_region_after (by kernel_rfl) (by kernel_rfl) ?_;refine wpQuiet_load_row rfl 45 (.tmp 7) rfl wr.heap.size rfl 45 Ak (0,0) _ HQk.out underlying45 rfl HZk.out ?_;go_frame
    iterate 8 go_big_quiet_step (fail)
    refine wpQuiet_load_at rfl 45 (.tmp 28) rfl hb (ho+i*32) rfl Ai _ HQi.out underlying45 rfl HZi.out ?_;go_frame
    repeat (go_big_quiet_step (fail))
    refine wpQuiet_nil ?_;rintro _ ⟨y,rfl⟩;have HXy:=lh (HX1.out.trans_ext y.x);have HGy:=lh ((y.x.block (ltB HG1.out)).trans HG1.out);clear q23 k23 heq;go_wp2_with fail;go_roundw
    case rel=>exact ⟨k+1,by omega,by go_num,HXy.out,cs',HGy.out,hz,HN2.out⟩
    case measure=>simp [intOf] <;> omega
   | true =>
    have HSl:=lh (show sameL N r.hs l i k=decide (lk=l.length) from by rw [HSm.out,Bool.true_and]);by_cases hll:lk=l.length
    ·have e5:((lk:Int)==(l.length:Int))=true:=by rw [beq_iff_eq];omega
     have e6:(lk==l.length)=true:=by rw [beq_iff_eq];exact hll
     have HY2:=lh (show ∀ j,(cs'.setIfInBounds k (.slice (some ⟨vb,vo,none⟩) l.length vcap))[j]?=if j<k+1/\sameL N r.hs l i j=true then some (.slice (some ⟨vb,vo,none⟩) l.length vcap) else cs[j]? from fun j=>by
      by_cases hj:j=k
      ·subst hj;rw [Array.getElem?_setIfInBounds_self_of_lt (by omega)];simp [HSl.out,hll]
      ·rw [Array.getElem?_setIfInBounds_ne (Ne.symm hj),HCs.out j];have:j<k↔j<k+1:=by omega
       simp only [this])
     clear hll HSl HSm HNs;refine wp_region_after (by kernel_rfl) (by kernel_rfl) ?_;refine wpQuiet_load_row rfl 45 (.tmp 7) rfl wr.heap.size rfl 45 Ak (0,0) _ HQk.out underlying45 rfl HZk.out ?_;go_frame
     iterate 8 go_big_quiet_step (fail)
     refine wpQuiet_load_at rfl 45 (.tmp 28) rfl hb (ho+i*32) rfl Ai _ HQi.out underlying45 rfl HZi.out ?_;go_frame
     iterate 6 go_big_quiet_step (fail)
     refine wpQuiet_load_at_g ?_ 31 (.tmp 35) rfl p 0 rfl (D.extract 0 27) _ HQr.out underlying31 rfl HRz.out ?_
     ·simp [Region.wanted,yielded]
     go_frame;go_big_quiet_step (fail);go_big_quiet_step (exact After.of (HLk _).out)
     repeat (go_big_quiet_step (fail))
     refine wpQuiet_nil ?_;rintro _ ⟨y,rfl⟩;have HXy:=lh (HX1.out.trans_ext y.x);have HGy:=lh ((y.x.block (ltB HG1.out)).trans HG1.out);have hgy:=HGy.out;have hby:=HB.out _ HXy.out;have k28:=(cellB (k:=28) hby).trans D28;obtain ⟨old,hold⟩:∃ old,cs'[k]?=some old:=⟨_,Array.getElem?_eq_getElem (by omega)⟩;have kk:=(cellB (k:=k) hgy).trans hold;have ff:=frozenB (k:=k) hgy;clear q23 k23 heq hgy hby;go_wp2_with fail;go_roundw
     case rel=>exact ⟨k+1,by omega,by go_num,HXy.out.trans (Chg.setCell _ _ _ (F:=[g]) (by simp)) (fun _ h=>.inl h),_,setCellB HGy.out,by rw [Array.size_setIfInBounds];exact hz,HY2.out⟩
     case measure=>simp [intOf] <;> omega
    ·have e5:((lk:Int)==(l.length:Int))=false:=by rw [beq_eq_false_iff_ne];omega
     have e6:(lk==l.length)=false:=by rw [beq_eq_false_iff_ne];exact hll
     have HN2:=lh (HNs.out (by rw [HSl.out];exact decide_eq_false hll));clear hll HSl HSm HNs;refine wp_region_after (by kernel_rfl) (by kernel_rfl) ?_;refine wpQuiet_load_row rfl 45 (.tmp 7) rfl wr.heap.size rfl 45 Ak (0,0) _ HQk.out underlying45 rfl HZk.out ?_;go_frame
     iterate 8 go_big_quiet_step (fail)
     refine wpQuiet_load_at rfl 45 (.tmp 28) rfl hb (ho+i*32) rfl Ai _ HQi.out underlying45 rfl HZi.out ?_;go_frame
     iterate 6 go_big_quiet_step (fail)
     refine wpQuiet_load_at_g ?_ 31 (.tmp 35) rfl p 0 rfl (D.extract 0 27) _ HQr.out underlying31 rfl HRz.out ?_
     ·simp [Region.wanted,yielded]
     go_frame;go_big_quiet_step (fail);go_big_quiet_step (exact After.of (HLk _).out)
     repeat (go_big_quiet_step (fail))
     refine wpQuiet_nil ?_;rintro _ ⟨y,rfl⟩;have HXy:=lh (HX1.out.trans_ext y.x);have HGy:=lh ((y.x.block (ltB HG1.out)).trans HG1.out);clear q23 k23 heq;go_wp2_with fail;go_roundw
     case rel=>exact ⟨k+1,by omega,by go_num,HXy.out,cs',HGy.out,hz,HN2.out⟩
     case measure=>simp [intOf] <;> omega
  ·obtain rfl:k=c:=by omega
   have nlt:decide ((k:Int)<(k:Int))=false:=by simp
   clear hx hg hcs;go_wp2_with fail;go_end0;refine ⟨rfl,HX.out,cs',HD.out.turned HX.out HG.out (by rw [hz,HLn.out,HC.out]) (by simp [fillP]) fun j x hj=>?_⟩;unfold fillP at hj;rw [List.getElem?_mapIdx] at hj;obtain ⟨x0,hx0,rfl⟩:=Option.map_eq_some_iff.1 hj;have hjk:j<k:=by have:=(List.getElem?_eq_some_iff.1 hx0).1;have:=HLn.out;have:=HC.out;omega
   rw [HCs.out j];by_cases hs:sameL N r.hs l i j=true
   ·rw [if_pos ⟨hjk,hs⟩,if_pos hs];exact ⟨_,rfl,HV.out⟩
   ·rw [if_neg (fun h=>hs h.2),if_neg hs];exact HD.out.parts j x0 hx0
end
section
set_option maxRecDepth 100000 in
theorem tis_any (w:World) (p:Nat) (D:Array Value) (t:TypeId) (fr:Nat×Nat) (name:ByteArray) (h:w.heap[p]?=some (.cells D t fr)) (hn:D[27]?=some (.string name)) :
  Calls prog 79 #[.pointer (some ⟨p,0,none⟩)] w fun e w'=>e=.returned (.bool (!name.toList.isEmpty))/\w'=w:=by
 have k27:=(cellB (k:=27) h).trans hn;clear h hn;go_enter func79,ntmps79;go_wp2_with fail;go_ret;exact ⟨rfl,rfl⟩
theorem PartAt.own {w:World} {base:Nat} {v:Value} {l:List UInt8} (h:w.ownsRow base 5 1 v l.length (l.map bv)) (h0:0<l.length):∃ b,base<=b/\b<w.heap.size/\PartAt w [b] v (some l):=by
 rcases h.2 with ⟨_,h1⟩ | ⟨g,cap,cur,rfl,hg,hh,hc,hm,_⟩
 ·omega
 ·refine ⟨g,hg,ltB hh,g,0,cap,rfl,h0,hc,hm,by simp,fun j u hj=>?_⟩;have:=h.cells (g:=g) rfl j u hj;rw [append_kw.add_off] at this;exact this
theorem DrIn.ext {w w':World} {p g:Nat} {D cs:Array Value} {bl:Value} {I:List Nat} {r:RecS} {N:Nat} {name:ByteArray} {ps:List (Option (List UInt8))} (h:DrIn w p g D cs bl I r N name ps) (x:Ext w w'):DrIn w' p g D cs bl I r N name ps :=
 h.kept x.size fun _ hb _=>x.block hb
theorem DrIn.more {w:World} {p g:Nat} {D cs:Array Value} {bl:Value} {I:List Nat} {r:RecS} {N:Nat} {name:ByteArray} {ps:List (Option (List UInt8))} (h:DrIn w p g D cs bl I r N name ps) {b:Nat} (hg:b≠g) (hl:b<w.heap.size):DrIn w p g D cs bl (I++[b]) r N name ps :=
 { h with
  hsI:=fun b o n c e=>List.mem_append.2 (.inl (h.hsI b o n c e))
  parts:=fun k x hx=>by
   obtain ⟨v,h1,h2⟩:=h.parts k x hx;exact ⟨v,h1,h2.more fun b hb=>List.mem_append.2 (.inl hb)⟩
  imm:=fun c hc=>by
   rcases List.mem_append.1 hc with hc | hc
   ·exact h.imm c hc
   ·rw [List.mem_singleton.1 hc];exact ⟨hg,hl⟩
  self:=List.mem_append.2 (.inl h.self) }
structure PutPost (R:Bool) (e:Ending) (w w':World) (P:Prop):Prop where
 yes:R=true->e=.returned (.int .i64 0)/\P
 no:R=false->e=.returned (.int .i64 14)/\Ext w w'
set_option maxRecDepth 100000 in
set_option maxHeartbeats 4000000 in
theorem put_any (w:World) (T:ShaTabs w) (p g:Nat) (D cs:Array Value) (bl:Value) (I:List Nat) (r:RecS) (N:Nat) (name:ByteArray) (ps:List (Option (List UInt8))) (h:DrIn w p g D cs bl I r N name ps) (hnm:name.toList.isEmpty=false)
  (i:Nat) (hi:i<countN N) (l:List UInt8) (v:Value) (hv:BytesOff w.heap.size w v l) (hl:l.length<=1048576) :
  Calls prog 16 #[.pointer (some ⟨p,0,none⟩),.int .i64 i,v] w fun e w' =>
   PutPost (rightB N r.hs i l) e w w' (∃ I' cs',DkStep w [g] I w' [g] I'/\DrIn w' p g D cs' bl I' r N name (fillP N r.hs i l ps)):=by
 have HIs:=lh (tis_any w p D _ _ name h.blk h.c27);rw [hnm] at HIs;have HD:=lh h
 have HLen:=fun w'=>lh (show Calls prog 77 #[.agg (D.extract 0 27),.int .i64 i] w' (fun e w''=>e=.returned (.int .i64 (lenN N i:Nat))/\Ext w' w'') from by
  rw [<-h.good.len hi];obtain ⟨a,cap,hb,_⟩:=h.hs
  exact clength_any r _ _ i w' h.rc ⟨a,cap,hb⟩ (by rw [h.good.size];omega) (by rw [h.good.size];have:=h.good.small;omega))
 have hlp:=lenN_pos hi;have hcn:=h.good.count;have hc32:=count_le h.good.small;obtain ⟨a,hcap,rfl,hb1,hb2,hb3⟩:=h.hs;obtain ⟨hi',hh⟩:∃ h',r.hs[i]?=some h':=⟨_,List.getElem?_eq_getElem (by omega)⟩;obtain ⟨hh32,hb,ho,rfl,hbl,hrg⟩:=hb3 i hi' hh;have HVf:=fun w' (x:Ext w w')=>lh (bverify_any l hi' v w' (T.ext x) (bytesOff_any hv x x.size) hl hh32);have HCl:=fun w' (x:Ext w w') (h0:0<l.length)=>lh (cloneBytes_any l w'.heap.size v w' (bytesOff_any hv x x.size) h0 (by omega));have HFl:=fun w' cs' I' (hd:DrIn w' p g D cs' (.slice (some ⟨hb,ho,none⟩) r.hs.length hcap) I' r N name ps) u (hu:PartAt w' I' u (some l))=>lh (fill_any w' p g D cs' _ I' r N name ps hd i hi l u hu);have D23:D[23]?=some (.slice (some ⟨hb,ho,none⟩) (countN N) hcap):=by rw [<-hcn];exact rec_cell 23 h.rc.c23
 have D28:D[28]?=some (.slice (some ⟨g,0,none⟩) (countN N) (countN N)):=by rw [<-h.len];exact h.c28
 have HB:=lh (show ∀ wr,Ext w wr->wr.heap[p]?=some (.cells D 118 (0,0)) from fun wr x=>(x.block (ltB h.blk)).trans h.blk)
 have HR:=lh (show ∀ wr,Ext w wr->wr.rangeAt hb (ho+i*32) (hArr hi' 32).toList from fun wr x=>by
  rw [hArr_list hh32];exact rangeAt.kept hrg (x.block hbl))
 have HAz:=lh (show (prog.info? 45).map (·.size)=some (hArr hi' 32).size from by rw [hArr_size _ _ hh32 (by omega)];kernel_rfl);have HRr:=lh (rangeAt_rec h.blk 27);have HRz:=lh (show (prog.info? 31).map (·.size)=some (D.extract 0 27).size from by rw [h.rc.n];kernel_rfl)
 have HRB:=lh (show rightB N r.hs i l=(decide (l.length=lenN N i)&&decide (shaL l=hi')) from by
  unfold rightB;rw [hh]
  congr 1
  rw [decide_eq_decide,Option.some.injEq]
  exact eq_comm)
 have k23:=(cellB (k:=23) h.blk).trans D23;have k28:=(cellB (k:=28) h.blk).trans D28;have HGl:=lh (ltB h.row);obtain ⟨a,cap,rfl,h1,h2,_⟩:=hv;unfold maxLen at h2;unfold hashV at HVf;generalize rightB N r.hs i l=R at *;generalize hArr hi' 32=A at *;generalize lenN N i=m at *;obtain ⟨q,hq⟩:∃ q,q=decide (shaL l=hi'):=⟨_,rfl⟩;rw [<-hq] at HVf HRB;obtain ⟨c,hc⟩:∃ c,c=countN N:=⟨_,rfl⟩;rw [<-hc] at k23 k28 D23 D28 hi hc32 hcn;obtain ⟨ln,hln⟩:∃ ln,ln=l.length:=⟨_,rfl⟩;have HLn:=lh hln;rw [<-hln] at hl h1 HRB;simp only [<-hln] at HVf HCl;clear hq hc hb3 hrg hh hln h T hnm hh32;have g1:decide ((i:Int)<0)=false:=decide_eq_false (by omega);have g2:decide ((c:Int)<=(i:Int))=false:=decide_eq_false (by omega);have g3:decide (c<=i)=false:=decide_eq_false (by omega);have hin:(i:Int)<(c:Int):=by omega
 rw [show l.length=ln from HLn.out.symm];by_cases hlm:ln=m
 ·have e1:((ln:Int) != (m:Int))=false:=by rw [bne_eq_false_iff_eq];omega
  have HRq:=lh (show R=q from by rw [HRB.out,decide_eq_true hlm,Bool.true_and]);clear HRB;subst hlm;go_enter func16,ntmps16;go_wp2_with fail;refine HIs.out.mono ?_;rintro e w1 ⟨rfl,hw⟩;obtain rfl:=hw.symm;clear hw;go_wp2_with (refine wpList_load_at rfl 31 (.tmp 29) rfl p 0 rfl (D.extract 0 27) _ HRr.out underlying31 rfl HRz.out ?_;go_frame);refine (HLen _).out.mono ?_;rintro e w2 ⟨rfl,x2⟩;have HX2:=lh x2;have hb2':=HB.out _ x2;have k23':=(cellB (k:=23) hb2').trans D23;have HR2:=lh (HR.out _ x2);clear x2 k23 k28 hb2';go_wp2_with (refine wpList_load_at_g (by simp [Region.wanted,yielded]) 45 (.tmp 43) rfl hb (ho+i*32) rfl A _ HR2.out underlying45 rfl HAz.out ?_;go_frame);refine (HVf _ HX2.out).out.mono ?_;rintro e w3 ⟨rfl,x3⟩;have HX3:=lh (HX2.out.trans x3);clear x3 k23'
  cases q with
  | false =>
   go_wp2_with fail;go_ret;exact ⟨fun h=>(by rw [HRq.out] at h;cases h),fun _=>⟨rfl,HX3.out⟩⟩
  | true =>
   go_wp2_with fail;refine (HCl _ HX3.out (by omega)).out.mono ?_;rintro e w4 ⟨u,rfl,h4⟩;have H4:=h4;clear h4;go_wp2_with fail;have hrow4:=H4.out.1;rw [HLn.out] at hrow4;obtain ⟨gb,hgb1,hgb2,hpa⟩:=PartAt.own hrow4 (by have:=HLn.out;omega);have x4:=HX3.out.trans H4.out.2;have hgl:=HGl.out;have hx3:=HX3.out.size;have hd4:=(HD.out.ext x4).more (b:=gb) (by omega) hgb2;have HF:=HFl _ _ _ hd4 u (hpa.more fun b hb=>List.mem_append.2 (.inr hb))
   have HFX:=lh (show ∀ w5,Chg [g] w4 w5->DkStep w [g] I w5 [g] (I++[gb]) from fun w5 h5=>⟨(x4.chg [g]).trans h5 fun _ h=>.inl h,fun b hb=>.inl hb,fun b hb=>by
    rcases List.mem_append.1 hb with hb | hb
    ·exact .inl hb
    ·rw [List.mem_singleton.1 hb];exact .inr (by omega)⟩)
   clear hrow4 hpa x4 hgl hx3 hd4 hgb1 hgb2;refine HF.out.mono ?_;rintro e w5 ⟨rfl,h5⟩;have H5:=h5;clear h5;go_wp2_with fail;go_ret;obtain ⟨x5,cs5,hd5⟩:=H5.out;exact ⟨fun _=>⟨rfl,_,cs5,HFX.out _ x5,hd5⟩,fun h=>by rw [HRq.out] at h;cases h⟩
 ·have e1:((ln:Int) != (m:Int))=true:=by rw [bne_iff_ne];omega
  have HRq:=lh (show R=false from by rw [HRB.out,decide_eq_false hlm,Bool.false_and]);clear HRB hlm;go_enter func16,ntmps16;go_wp2_with fail;refine HIs.out.mono ?_;rintro e w1 ⟨rfl,hw⟩;obtain rfl:=hw.symm;clear hw;go_wp2_with (refine wpList_load_at rfl 31 (.tmp 29) rfl p 0 rfl (D.extract 0 27) _ HRr.out underlying31 rfl HRz.out ?_;go_frame);refine (HLen _).out.mono ?_;rintro e w2 ⟨rfl,x2⟩;have HX2:=lh x2;clear x2 k23 k28;go_wp2_with fail;go_ret;exact ⟨fun h=>(by rw [HRq.out] at h;cases h),fun _=>⟨rfl,HX2.out⟩⟩
end
section
def taheadB (N:Nat) (hs:List (List UInt8)) (i:Nat):Bool:=(List.range i).any fun k=>sameB N hs k i
set_option maxRecDepth 100000 in
set_option maxHeartbeats 2000000 in
theorem tahead_any (w:World) (p g:Nat) (D cs:Array Value) (bl:Value) (I:List Nat) (r:RecS) (N:Nat) (name:ByteArray) (ps:List (Option (List UInt8))) (h:DrIn w p g D cs bl I r N name ps)
  (i:Nat) (hi:i<countN N) :
  Calls prog 88 #[.pointer (some ⟨p,0,none⟩),.int .i64 i] w fun e w'=>e=.returned (.bool (taheadB N r.hs i))/\Ext w w':=by
 have HLen:=fun (k:Nat) (hk:k<countN N) w'=>lh (show Calls prog 77 #[.agg (D.extract 0 27),.int .i64 k] w' (fun e w''=>e=.returned (.int .i64 (lenN N k:Nat))/\Ext w' w'') from by
  rw [<-h.good.len hk];obtain ⟨a,cap,hb,_⟩:=h.hs
  exact clength_any r _ _ k w' h.rc ⟨a,cap,hb⟩ (by rw [h.good.size];omega) (by rw [h.good.size];have:=h.good.small;omega))
 have hcn:=h.good.count;have hc32:=count_le h.good.small;obtain ⟨a,hcap,rfl,hb1,hb2,hb3⟩:=h.hs;obtain ⟨hi',hh⟩:∃ h',r.hs[i]?=some h':=⟨_,List.getElem?_eq_getElem (by omega)⟩;obtain ⟨hh32,hb,ho,rfl,hbl,hrg⟩:=hb3 i hi' hh;have D23:D[23]?=some (.slice (some ⟨hb,ho,none⟩) (countN N) hcap):=by rw [<-hcn];exact rec_cell 23 h.rc.c23
 have HB:=lh (show ∀ wr,Ext w wr->wr.heap[p]?=some (.cells D 118 (0,0)) from fun wr x=>(x.block (ltB h.blk)).trans h.blk)
 have HR:=lh (show ∀ wr,Ext w wr->∀ k y,r.hs[k]?=some y->y.length=32/\wr.rangeAt hb (ho+k*32) (hArr y 32).toList from fun wr x k y hy=>by
  obtain ⟨h5,g5,o5,h6,h7,h8⟩:=hb3 k y hy
  cases h6
  exact ⟨h5,by rw [hArr_list h5];exact rangeAt.kept h8 (x.block hbl)⟩)
 have HRz:=lh (show (prog.info? 31).map (·.size)=some (D.extract 0 27).size from by rw [h.rc.n];kernel_rfl);have HA:=lh (show taheadB N r.hs i=(List.range i).any fun k=>sameB N r.hs k i from rfl);generalize taheadB N r.hs i=R at *;obtain ⟨c,hc⟩:∃ c,c=countN N:=⟨_,rfl⟩;rw [<-hc] at D23 hi HLen hcn hc32;have HZi:=lh (show (prog.info? 45).map (·.size)=some (hArr hi' 32).size from by rw [hArr_size _ _ hh32 (by omega)];kernel_rfl);clear hb3 hrg h hc;go_enter func88,ntmps88;go_wp2_with fail;go_loopw [7] (fun iv wr=>Hid (∃ k:Nat,k<=i/\iv=.int .i64 k/\Ext w wr/\∀ j,j<k->sameB N r.hs j i=false)) (fun iv _=>i - (intOf iv).toNat)
 case atStart=>exact ⟨0,Nat.zero_le _,rfl,Ext.refl _,fun j hj=>absurd hj (Nat.not_lt_zero j)⟩
 case round =>
  obtain ⟨k,hk,rfl,hx,hno⟩:=hrel.out;clear hrel;have HX:=lh hx;have HNo:=lh hno;have hb0:=HB.out wr hx;by_cases hlt:k<i
  ·obtain ⟨hk',hhk⟩:∃ h',r.hs[k]?=some h':=⟨_,List.getElem?_eq_getElem (by omega)⟩;have hk32:=(HR.out wr hx k hk' hhk).1;have HZk:=lh (show (prog.info? 45).map (·.size)=some (hArr hk' 32).size from by rw [hArr_size _ _ hk32 (by omega)];kernel_rfl);have k23:=(cellB (k:=23) hb0).trans D23;have q23:=After.cell k23
   have HQk:=lh (show ∀ w',(∃ y:After wr,w'=y.v)->w'.rangeAt hb (ho+k*32) (hArr hk' 32).toList from by
    rintro _ ⟨y,rfl⟩
    exact (HR.out _ (HX.out.trans y.x) k hk' hhk).2)
   have HQi:=lh (show ∀ w',(∃ y:After wr,w'=y.v)->w'.rangeAt hb (ho+i*32) (hArr hi' 32).toList from by
    rintro _ ⟨y,rfl⟩
    exact (HR.out _ (HX.out.trans y.x) i hi' hh).2)
   have HQr:=lh (show ∀ w',(∃ y:After wr,w'=y.v)->w'.rangeAt p 0 (D.extract 0 27).toList from by
    rintro _ ⟨y,rfl⟩
    exact rangeAt_rec (HB.out _ (HX.out.trans y.x)) 27)
   have heq:=eq_hash hk' hi' hk32 hh32;obtain ⟨q,hq⟩:∃ q,q=decide (hk'=hi'):=⟨_,rfl⟩
   have HSm:=lh (show sameB N r.hs k i=(q&&decide (lenN N k=lenN N i)) from by
    unfold sameB;rw [hhk,hh,hq]
    congr 1
    rw [decide_eq_decide,Option.some.injEq])
   rw [<-hq] at heq;have HLk:=HLen k (by omega);have HLi:=HLen i hi;have hin:(i:Int)<(c:Int):=by omega
   have hkn:(k:Int)<(c:Int):=by omega
   have hkc:k<c:=by omega
   generalize hArr hk' 32=Ak at *;generalize hArr hi' 32=Ai at *;generalize lenN N k=lk at *;generalize lenN N i=li at *
   have HNs:=lh (show sameB N r.hs k i=false->∀ j,j<k+1->sameB N r.hs j i=false from fun hf j hj=>by
    rcases Nat.lt_or_eq_of_le (Nat.le_of_lt_succ hj) with h1 | h1
    ·exact HNo.out j h1
    ·rw [h1];exact hf)
   clear hq hhk hk32 hx hno hb0
   cases q with
   | false =>
    have HN2:=lh (HNs.out (by rw [HSm.out];rfl));go_wp2_with fail;refine wp_region_after (by kernel_rfl) (by kernel_rfl) ?_
    iterate 8 go_big_quiet_step (fail)
    refine wpQuiet_load_at rfl 45 (.tmp 17) rfl hb (ho+k*32) rfl Ak _ HQk.out underlying45 rfl HZk.out ?_;go_frame
    iterate 8 go_big_quiet_step (fail)
    refine wpQuiet_load_at rfl 45 (.tmp 26) rfl hb (ho+i*32) rfl Ai _ HQi.out underlying45 rfl HZi.out ?_;go_frame
    repeat (go_big_quiet_step (fail))
    refine wpQuiet_nil ?_;rintro _ ⟨y,rfl⟩;have HXy:=lh (HX.out.trans y.x);clear q23 k23 heq;go_wp2_with fail;go_roundw
    case rel=>exact ⟨k+1,by omega,by go_num,HXy.out,HN2.out⟩
    case measure=>simp [intOf] <;> omega
   | true =>
    have HSl:=lh (show sameB N r.hs k i=decide (lk=li) from by rw [HSm.out,Bool.true_and]);obtain ⟨q2,hq2⟩:∃ q2,q2=decide (lk=li):=⟨_,rfl⟩
    have e5:((lk:Int)==(li:Int))=q2:=by
     rw [hq2];by_cases hll:lk=li
     ·rw [decide_eq_true hll];rw [beq_iff_eq];omega
     ·rw [decide_eq_false hll];rw [beq_eq_false_iff_ne];omega
    have e6:(lk==li)=q2:=by
     rw [hq2];by_cases hll:lk=li
     ·rw [decide_eq_true hll];rw [beq_iff_eq];exact hll
     ·rw [decide_eq_false hll];rw [beq_eq_false_iff_ne];exact hll
    have HQ2:=lh (HSl.out.trans hq2.symm);clear hq2 HSl
    cases q2
    all_goals
     go_wp2_with fail;refine wp_region_after (by kernel_rfl) (by kernel_rfl) ?_
     iterate 8 go_big_quiet_step (fail)
     refine wpQuiet_load_at rfl 45 (.tmp 17) rfl hb (ho+k*32) rfl Ak _ HQk.out underlying45 rfl HZk.out ?_;go_frame
     iterate 8 go_big_quiet_step (fail)
     refine wpQuiet_load_at rfl 45 (.tmp 26) rfl hb (ho+i*32) rfl Ai _ HQi.out underlying45 rfl HZi.out ?_;go_frame
     iterate 6 go_big_quiet_step (fail)
     refine wpQuiet_load_at_g ?_ 31 (.tmp 33) rfl p 0 rfl (D.extract 0 27) _ HQr.out underlying31 rfl HRz.out ?_
     ·simp [Region.wanted,yielded]
     go_frame;go_big_quiet_step (fail);go_big_quiet_step (exact After.of (HLk _).out)
     iterate 4 go_big_quiet_step (fail)
     refine wpQuiet_load_at_g ?_ 31 (.tmp 40) rfl p 0 rfl (D.extract 0 27) _ HQr.out underlying31 rfl HRz.out ?_
     ·simp [Region.wanted,yielded]
     go_frame;go_big_quiet_step (fail);go_big_quiet_step (exact After.of (HLi _).out)
     repeat (go_big_quiet_step (fail))
     refine wpQuiet_nil ?_;rintro _ ⟨y,rfl⟩;have HXy:=lh (HX.out.trans y.x);clear q23 k23 heq;go_wp2_with fail
    ·have HN2:=lh (HNs.out HQ2.out);go_roundw
     case rel=>exact ⟨k+1,by omega,by go_num,HXy.out,HN2.out⟩
     case measure=>simp [intOf] <;> omega
    ·go_ret;refine ⟨ret_bool (show true=R from ?_),HXy.out⟩;rw [HA.out];exact (List.any_eq_true.2 ⟨k,List.mem_range.2 hlt,HQ2.out⟩).symm
  ·obtain rfl:k=i:=by omega
   have nlt:decide ((k:Int)<(k:Int))=false:=by simp
   clear hx hno hb0;go_wp2_with fail;go_ret;refine ⟨ret_bool (show false=R from ?_),HX.out⟩;rw [HA.out];exact (List.any_eq_false.2 fun j hj=>by rw [HNo.out j (List.mem_range.1 hj)];decide).symm
end
section
theorem mkZeros (w:World) (n:Nat) (hn:n<=1048576):(Instr.makeSlice 22 (.int .i64 n) (.int .i64 n)).run prog w=.ok (.slice (some ⟨w.heap.size,0,none⟩) n n) (w.alloc (.cells (Array.replicate n (.int .u8 0)) 5)):=by
 obtain ⟨i,hi,hz0,hz1,hz2⟩:=info_parts (show (prog.info? 5).map (fun i=>(i.zero,i.size,i.bytes))=some (some (.int .u8 0),1,1) from by kernel_rfl);have h:=run_make w 22 5 i (.int .u8 0) underlying22 hi hz0 .i64 .i64 (n:Int) (n:Int) (by omega) (Int.le_refl _) (by rw [hz2];omega) (by omega);rw [hz1,Int.toNat_natCast,Nat.mul_one] at h
 have e:madeCells (Value.int .u8 0).cells n=Array.replicate n (.int .u8 0):=by
  apply Array.ext
  ·simp [madeCells]
  ·intro j h1 h2;simp [madeCells,Value.cells,Nat.mod_one]
 rw [e] at h;exact h
def PsOk (N:Nat) (hs:List (List UInt8)) (ps:List (Option (List UInt8))):Prop:=∀ (k:Nat) l,ps[k]?=some (some l)->rightB N hs k l=true
theorem right_len {N k:Nat} {hs:List (List UInt8)} {l:List UInt8} (h:rightB N hs k l=true):l.length=lenN N k:=by
 unfold rightB at h;simp only [Bool.and_eq_true,decide_eq_true_eq] at h;exact h.1
theorem PsOk.fill {N:Nat} {hs:List (List UInt8)} {ps:List (Option (List UInt8))} (h:PsOk N hs ps) {i:Nat} {l:List UInt8} (hr:rightB N hs i l=true):PsOk N hs (fillP N hs i l ps):=fun k m hk=>by
 unfold fillP at hk;rw [List.getElem?_mapIdx] at hk;obtain ⟨x,hx,he⟩:=Option.map_eq_some_iff.1 hk;split at he
 ·rename_i hs2
  cases he
  unfold sameL at hs2;unfold rightB at hr ⊢;simp only [Bool.and_eq_true,decide_eq_true_eq] at hs2 hr ⊢;exact ⟨hs2.2.symm,hs2.1.trans hr.2⟩
 ·subst he;exact h k m hx
def partF (N:Nat) (ps:List (Option (List UInt8))) (k:Nat):List UInt8:=match ps[k]? with
 | some (some l)=>l
 | _=>List.replicate (lenN N k) 0
def farTo (N:Nat) (ps:List (Option (List UInt8))) (k:Nat):List UInt8:=(List.range k).flatMap (partF N ps)
def farL (N:Nat) (ps:List (Option (List UInt8))):List UInt8:=farTo N ps (countN N)
theorem partF_len {N:Nat} {hs:List (List UInt8)} {ps:List (Option (List UInt8))} (h:PsOk N hs ps) (k:Nat):(partF N ps k).length=lenN N k:=by
 unfold partF;split
 ·exact right_len (h k _ (by assumption))
 ·simp
theorem farTo_succ (N:Nat) (ps:List (Option (List UInt8))) (k:Nat):farTo N ps (k+1)=farTo N ps k++partF N ps k:=by simp [farTo,List.range_succ]
theorem farTo_len {N:Nat} {hs:List (List UInt8)} {ps:List (Option (List UInt8))} (h:PsOk N hs ps) (k:Nat):(farTo N ps k).length=min (k*sizeN N) N:=by
 induction k with
 | zero=>simp [farTo]
 | succ k ih =>
  rw [farTo_succ,List.length_append,ih,partF_len h,Nat.succ_mul];unfold lenN;omega
theorem farL_len {N:Nat} {hs:List (List UInt8)} {ps:List (Option (List UInt8))} (h:PsOk N hs ps):(farL N ps).length=N:=by
 unfold farL;rw [farTo_len h];have h1:=count_spec N (countN N);omega
def farC (N:Nat) (ps:List (Option (List UInt8))) (k:Nat):Array Value:=((farTo N ps k++List.replicate (N - (farTo N ps k).length) 0).map bv).toArray
set_option maxRecDepth 100000 in
set_option maxHeartbeats 2000000 in
theorem far_any (w:World) (p g:Nat) (D cs:Array Value) (bl:Value) (I:List Nat) (r:RecS) (N:Nat) (name:ByteArray) (ps:List (Option (List UInt8))) (h:DrIn w p g D cs bl I r N name ps) (ho:PsOk N r.hs ps) :
  Calls prog 83 #[.pointer (some ⟨p,0,none⟩)] w fun e w'=>∃ u,e=.returned u/\Hid ((w'.ownsRow w.heap.size 5 1 u N ((farL N ps).map bv)/\Ext w w')/\u=.slice (some ⟨w.heap.size,0,none⟩) N N):=by
 have hsm:=h.good.small;have hc32:=count_le hsm;have hcs:=count_spec N;have hsz:=sizeN_spec N;have D3:D[3]?=some (.int .i64 (N:Nat)):=by rw [<-h.good.size];exact rec_cell 3 h.rc.c3
 have D22:D[22]?=some (.int .i64 (sizeN N:Nat)):=by rw [<-h.good.bs];exact rec_cell 22 h.rc.c22
 have D28:D[28]?=some (.slice (some ⟨g,0,none⟩) (countN N) (countN N)):=by rw [<-h.len];exact h.c28
 have HB:=lh (show ∀ wr,Ext w wr->wr.heap[p]?=some (.cells D 118 (0,0)) from fun wr x=>(x.block (ltB h.blk)).trans h.blk);have HRw:=lh (show ∀ wr,Ext w wr->wr.heap[g]?=some (.cells cs 22 (0,0)) from fun wr x=>(x.block (ltB h.row)).trans h.row);have HD:=lh h;have k3:=(cellB (k:=3) h.blk).trans D3;have k28:=(cellB (k:=28) ((((Ext.refl w).alloc (.cells (Array.replicate N (.int .u8 0)) 5)).block (ltB h.blk)).trans h.blk)).trans D28;have hmk:=mkZeros w N (by omega);have HF:=lh (show farL N ps=farTo N ps (countN N) from rfl);have HFl:=lh (farL_len ho);have HTl:=lh (farTo_len ho);have HPl:=lh (partF_len ho);obtain ⟨c,hc⟩:∃ c,c=countN N:=⟨_,rfl⟩;obtain ⟨z,hz⟩:∃ z,z=sizeN N:=⟨_,rfl⟩;have HLz:=lh (show ∀ k,lenN N k=min z (N - k*z) from fun k=>by rw [hz];rfl);rw [<-hc] at D28 k28 HF hc32 hcs;rw [<-hz] at D22 hcs hsz HTl;have HGl:=lh (And.intro (ltB h.row) (ltB h.blk));have HLp:=lh (h.len.trans hc.symm);clear hz hc h ho;go_enter func83,ntmps83;go_wp2_with fail;go_loopw [18] (fun iv wr=>Hid (∃ k:Nat,k<=c/\iv=.int .i64 k/\Ext w wr/\wr.heap[w.heap.size]?=some (.cells (farC N ps k) 5 (0,0)))) (fun iv _=>c - (intOf iv).toNat)
 case atStart =>
  refine ⟨0,Nat.zero_le _,rfl,(Ext.refl w).alloc _,?_⟩;rw [block_alloc_new];simp [farC,farTo,bv]
 case round =>
  obtain ⟨k,hk,rfl,hx,hg⟩:=hrel.out;clear hrel k28;have HX:=lh hx;have HG:=lh hg;by_cases hlt:k<c
  ·obtain ⟨x,hxk⟩:∃ x,ps[k]?=some x:=⟨_,List.getElem?_eq_getElem (by have:=HLp.out;omega)⟩;obtain ⟨v,hv,hpv⟩:=(HD.out.ext hx).parts k x hxk;have hb0:=HB.out wr hx;have k22:=(cellB (k:=22) hb0).trans D22;have kk:=(cellB (k:=k) (HRw.out wr hx)).trans hv;have hkz:=(hcs k).1 hlt;obtain ⟨lo,hlo⟩:∃ lo,lo=k*z:=⟨_,rfl⟩;have q1:IntKind.i64.wrap ((k:Int)*(z:Int))=(lo:Int):=(IntWalk.i64_in _ (by rw [<-Int.natCast_mul,<-hlo];omega)).trans (by rw [<-Int.natCast_mul,<-hlo]);have hlo1:(farTo N ps k).length=lo:=by rw [HTl.out,<-hlo];omega
   have hlen:lenN N k=min z (N - lo):=by rw [HLz.out,<-hlo]
   have hpl:=HPl.out k;have HS:=lh (farTo_succ N ps k);rw [<-hlo] at hkz;have hkn:(k:Int)<(c:Int):=by omega
   clear hx hg hlo
   cases x with
   | none =>
    obtain rfl:v=.slice none 0 0:=hpv
    have HC2:=lh (show farC N ps (k+1)=farC N ps k from by
     have e:partF N ps k=List.replicate (lenN N k) 0:=by unfold partF;rw [hxk]
     unfold farC
     rw [farTo_succ,e,List.length_append,hlo1,List.length_replicate,List.append_assoc,List.replicate_append_replicate,show lenN N k+(N - (lo+lenN N k))=N - lo from by omega])
    go_wp2_with (refine wpList_copy_nothing rfl (.tmp 32) (.tmp 33) 22 22 rfl 5 (by kernel_rfl) (by kernel_rfl) (some ⟨w.heap.size,lo,none⟩) none (N - lo) (N - lo) 0 0 rfl rfl (Nat.zero_min _) ?_;go_frame);go_roundw
    case rel=>exact ⟨k+1,by omega,by go_num,HX.out,by rw [HC2.out];exact HG.out⟩
    case measure=>simp [intOf] <;> omega
   | some l =>
    obtain ⟨sb,so,scap,rfl,hl0,hlc,hlm,hlI,hlr⟩:=hpv
    have hll:l.length=lenN N k:=by
     have e:partF N ps k=l:=by unfold partF;rw [hxk]
     rw [<-e];exact hpl
    have e:partF N ps k=l:=by unfold partF;rw [hxk]
    have HLr:=lh (show ∀ j v,(l.map bv)[j]?=some v->wr.cell? ((⟨sb,so,none⟩:Addr).add j)=some v from fun j v hj=>by
     rw [append_kw.add_off];exact hlr j v hj)
    have HC2:=lh (show ((farC N ps k).toList.take lo++(l.map bv++(farC N ps k).toList.drop (lo+(l.map bv).length))).toArray=farC N ps (k+1) from by
     unfold farC;rw [farTo_succ,e,List.length_append,hlo1,List.length_map];simp only [List.map_append,List.map_replicate,List.append_assoc]
     congr 1
     rw [List.take_append_of_le_length (by simp [hlo1]),List.take_of_length_le (by simp [hlo1]),List.drop_append,List.drop_of_length_le (by simp [hlo1]),List.nil_append,List.length_map,hlo1,List.drop_replicate,show N - lo - (lo+l.length - lo)=N - (lo+l.length) from by omega])
    have HM:=lh (show (l.map bv).length=Nat.min (min z (N - lo)) (N - lo) from by rw [List.length_map,hll,hlen];exact (Nat.min_eq_left (Nat.min_le_right _ _)).symm);have HFit:=lh (show lo+(l.map bv).length<=(farC N ps k).size from by unfold farC;simp [hlo1,hll,hlen];omega);have hll2:l.length=min z (N - lo):=hll.trans hlen;have HK:=lh (show (l.map bv).length=l.length from List.length_map _);have HO:=lh (show ∀ v∈l.map bv,v.oneCell'=true from fun v hv=>by obtain ⟨y,_,rfl⟩:=List.mem_map.1 hv;rfl);clear hlr e hpl hll hlen hlo1;generalize l.map bv=lv at *;generalize l.length=ln at *;generalize min z (N - lo)=mz at *;subst hll2;go_wp2_with (refine wpList_copyT rfl (.tmp 32) (.tmp 33) 22 22 rfl 5 (by kernel_rfl) (by kernel_rfl) w.heap.size lo (N - lo) (N - lo) ⟨sb,so,none⟩ ln scap rfl rfl _ _ HG.out lv HM.out HLr.out HFit.out HO.out _ HC2.out ln HK.out ?_;intro w1 hb1 ht1;have HB1:=lh hb1;have HT1:=lh (ht1.fresh HX.out (Nat.le_refl _));clear hb1 ht1;go_frame);go_roundw
    case rel=>exact ⟨k+1,by omega,by go_num,HT1.out,HB1.out⟩
    case measure=>simp [intOf] <;> omega
  ·obtain rfl:k=c:=by omega
   have nlt:decide ((k:Int)<(k:Int))=false:=by simp
   clear hx hg;go_wp2_with fail;go_ret;refine ⟨_,rfl,⟨⟨by rw [List.length_map,HFl.out,Nat.mul_one],.inr ⟨w.heap.size,N,_,rfl,Nat.le_refl _,HG.out,Nat.le_refl _,by unfold maxLen;omega,?_,?_⟩⟩,HX.out⟩,rfl⟩
   ·have:=HFl.out;rw [HF.out] at this;unfold farC;simp [this]
   ·have:=HFl.out;rw [HF.out] at this;rw [HF.out];unfold farC;simp [this];exact List.take_of_length_le (by rw [List.length_map,this];exact Nat.le_refl _)
end
section
def iv (k:Nat):Value:=.int .i64 k
theorem elInt:ElemK prog 41 3 (.int .i64 0) 1 8:=⟨by kernel_rfl,by kernel_rfl,rfl,by decide,by decide⟩
def thAt (w0:World) (Q:Nat->Bool) (k:Nat) (v:Value) (wr:World):Prop :=
 wr.ownsRow w0.heap.size 3 1 v ((List.range k).filter Q).length (((List.range k).filter Q).map iv)/\Ext w0 wr
set_option maxRecDepth 100000 in
set_option maxHeartbeats 2000000 in
theorem those_any (w:World) (p g:Nat) (D cs:Array Value) (bl:Value) (I:List Nat) (r:RecS) (N:Nat) (name:ByteArray) (ps:List (Option (List UInt8))) (h:DrIn w p g D cs bl I r N name ps)
  (F:FuncId) (b:Nat) (Q:Nat->Bool) (hen:∀ args W,(callFunc F args).run prog W=.ok (.enter F args) W) (hF:∀ w' (i:Nat),Ext w w'->i<countN N->Calls prog F #[.int .i64 i,.pointer (some ⟨b,0,none⟩)] w' fun e w''=>e=.returned (.bool (Q i))/\Ext w' w'') :
  Calls prog 84 #[.pointer (some ⟨p,0,none⟩),.func (.func F) #[] #[.pointer (some ⟨b,0,none⟩)]] w fun e w'=>∃ u,e=.returned u/\Hid (w'.ownsRow w.heap.size 3 1 u ((List.range (countN N)).filter Q).length (((List.range (countN N)).filter Q).map iv)/\Ext w w'):=by
 have hc32:=count_le h.good.small;have D28:D[28]?=some (.slice (some ⟨g,0,none⟩) (countN N) (countN N)):=by rw [<-h.len];exact h.c28
 have k28:=(cellB (k:=28) h.blk).trans D28;have HFs:=fun w' i x hi=>lh (hF w' i x hi);generalize countN N=c at *;clear h hF D28;go_enter func84,ntmps84;go_wp2_with fail;go_loopw [4,11] (fun lv iv wr=>Hid (∃ k:Nat,k<=c/\iv=.int .i64 k/\thAt w Q k lv wr)) (fun _ iv _=>c - (intOf iv).toNat)
 case atStart=>exact ⟨0,Nat.zero_le _,rfl,World.ownsRow_nil _ _ _ _,Ext.refl _⟩
 case round =>
  obtain ⟨k,hk,rfl,ho,hx⟩:=hrel.out;clear hrel k28;have HX:=lh hx;have HO:=lh ho;obtain ⟨oa,ocap,rfl⟩:=rowk_shape ho;have hfl:((List.range k).filter Q).length<=k:=by simpa using List.length_filter_le Q (List.range k)
  by_cases hlt:k<c
  ·have HFk:=HFs _ k hx hlt;clear ho hx HFs;go_wp2_with fail;refine HFk.out.mono ?_;rintro e w2 ⟨rfl,x2⟩;have HX2:=lh (HX.out.trans x2);have HO2:=lh (owns_ext HO.out x2);have hsz:=HX2.out.size;clear x2 HO HX HFk
   cases hq:Q k with
   | false =>
    have HR:=lh (show (List.range (k+1)).filter Q=(List.range k).filter Q from by rw [List.range_succ,List.filter_append];simp [hq]);go_wp2_with fail;go_roundw
    case rel=>exact ⟨k+1,by omega,by go_num,by unfold thAt;rw [HR.out];exact ⟨HO2.out,HX2.out⟩⟩
    case measure=>simp [intOf] <;> omega
   | true =>
    have HR:=lh (show (List.range (k+1)).filter Q=(List.range k).filter Q++[k] from by rw [List.range_succ,List.filter_append];simp [hq]);go_wp2_with (at_builtin;refine append_k elInt w.heap.size _ _ _ (HO2.out.alloc _) w2.heap.size [.int .i64 k] rfl (.tmp 17) (.tmp 19) rfl rfl rfl rfl ?c1 ?c2 (by omega) (by simp;omega) ?_)
    case c1 =>
     intro j y hj;rw [cell_alloc_new rfl,<-hj];simp
    case c2 =>
     intro y hy;rw [List.mem_singleton.1 hy];rfl
    intro v' w4 hown4 hg4 hrow4
    have HF:=lh (show thAt w Q (k+1) v' w4 from by
     unfold thAt;rw [HR.out,List.length_append,List.map_append]
     exact ⟨hown4,grown_extB (HX2.out.alloc _) (Nat.le_refl _) (HO2.out.alloc _) hg4⟩)
    clear hown4 hg4 hrow4;go_wp2_with fail;go_roundw
    case rel=>exact ⟨k+1,by omega,by go_num,HF.out⟩
    case measure=>simp [intOf] <;> omega
  ·obtain rfl:k=c:=by omega
   have nlt:decide ((k:Int)<(k:Int))=false:=by simp
   clear ho hx HFs;go_wp2_with fail;go_ret;exact ⟨_,rfl,HO.out,HX.out⟩
def haveB (ps:List (Option (List UInt8))) (k:Nat):Bool:=match ps[k]? with
 | some (some _)=>true
 | _=>false
theorem enters_have:∀ args w,(callFunc 85 args).run prog w=.ok (.enter 85 args) w:=enters_of func85 (by kernel_rfl) rfl
theorem enters_asked:∀ args w,(callFunc 87 args).run prog w=.ok (.enter 87 args) w:=enters_of func87 (by kernel_rfl) rfl
set_option maxRecDepth 100000 in
theorem have1_any (w:World) (p g:Nat) (D cs:Array Value) (bl:Value) (I:List Nat) (r:RecS) (N:Nat) (name:ByteArray) (ps:List (Option (List UInt8))) (h:DrIn w p g D cs bl I r N name ps) (b:Nat) (hb:w.cell? ⟨b,0,none⟩=some (.pointer (some ⟨p,0,none⟩))) (i:Nat) (hi:i<countN N) :
  Calls prog 85 #[.int .i64 i,.pointer (some ⟨b,0,none⟩)] w fun e w'=>e=.returned (.bool (haveB ps i))/\Ext w w':=by
 have D28:D[28]?=some (.slice (some ⟨g,0,none⟩) (countN N) (countN N)):=by rw [<-h.len];exact h.c28
 have k28:=(cellB (k:=28) h.blk).trans D28;obtain ⟨x,hx⟩:∃ x,ps[i]?=some x:=⟨_,List.getElem?_eq_getElem (by rw [h.len];exact hi)⟩;obtain ⟨v,hv,hpv⟩:=h.parts i x hx;have kk:=(cellB (k:=i) h.row).trans hv;have HH:=lh (show haveB ps i=x.isSome from by unfold haveB;rw [hx];cases x <;> rfl);generalize countN N=c at *;generalize haveB ps i=R at *;have hin:(i:Int)<(c:Int):=by omega
 clear D28 h hx hv
 cases x with
 | none =>
  obtain rfl:v=.slice none 0 0:=hpv;go_enter func85,ntmps85;go_wp2_with fail;go_ret;exact ⟨ret_bool HH.out.symm,Ext.refl _⟩
 | some l =>
  obtain ⟨sb,so,scap,rfl,_⟩:=hpv;go_enter func85,ntmps85;go_wp2_with fail;go_ret;exact ⟨ret_bool HH.out.symm,Ext.refl _⟩
theorem eql_none (w:World):(binOp .eql 22 (.slice none 0 0) (.slice none 0 0)).run prog w=.ok (.bool true) w:=by
 kernel_rfl
theorem eql_some (w:World) (a:Addr) (n c:Nat):(binOp .eql 22 (.slice (some a) n c) (.slice none 0 0)).run prog w=.ok (.bool false) w:=by
 kernel_rfl
def askB (N:Nat) (hs:List (List UInt8)) (ps:List (Option (List UInt8))) (i:Nat):Bool:=!haveB ps i&&!taheadB N hs i
set_option maxRecDepth 100000 in
theorem asked1_any (w:World) (p g:Nat) (D cs:Array Value) (bl:Value) (I:List Nat) (r:RecS) (N:Nat) (name:ByteArray) (ps:List (Option (List UInt8))) (h:DrIn w p g D cs bl I r N name ps) (b:Nat) (hb:w.cell? ⟨b,0,none⟩=some (.pointer (some ⟨p,0,none⟩))) (i:Nat) (hi:i<countN N) :
  Calls prog 87 #[.int .i64 i,.pointer (some ⟨b,0,none⟩)] w fun e w'=>e=.returned (.bool (askB N r.hs ps i))/\Ext w w':=by
 have HA:=lh (tahead_any w p g D cs bl I r N name ps h i hi);have D28:D[28]?=some (.slice (some ⟨g,0,none⟩) (countN N) (countN N)):=by rw [<-h.len];exact h.c28
 have k28:=(cellB (k:=28) h.blk).trans D28;obtain ⟨x,hx⟩:∃ x,ps[i]?=some x:=⟨_,List.getElem?_eq_getElem (by rw [h.len];exact hi)⟩;obtain ⟨v,hv,hpv⟩:=h.parts i x hx;have kk:=(cellB (k:=i) h.row).trans hv;have HH:=lh (show askB N r.hs ps i=(!x.isSome&&!taheadB N r.hs i) from by unfold askB haveB;rw [hx];cases x <;> rfl);generalize countN N=c at *;generalize askB N r.hs ps i=R at *;generalize taheadB N r.hs i=B at *;have hin:(i:Int)<(c:Int):=by omega
 have he1:=eql_none;have he2:=eql_some;clear D28 h hx hv
 cases x with
 | none =>
  obtain rfl:v=.slice none 0 0:=hpv;go_enter func87,ntmps87;go_wp2_with fail;refine HA.out.mono ?_;rintro e w2 ⟨rfl,x2⟩;have HX2:=lh x2;clear x2;go_wp2_with fail;go_ret;exact ⟨ret_bool (by rw [HH.out];simp),HX2.out⟩
 | some l =>
  obtain ⟨sb,so,scap,rfl,_⟩:=hpv;go_enter func87,ntmps87;go_wp2_with fail;go_ret;exact ⟨ret_bool (by rw [HH.out];simp),Ext.refl _⟩
end
section
set_option maxRecDepth 100000 in
set_option maxHeartbeats 1000000 in
theorem have_any (w:World) (p g:Nat) (D cs:Array Value) (bl:Value) (I:List Nat) (r:RecS) (N:Nat) (name:ByteArray) (ps:List (Option (List UInt8))) (h:DrIn w p g D cs bl I r N name ps) (hnm:name.toList.isEmpty=false) :
  Calls prog 19 #[.pointer (some ⟨p,0,none⟩)] w fun e w'=>∃ u,e=.returned u/\Hid (w'.ownsRow w.heap.size 3 1 u ((List.range (countN N)).filter (haveB ps)).length (((List.range (countN N)).filter (haveB ps)).map iv)/\Ext w w'):=by
 have HX:=lh ((Ext.refl w).alloc (.cells #[.pointer (some ⟨p,0,none⟩)] 33));have HIs:=fun w' (x:Ext w w')=>lh (tis_any w' p D _ _ name ((h.ext x).blk) h.c27);rw [hnm] at HIs;have hbk:=block_alloc_new w (.cells #[.pointer (some ⟨p,0,none⟩)] 33 (0,0));have HTh:=lh (those_any _ p g D cs bl I r N name ps (h.ext HX.out) 85 w.heap.size (haveB ps) enters_have fun w' i x hi=>have1_any w' p g D cs bl I r N name ps ((h.ext HX.out).ext x) w.heap.size ((cellB (k:=0) ((x.block (ltB hbk)).trans hbk))) i hi);generalize (List.range (countN N)).filter (haveB ps)=L at *;clear h hnm hbk;go_enter func19,ntmps19;go_wp2_with fail;refine (HIs _ HX.out).out.mono ?_;rintro e w1 ⟨rfl,hw⟩;obtain rfl:=hw.symm;clear hw HIs;go_wp2_with fail;refine HTh.out.mono ?_;rintro e w2 ⟨u,rfl,h2⟩;have H2:=h2;clear h2;go_wp2_with fail;go_ret;exact ⟨_,rfl,owns_low H2.out.1 (by rw [size_alloc];omega),HX.out.trans H2.out.2⟩
set_option maxRecDepth 100000 in
set_option maxHeartbeats 1000000 in
theorem asked_any (w:World) (p g:Nat) (D cs:Array Value) (bl:Value) (I:List Nat) (r:RecS) (N:Nat) (name:ByteArray) (ps:List (Option (List UInt8))) (h:DrIn w p g D cs bl I r N name ps) (hnm:name.toList.isEmpty=false) :
  Calls prog 21 #[.pointer (some ⟨p,0,none⟩)] w fun e w'=>∃ u,e=.returned u/\Hid (w'.ownsRow w.heap.size 3 1 u ((List.range (countN N)).filter (askB N r.hs ps)).length (((List.range (countN N)).filter (askB N r.hs ps)).map iv)/\Ext w w'):=by
 have HX:=lh ((Ext.refl w).alloc (.cells #[.pointer (some ⟨p,0,none⟩)] 33));have HIs:=fun w' (x:Ext w w')=>lh (tis_any w' p D _ _ name ((h.ext x).blk) h.c27);rw [hnm] at HIs;have hbk:=block_alloc_new w (.cells #[.pointer (some ⟨p,0,none⟩)] 33 (0,0));have HTh:=lh (those_any _ p g D cs bl I r N name ps (h.ext HX.out) 87 w.heap.size (askB N r.hs ps) enters_asked fun w' i x hi=>asked1_any w' p g D cs bl I r N name ps ((h.ext HX.out).ext x) w.heap.size ((cellB (k:=0) ((x.block (ltB hbk)).trans hbk))) i hi);generalize (List.range (countN N)).filter (askB N r.hs ps)=L at *;clear h hnm hbk;go_enter func21,ntmps21;go_wp2_with fail;refine (HIs _ HX.out).out.mono ?_;rintro e w1 ⟨rfl,hw⟩;obtain rfl:=hw.symm;clear hw HIs;go_wp2_with fail;refine HTh.out.mono ?_;rintro e w2 ⟨u,rfl,h2⟩;have H2:=h2;clear h2;go_wp2_with fail;go_ret;exact ⟨_,rfl,owns_low H2.out.1 (by rw [size_alloc];omega),HX.out.trans H2.out.2⟩
def doneB (N:Nat) (hs:List (List UInt8)) (ps:List (Option (List UInt8))):Bool:=((List.range (countN N)).filter (askB N hs ps)).isEmpty
set_option maxRecDepth 100000 in
set_option maxHeartbeats 1000000 in
theorem tdone_any (w:World) (p g:Nat) (D cs:Array Value) (bl:Value) (I:List Nat) (r:RecS) (N:Nat) (name:ByteArray) (ps:List (Option (List UInt8))) (h:DrIn w p g D cs bl I r N name ps) (hnm:name.toList.isEmpty=false) :
  Calls prog 24 #[.pointer (some ⟨p,0,none⟩)] w fun e w'=>e=.returned (.bool (doneB N r.hs ps))/\Ext w w':=by
 have HIs:=lh (tis_any w p D _ _ name h.blk h.c27);rw [hnm] at HIs;have HA:=lh (asked_any w p g D cs bl I r N name ps h hnm)
 have HR:=lh (show doneB N r.hs ps=(((((List.range (countN N)).filter (askB N r.hs ps)).length:Nat):Int)==0) from by
  unfold doneB
  cases (List.range (countN N)).filter (askB N r.hs ps) <;> simp <;> omega)
 generalize (List.range (countN N)).filter (askB N r.hs ps)=L at *;generalize doneB N r.hs ps=R at *;clear h hnm;go_enter func24,ntmps24;go_wp2_with fail;refine HIs.out.mono ?_;rintro e w1 ⟨rfl,hw⟩;obtain rfl:=hw.symm;clear hw HIs;go_wp2_with fail;refine HA.out.mono ?_;rintro e w2 ⟨u,rfl,h2⟩;have H2:=h2;obtain ⟨ua,ucap,rfl⟩:=rowk_shape h2.out.1;clear h2;have HRe:=HR.out;generalize L.length=n at *
 cases hq:((n:Int)==0)
 all_goals
  rw [hq] at HRe;go_wp2_with fail;go_ret;exact ⟨ret_bool HRe.symm,H2.out.2⟩
set_option maxRecDepth 100000 in
set_option maxHeartbeats 1000000 in
theorem tdata_any (w:World) (p g:Nat) (D cs:Array Value) (bl:Value) (I:List Nat) (r:RecS) (N:Nat) (name:ByteArray) (ps:List (Option (List UInt8))) (h:DrIn w p g D cs bl I r N name ps) (hnm:name.toList.isEmpty=false) (ho:PsOk N r.hs ps) :
  Calls prog 22 #[.pointer (some ⟨p,0,none⟩)] w fun e w'=>∃ u,e=.returned (.tuple #[u,.bool (doneB N r.hs ps)])/\Hid (Ext w w'/\(doneB N r.hs ps=false->u=.slice none 0 0)/\(doneB N r.hs ps=true->w'.ownsRow w.heap.size 5 1 u N ((farL N ps).map bv))):=by
 have HDn:=lh (tdone_any w p g D cs bl I r N name ps h hnm);have HFr:=fun w' (x:Ext w w')=>lh (far_any w' p g D cs bl I r N name ps (h.ext x) ho);generalize doneB N r.hs ps=R at *;clear h hnm ho
 cases R with
 | false =>
  go_enter func22,ntmps22;go_wp2_with fail;refine HDn.out.mono ?_;rintro e w1 ⟨rfl,x1⟩;have HX1:=lh x1;clear x1 HDn HFr;go_wp2_with fail;go_ret2;exact ⟨_,rfl,HX1.out,fun _=>rfl,fun h=>(by cases h)⟩
 | true =>
  go_enter func22,ntmps22;go_wp2_with fail;refine HDn.out.mono ?_;rintro e w1 ⟨rfl,x1⟩;have HX1:=lh x1;clear x1 HDn;go_wp2_with fail;refine (HFr _ HX1.out).out.mono ?_;rintro e w2 ⟨u,rfl,h2⟩;have H2:=h2;clear h2 HFr;go_wp2_with fail;go_ret2;exact ⟨_,rfl,HX1.out.trans H2.out.1.2,fun h=>(by cases h),fun _=>owns_low H2.out.1.1 HX1.out.size⟩
end
section
def bytesB (l:List UInt8):ByteArray:=⟨l.toArray⟩
theorem conv_own {w:World} {g n:Nat} {l:List UInt8} (h:w.ownsRow g 5 1 (.slice (some ⟨g,0,none⟩) n n) n (l.map bv)) (hl:l.length=n) :
  (convert 22 9 (.slice (some ⟨g,0,none⟩) n n)).run prog w=.ok (.string (bytesB l)) w:=by
 have h1:=run_convert_bytes_back w 22 9 5 ⟨g,0,none⟩ n l underlying22 (by kernel_rfl) underlying9 (fun j hj=>by
  have:=h.cells (g:=g) rfl j (bv (l[j]'hj)) (by rw [List.getElem?_map,List.getElem?_eq_getElem hj];rfl)
  exact this)
 rw [hl] at h1;exact h1
set_option maxRecDepth 100000 in
set_option maxHeartbeats 2000000 in
theorem save_any (w:World) (E:Env w) (p g:Nat) (D cs:Array Value) (bl:Value) (J:List Nat) (r:RecS) (N:Nat) (name:ByteArray) (ps:List (Option (List UInt8))) (h:DrIn w p g D cs bl J r N name ps) (hnm:name.toList.isEmpty=false) (ho:PsOk N r.hs ps) (hnz:name.size<4294967281)
  (d:Nat) (M I:List Nat) (K:Dk) (hd:DkAt w d M I K) (O:DkFit K) (ha:p∉M) :
  Calls prog 18 #[.pointer (some ⟨p,0,none⟩),.pointer (some ⟨d,0,none⟩)] w (ActPost w d M I (K.act (.write name (bytesB (farL N ps)) r.time))):=by
 have HIs:=lh (tis_any w p D _ _ name h.blk h.c27);rw [hnm] at HIs;have hfl:=farL_len ho
 have HFr:=lh (show Calls prog 83 #[.pointer (some ⟨p,0,none⟩)] w.drew (fun e w2=>e=.returned (.slice (some ⟨w.heap.size,0,none⟩) N N)/\Ext w w2/\(convert 22 9 (.slice (some ⟨w.heap.size,0,none⟩) N N)).run prog w2=.ok (.string (bytesB (farL N ps))) w2) from
  (far_any w.drew p g D cs bl J r N name ps (h.ext (Ext.refl w).drew) ho).mono fun e w2 ⟨u,he,hh⟩=>by
   obtain ⟨⟨h1,h2⟩,hu⟩:=hh.out;subst hu
   exact ⟨he,(Ext.refl w).drew.trans h2,conv_own h1 hfl⟩)
 have hN:=h.good.small;have k27:w.cell? ⟨p,27,none⟩=some (.string name):=(cellB (k:=27) h.blk).trans h.c27;have k4:w.cell? ⟨p,4,none⟩=some (.int .i64 r.time):=(cellB (k:=4) h.blk).trans (rec_cell 4 h.rc.c4);have HW:=fun w2 (x:Ext w w2)=>lh (Write_any (hd.ext x) O (E.ext x) name (bytesB (farL N ps)) r.time hnz (by unfold bytesB;rw [size_mk,List.size_toArray,hfl];omega));have hpl:=ltB h.blk
 have HS:=lh (show ∀ w2 w',Ext w w2->Chg M w2 w'->w'.cell? ⟨p,27,none⟩=some (.string name)/\w'.cell? ⟨p,4,none⟩=some (.int .i64 r.time) from fun w2 w' x c=>by
  have hp2:=Nat.lt_of_lt_of_le hpl x.size
  exact ⟨((c.cell hp2 ha).trans (x.cell hpl)).trans k27,((c.cell hp2 ha).trans (x.cell hpl)).trans k4⟩)
 have HT:=lh (show ∀ w2 e w',Ext w w2->ActPost w2 d M I (K.act (.write name (bytesB (farL N ps)) r.time)) e w'->ActPost w d M I (K.act (.write name (bytesB (farL N ps)) r.time)) e w' from fun w2 e w' x ⟨h1,M',I',h2,h3⟩=>⟨h1,M',I',h2,(DkStep.of_ext x M I).trans h3⟩);generalize K.act (.write name (bytesB (farL N ps)) r.time)=R at *;generalize bytesB (farL N ps)=S at *;generalize r.time=tm at *;clear h hnm ho hd O E ha hfl;go_enter func18,ntmps18;go_wp2_with fail;refine HIs.out.mono ?_;rintro e w1 ⟨rfl,hw⟩;obtain rfl:=hw.symm;clear hw HIs;go_wp2_with fail
 go_region_held (fun w'=>w'.cell? ⟨p,27,none⟩=some (.string name)/\w'.cell? ⟨p,4,none⟩=some (.int .i64 tm)) (first | go_keep | exact HS.out _ _ (by assumption) (Chg.refl _ _) | exact HS.out _ _ (by assumption) (by assumption)) (first
  | (go_at_call 83;refine HFr.out.mono ?_;rintro e w2 ⟨rfl,x2,hcv⟩;have HW2:=HW _ x2)
  | (go_at_call 58;refine HW2.out.mono ?_;rintro e w9 h9;have h10:=HT.out _ _ _ (by assumption) h9;obtain ⟨rfl,M',I',h7,h8⟩:=h9;have h11:=h8.chg;clear h7 h8))
 all_goals (go_wp2_with fail;go_ret;exact ⟨rfl,h10.2⟩)
def dropR (K:Dk) (name:ByteArray):Int×Dk:=if (readE K.live name).2=5 then (0,K) else K.act (.remove name)
set_option maxRecDepth 100000 in
set_option maxHeartbeats 2000000 in
theorem drop_any (w:World) (E:Env w) (p:Nat) (D:Array Value) (t:TypeId) (name:ByteArray) (hb:w.heap[p]?=some (.cells D t (0,0))) (hn:D[27]?=some (.string name)) (hnm:name.toList.isEmpty=false) (hnz:name.size<4294967281)
  (d:Nat) (M I:List Nat) (K:Dk) (hd:DkAt w d M I K) (O:DkFit K) :
  Calls prog 48 #[.pointer (some ⟨p,0,none⟩),.pointer (some ⟨d,0,none⟩)] w (ActPost w d M I (dropR K name)):=by
 have HIs:=lh (tis_any w p D _ _ name hb hn);rw [hnm] at HIs;have HR:=lh (Read_any hd E name hnz);unfold nv at HR;have HB:=lh hb;have k27:w.cell? ⟨p,27,none⟩=some (.string name):=(cellB (k:=27) hb).trans hn;have HD:=lh (show dropR K name=if (readE K.live name).2=5 then (0,K) else K.act (.remove name) from rfl);have HW:=fun w2 (x:Ext w w2)=>lh (Remove_any (hd.ext x) O (E.ext x) name hnz);have HK:=lh hd;generalize dropR K name=R at *;generalize (readE K.live name).1=nd at *;generalize (readE K.live name).2=z at *;obtain ⟨nk,ndt,nt,ntm⟩:=nd;have HP:=lh hb;clear hb hd O E hnm hn;go_enter func48,ntmps48;go_wp2_with fail;refine HIs.out.mono ?_;rintro e w1 ⟨rfl,hw⟩;obtain rfl:=hw.symm;clear hw HIs;go_wp2_with fail;refine HR.out.mono ?_;rintro e w2 ⟨rfl,x2⟩;have HX2:=lh (x2.alloc (.cells #[.int .i64 nk,.string ndt,.string nt,.int .i64 ntm] 57));have k27':(w2.alloc (.cells #[.int .i64 nk,.string ndt,.string nt,.int .i64 ntm] 57)).cell? ⟨p,27,none⟩=some (.string name):=(HX2.out.cell (ltB HP.out)).trans k27;clear x2 k27 HR;by_cases hz:z=5
 ·have e1:(z==5)=true:=by rw [beq_iff_eq];exact hz
  have HR2:=lh (HD.out.trans (if_pos hz));clear HD;go_wp2_with fail;go_ret;exact ActPost.still HK.out HX2.out HR2.out
 ·have e1:(z==5)=false:=by rw [beq_eq_false_iff_ne];exact hz
  have HR2:=lh (HD.out.trans (if_neg hz));clear HD;go_wp2_with fail;refine (HW _ HX2.out).out.mono ?_;rintro e w3 h3;have H3:=lh h3;obtain ⟨rfl,_⟩:=h3;go_wp2_with fail;go_ret;rw [HR2.out];obtain ⟨h1,M',I',h4,h5⟩:=H3.out;exact ⟨rfl,M',I',h4,(DkStep.of_ext HX2.out M I).trans h5⟩
end
end Go.Proofs.YtldppmjjgljinaaGreatDoor
