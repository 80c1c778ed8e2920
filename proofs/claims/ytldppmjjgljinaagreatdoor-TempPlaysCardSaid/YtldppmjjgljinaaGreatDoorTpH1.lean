import Derived.Test.YtldppmjjgljinaaGreatDoorTpG3
import Derived.Test.YtldppmjjgljinaaGreatDoorTpE2
open Go.Proofs.Tryz
namespace Go.Proofs.YtldppmjjgljinaaGreatDoor
section
open Go.RowKit Go.Shelf
attribute [local go_sem] Oper.semAt_some
structure RDrIn (w:World) (p g:Nat) (D cs:Array Value) (bl:Value) (I:List Nat) (r:RecS) (N:Nat) (name:ByteArray) (ps:List (Option (List UInt8))):Prop where
 good:r.Good N
 blk:w.heap[p]?=some (.cells D 183 (0,0))
 n:D.size=29
 rc:RecC (D.extract 0 27) r bl
 c27:D[27]?=some (.string name)
 c28:D[28]?=some (.slice (some ⟨g,0,none⟩) ps.length ps.length)
 hs:HashesAt w bl r.hs
 hsI:∀ b o n c,bl=.slice (some ⟨b,o,none⟩) n c->b∈I
 len:ps.length=countN N
 row:w.heap[g]?=some (.cells cs 22 (0,0))
 size:cs.size=ps.length
 parts:∀ (k:Nat) x,ps[k]?=some x->∃ v,cs[k]?=some v/\PartAt w I v x
 imm:∀ b∈I,b≠g/\b<w.heap.size
 self:p∈I
theorem RDrIn.kept {w w':World} {p g:Nat} {D cs:Array Value} {bl:Value} {I:List Nat} {r:RecS} {N:Nat} {name:ByteArray} {ps:List (Option (List UInt8))} (h:RDrIn w p g D cs bl I r N name ps)
  (hs:w.heap.size<=w'.heap.size) (hk:∀ b,b<w.heap.size->b∈g::I->w'.heap[b]?=w.heap[b]?):RDrIn w' p g D cs bl I r N name ps where
 good:=h.good
 blk:=(hk p (ltB h.blk) (List.mem_cons_of_mem _ h.self)).trans h.blk
 n:=h.n
 rc:=h.rc
 c27:=h.c27
 c28:=h.c28
 hs:=h.hs.kept hs fun b o n c e hb=>hk b hb (List.mem_cons_of_mem _ (h.hsI b o n c e))
 hsI:=h.hsI
 len:=h.len
 row:=(hk g (ltB h.row) List.mem_cons_self).trans h.row
 size:=h.size
 parts:=fun k x hx=>by
  obtain ⟨v,h1,h2⟩:=h.parts k x hx;exact ⟨v,h1,h2.kept fun b hb=>hk b (h.imm b hb).2 (List.mem_cons_of_mem _ hb)⟩
 imm:=fun b hb=>⟨(h.imm b hb).1,Nat.lt_of_lt_of_le (h.imm b hb).2 hs⟩
 self:=h.self
theorem RDrIn.turned {w w':World} {p g:Nat} {D cs cs':Array Value} {bl:Value} {I:List Nat} {r:RecS} {N:Nat} {name:ByteArray} {ps ps':List (Option (List UInt8))} (h:RDrIn w p g D cs bl I r N name ps)
  (x:Chg [g] w w') (hg:w'.heap[g]?=some (.cells cs' 22 (0,0))) (hz:cs'.size=ps.length) (hl:ps'.length=ps.length) (hp:∀ (k:Nat) x,ps'[k]?=some x->∃ v,cs'[k]?=some v/\PartAt w I v x):RDrIn w' p g D cs' bl I r N name ps' where
 good:=h.good
 blk:=(x.block p (ltB h.blk) (by simpa using (h.imm p h.self).1)).trans h.blk
 n:=h.n
 rc:=h.rc
 c27:=h.c27
 c28:=by rw [hl];exact h.c28
 hs:=h.hs.kept x.size fun b o n c e hb=>x.block b hb (by simpa using (h.imm b (h.hsI b o n c e)).1)
 hsI:=h.hsI
 len:=hl.trans h.len
 row:=hg
 size:=hz.trans hl.symm
 parts:=fun k y hy=>by
  obtain ⟨v,h1,h2⟩:=hp k y hy;exact ⟨v,h1,h2.kept fun b hb=>x.block b (h.imm b hb).2 (by simpa using (h.imm b hb).1)⟩
 imm:=fun b hb=>⟨(h.imm b hb).1,Nat.lt_of_lt_of_le (h.imm b hb).2 x.size⟩
 self:=h.self
theorem RDrIn.ext {w w':World} {p g:Nat} {D cs:Array Value} {bl:Value} {I:List Nat} {r:RecS} {N:Nat} {name:ByteArray} {ps:List (Option (List UInt8))} (h:RDrIn w p g D cs bl I r N name ps) (x:Ext w w'):RDrIn w' p g D cs bl I r N name ps :=
 h.kept x.size fun _ hb _=>x.block hb
theorem RDrIn.more {w:World} {p g:Nat} {D cs:Array Value} {bl:Value} {I:List Nat} {r:RecS} {N:Nat} {name:ByteArray} {ps:List (Option (List UInt8))} (h:RDrIn w p g D cs bl I r N name ps) {b:Nat} (hg:b≠g) (hl:b<w.heap.size):RDrIn w p g D cs bl (I++[b]) r N name ps :=
 { h with
  hsI:=fun b o n c e=>List.mem_append.2 (.inl (h.hsI b o n c e))
  parts:=fun k x hx=>by
   obtain ⟨v,h1,h2⟩:=h.parts k x hx;exact ⟨v,h1,h2.more fun b hb=>List.mem_append.2 (.inl hb)⟩
  imm:=fun c hc=>by
   rcases List.mem_append.1 hc with hc | hc
   ·exact h.imm c hc
   ·rw [List.mem_singleton.1 hc];exact ⟨hg,hl⟩
  self:=List.mem_append.2 (.inl h.self) }
set_option maxRecDepth 100000 in
set_option maxHeartbeats 2000000 in
theorem rfill23_any (w:World) (p g:Nat) (D cs:Array Value) (bl:Value) (I:List Nat) (r:RecS) (N:Nat) (name:ByteArray) (ps:List (Option (List UInt8))) (h:RDrIn w p g D cs bl I r N name ps)
  (i:Nat) (hi:i<countN N) (l:List UInt8) (v:Value) (hv:PartAt w I v (some l)) :
  Calls prog 115 #[.pointer (some ⟨p,0,none⟩),.int .i64 i,v] w fun e w'=>e=.returned (.tuple #[])/\Hid (Chg [g] w w'/\∃ cs',RDrIn w' p g D cs' bl I r N name (fillP N r.hs i l ps)):=by
 have HD:=lh h
 have HLen:=fun (k:Nat) (hk:k<countN N) w'=>lh (show Calls prog 179 #[.agg (D.extract 0 27),.int .i64 k] w' (fun e w''=>e=.returned (.int .i64 (lenN N k:Nat))/\Ext w' w'') from by
  obtain ⟨a,cap,hb,_⟩:=h.hs
  exact rlen21_any r _ _ N k w' h.rc ⟨a,cap,hb⟩ h.good hk)
 have hcn:=h.good.count;have hc32:=count_le h.good.small;obtain ⟨a,hcap,rfl,hb1,hb2,hb3⟩:=h.hs;obtain ⟨hi',hh⟩:∃ h',r.hs[i]?=some h':=⟨_,List.getElem?_eq_getElem (by omega)⟩;obtain ⟨hh32,hb,ho,rfl,hbl,hrg⟩:=hb3 i hi' hh;have D23:D[23]?=some (.slice (some ⟨hb,ho,none⟩) (countN N) hcap):=by rw [<-hcn];exact rec_cell 23 h.rc.c23
 have D28:D[28]?=some (.slice (some ⟨g,0,none⟩) (countN N) (countN N)):=by rw [<-h.len];exact h.c28
 have hpg:=(h.imm p h.self).1;have hhg:=(h.imm hb (h.hsI _ _ _ _ rfl)).1;have HB:=lh (show ∀ wr,Chg [g] w wr->wr.heap[p]?=some (.cells D 183 (0,0)) from fun wr x=>(x.block p (ltB h.blk) (by simpa using hpg)).trans h.blk)
 have HR:=lh (show ∀ wr,Chg [g] w wr->∀ k y,r.hs[k]?=some y->y.length=32/\wr.rangeAt hb (ho+k*32) (hArr y 32).toList from fun wr x k y hy=>by
  obtain ⟨h5,g5,o5,h6,h7,h8⟩:=hb3 k y hy
  cases h6
  exact ⟨h5,by rw [hArr_list h5];exact rangeAt.kept h8 (x.block hb hbl (by simpa using hhg))⟩)
 have k23:=(cellB (k:=23) h.blk).trans D23;have HRw:=lh (And.intro h.row h.size);have HV:=lh hv;obtain ⟨vb,vo,vcap,rfl,hv1,hv2,hv3,hv4,hv5⟩:=hv;have HRz:=lh (show (prog.info? 31).map (·.size)=some (D.extract 0 27).size from by rw [h.rc.n];kernel_rfl);have HLn:=lh h.len;obtain ⟨c,hc⟩:∃ c,c=countN N:=⟨_,rfl⟩;have HC:=lh hc;rw [<-hc] at k23 D23 D28 hi HLen hcn hc32;clear hb3 hrg h hv5 hv4 hc;go_enter func115,ntmps115;go_wp2_with fail;go_loopw [6] (fun iv wr=>Hid (∃ k:Nat,k<=c/\iv=.int .i64 k/\Chg [g] w wr/\∃ cs',wr.heap[g]?=some (.cells cs' 22 (0,0))/\cs'.size=c/\∀ j,cs'[j]?=if j<k/\sameL N r.hs l i j=true then some (.slice (some ⟨vb,vo,none⟩) l.length vcap) else cs[j]?)) (fun iv _=>c - (intOf iv).toNat)
 case atStart=>exact ⟨0,Nat.zero_le _,rfl,Chg.refl _ _,cs,HRw.out.1,by rw [HRw.out.2,HLn.out,HC.out],fun j=>by simp⟩
 case round =>
  obtain ⟨k,hk,rfl,hx,cs',hg,hz,hcs⟩:=hrel.out;clear hrel k23;have HX:=lh hx;have HG:=lh hg;have HCs:=lh hcs;have hb0:=HB.out wr hx;have k23:=(cellB (k:=23) hb0).trans D23;by_cases hlt:k<c
  ·obtain ⟨hk',hhk⟩:∃ h',r.hs[k]?=some h':=⟨_,List.getElem?_eq_getElem (by omega)⟩;obtain ⟨hk32,hRk⟩:=HR.out wr hx k hk' hhk;have HZk:=lh (show (prog.info? 45).map (·.size)=some (hArr hk' 32).size from by rw [hArr_size _ _ hk32 (by omega)];kernel_rfl);have q23:=After.cell k23
   have HQk:=lh (show ∀ w',(∃ y:After wr,w'=y.v)->w'.rangeAt hb (ho+k*32) (hArr hk' 32).toList from by
    rintro _ ⟨y,rfl⟩
    exact (HR.out _ (HX.out.trans_ext y.x) k hk' hhk).2)
   clear hx hg hcs hRk;go_wp2_with fail
   have HQi:=lh (show ∀ w',(∃ y:After wr,w'=y.v)->w'.rangeAt hb (ho+i*32) (hArr hi' 32).toList from by
    rintro _ ⟨y,rfl⟩
    exact (HR.out _ (HX.out.trans_ext y.x) i hi' hh).2)
   have HQr:=lh (show ∀ w',(∃ y:After wr,w'=y.v)->w'.rangeAt p 0 (D.extract 0 27).toList from by
    rintro _ ⟨y,rfl⟩
    exact rangeAt_rec (HB.out _ (HX.out.trans_ext y.x)) 27)
   have HZi:=lh (show (prog.info? 45).map (·.size)=some (hArr hi' 32).size from by rw [hArr_size _ _ hh32 (by omega)];kernel_rfl);have heq:=eq_hash hk' hi' hk32 hh32;obtain ⟨q,hq⟩:∃ q,q=decide (hk'=hi'):=⟨_,rfl⟩
   have HSm:=lh (show sameL N r.hs l i k=(q&&decide (lenN N k=l.length)) from by
    unfold sameL;rw [hhk,hh,hq]
    congr 1
    rw [decide_eq_decide,Option.some.injEq])
   rw [<-hq] at heq;have HLk:=HLen k hlt;have hin:(i:Int)<(c:Int):=by omega
   have hkn:(k:Int)<(c:Int):=by omega
   have hlv:l.length<=9223372036854775807:=by unfold maxLen at hv3;omega
   generalize hArr hk' 32=Ak at *;generalize hArr hi' 32=Ai at *;generalize lenN N k=lk at *
   have HNs:=lh (show sameL N r.hs l i k=false->∀ j,cs'[j]?=if j<k+1/\sameL N r.hs l i j=true then some (.slice (some ⟨vb,vo,none⟩) l.length vcap) else cs[j]? from fun hf j=>by
    rw [HCs.out j];by_cases hj:j=k
    ·subst hj;simp [hf]
    ·have:j<k↔j<k+1:=by omega
     simp only [this])
   clear hq hhk hk32
   cases q with
   | false =>
    have HN2:=lh (HNs.out (by rw [HSm.out];rfl));refine wp_region_after (by kernel_rfl) (by kernel_rfl) ?_
    iterate 7 go_big_quiet_step (fail)
    refine wpQuiet_load_at rfl 45 _ rfl hb (ho+k*32) rfl Ak _ HQk.out underlying45 rfl HZk.out ?_;go_frame
    iterate 7 go_big_quiet_step (fail)
    refine wpQuiet_load_at rfl 45 _ rfl hb (ho+i*32) rfl Ai _ HQi.out underlying45 rfl HZi.out ?_;go_frame
    repeat (go_big_quiet_step (fail))
    refine wpQuiet_nil ?_;rintro _ ⟨y,rfl⟩;have HXy:=lh (HX.out.trans_ext y.x);have HGy:=lh ((y.x.block (ltB HG.out)).trans HG.out);clear q23 k23 heq;go_wp2_with fail;go_roundw
    case rel=>exact ⟨k+1,by omega,by go_num,HXy.out,cs',HGy.out,hz,HN2.out⟩
    case measure=>simp [intOf] <;> omega
   | true =>
    have HSl:=lh (show sameL N r.hs l i k=decide (lk=l.length) from by rw [HSm.out,Bool.true_and]);by_cases hll:lk=l.length
    ·have e5:((lk:Int)==(l.length:Int))=true:=by rw [beq_iff_eq];omega
     have e6:(lk==l.length)=true:=by rw [beq_iff_eq];exact hll
     have HY2:=lh (show ∀ j,(cs'.setIfInBounds k (.slice (some ⟨vb,vo,none⟩) l.length vcap))[j]?=if j<k+1/\sameL N r.hs l i j=true then some (.slice (some ⟨vb,vo,none⟩) l.length vcap) else cs[j]? from fun j=>by
      by_cases hj:j=k
      ·subst hj;rw [Array.getElem?_setIfInBounds_self_of_lt (by omega)];simp [HSl.out,hll]
      ·rw [Array.getElem?_setIfInBounds_ne (Ne.symm hj),HCs.out j];have:j<k↔j<k+1:=by omega
       simp only [this])
     clear hll HSl HSm HNs;refine wp_region_after (by kernel_rfl) (by kernel_rfl) ?_
     iterate 7 go_big_quiet_step (fail)
     refine wpQuiet_load_at rfl 45 _ rfl hb (ho+k*32) rfl Ak _ HQk.out underlying45 rfl HZk.out ?_;go_frame
     iterate 7 go_big_quiet_step (fail)
     refine wpQuiet_load_at rfl 45 _ rfl hb (ho+i*32) rfl Ai _ HQi.out underlying45 rfl HZi.out ?_;go_frame
     iterate 5 go_big_quiet_step (fail)
     refine wpQuiet_load_at_g ?_ 31 _ rfl p 0 rfl (D.extract 0 27) _ HQr.out underlying31 rfl HRz.out ?_
     ·simp [Region.wanted,yielded]
     go_frame;go_big_quiet_step (fail);go_big_quiet_step (exact After.of (HLk _).out)
     repeat (go_big_quiet_step (fail))
     refine wpQuiet_nil ?_;rintro _ ⟨y,rfl⟩;have HXy:=lh (HX.out.trans_ext y.x);have HGy:=lh ((y.x.block (ltB HG.out)).trans HG.out);have hgy:=HGy.out;have hby:=HB.out _ HXy.out;have k28:=(cellB (k:=28) hby).trans D28;obtain ⟨old,hold⟩:∃ old,cs'[k]?=some old:=⟨_,Array.getElem?_eq_getElem (by omega)⟩;have kk:=(cellB (k:=k) hgy).trans hold;have ff:=frozenB (k:=k) hgy;clear q23 k23 heq hgy hby;go_wp2_with fail;go_roundw
     case rel=>exact ⟨k+1,by omega,by go_num,HXy.out.trans (Chg.setCell _ _ _ (F:=[g]) (by simp)) (fun _ h=>.inl h),_,setCellB HGy.out,by rw [Array.size_setIfInBounds];exact hz,HY2.out⟩
     case measure=>simp [intOf] <;> omega
    ·have e5:((lk:Int)==(l.length:Int))=false:=by rw [beq_eq_false_iff_ne];omega
     have e6:(lk==l.length)=false:=by rw [beq_eq_false_iff_ne];exact hll
     have HN2:=lh (HNs.out (by rw [HSl.out];exact decide_eq_false hll));clear hll HSl HSm HNs;refine wp_region_after (by kernel_rfl) (by kernel_rfl) ?_
     iterate 7 go_big_quiet_step (fail)
     refine wpQuiet_load_at rfl 45 _ rfl hb (ho+k*32) rfl Ak _ HQk.out underlying45 rfl HZk.out ?_;go_frame
     iterate 7 go_big_quiet_step (fail)
     refine wpQuiet_load_at rfl 45 _ rfl hb (ho+i*32) rfl Ai _ HQi.out underlying45 rfl HZi.out ?_;go_frame
     iterate 5 go_big_quiet_step (fail)
     refine wpQuiet_load_at_g ?_ 31 _ rfl p 0 rfl (D.extract 0 27) _ HQr.out underlying31 rfl HRz.out ?_
     ·simp [Region.wanted,yielded]
     go_frame;go_big_quiet_step (fail);go_big_quiet_step (exact After.of (HLk _).out)
     repeat (go_big_quiet_step (fail))
     refine wpQuiet_nil ?_;rintro _ ⟨y,rfl⟩;have HXy:=lh (HX.out.trans_ext y.x);have HGy:=lh ((y.x.block (ltB HG.out)).trans HG.out);clear q23 k23 heq;go_wp2_with fail;go_roundw
     case rel=>exact ⟨k+1,by omega,by go_num,HXy.out,cs',HGy.out,hz,HN2.out⟩
     case measure=>simp [intOf] <;> omega
  ·obtain rfl:k=c:=by omega
   have nlt:decide ((k:Int)<(k:Int))=false:=by simp
   clear hx hg hcs;go_wp2_with fail;go_end0;refine ⟨rfl,HX.out,cs',HD.out.turned HX.out HG.out (by rw [hz,HLn.out,HC.out]) (by simp [fillP]) fun j x hj=>?_⟩;unfold fillP at hj;rw [List.getElem?_mapIdx] at hj;obtain ⟨x0,hx0,rfl⟩:=Option.map_eq_some_iff.1 hj;have hjk:j<k:=by have:=(List.getElem?_eq_some_iff.1 hx0).1;have:=HLn.out;have:=HC.out;omega
   rw [HCs.out j];by_cases hs:sameL N r.hs l i j=true
   ·rw [if_pos ⟨hjk,hs⟩,if_pos hs];exact ⟨_,rfl,HV.out⟩
   ·rw [if_neg (fun h=>hs h.2),if_neg hs];exact HD.out.parts j x0 hx0
end
section
open Go.RowKit Go.Shelf
attribute [local go_sem] Oper.semAt_some
theorem run_add_more {w:World} {b base n:Nat} {s v:Value} {xs:List Value} {l:List UInt8} (ho:w.ownsRow base 5 1 s n xs) (hv:BytesOff b w v l) (h0:0<l.length) (hl:n+l.length<=1048576) (hb:base<=w.heap.size) (ty:TypeId) :
  ∃ v' w',(Builtin.append_ #[22,22] ty #[s,v]).run prog w=.ok v' w'/\w'.ownsRow base 5 1 v' (n+l.length) (xs++l.map bv)/\w.grownBy w' s.ownBlock:=by
 obtain ⟨i,hi,hz,hsz,hby⟩:=info_parts elU8.info;obtain ⟨a,cap,rfl,h1,h2,h3⟩:=hv;obtain ⟨g',o,rfl,_,_,h5⟩:=h3 h0
 have hnews:∀ (j:Nat) u,(l.map bv)[j]?=some u->w.cell? ((⟨g',o,none⟩:Addr).add j)=some u:=fun j u hj=>by
  rw [List.getElem?_map] at hj;obtain ⟨x,hx,rfl⟩:=Option.map_eq_some_iff.1 hj;rw [Addr.add_mid];exact h5 j x hx
 obtain ⟨v',w',hr,ho',hg,_⟩:=run_append_own w base 22 ty 5 i _ 1 _ elU8.ut hi hz hsz hby elU8.one (by decide) _ n xs ho ⟨g',o,none⟩ l.length cap (l.map bv) (by simp) hnews (fun u hu=>by
  obtain ⟨x,_,rfl⟩:=List.mem_map.1 hu;rfl) (by unfold maxLen;omega) (by
  have:=elU8.few;have h6:(n+l.length)*_<=(n+l.length)*1024:=Nat.mul_le_mul_left (n+l.length) this
  omega) hb
 exact ⟨v',w',hr,ho',hg⟩
theorem PartAt.off {w:World} {I:List Nat} {v:Value} {l:List UInt8} (h:PartAt w I v (some l)) (hI:∀ b∈I,b<w.heap.size):BytesOff w.heap.size w v l:=by
 obtain ⟨b,o,cap,rfl,h1,h2,h3,h4,h5⟩:=h;exact ⟨_,cap,rfl,h2,h3,fun _=>⟨b,o,rfl,by have:=hI b h4;omega,hI b h4,fun j x hj=>h5 j (bv x) (by rw [List.getElem?_map,hj];rfl)⟩⟩
set_option maxRecDepth 100000 in
set_option maxHeartbeats 2000000 in
theorem rhave23_any (w:World) (p g:Nat) (D cs:Array Value) (bl:Value) (I:List Nat) (r:RecS) (N:Nat) (name:ByteArray) (ps:List (Option (List UInt8))) (h:RDrIn w p g D cs bl I r N name ps) :
  Calls prog 120 #[.pointer (some ⟨p,0,none⟩)] w fun e w'=>∃ u,e=.returned u/\Hid (w'.ownsRow w.heap.size 3 1 u ((List.range (countN N)).filter (haveB ps)).length (((List.range (countN N)).filter (haveB ps)).map iv)/\Ext w w'):=by
 have HD:=lh h;have hc32:=count_le h.good.small;have D28:D[28]?=some (.slice (some ⟨g,0,none⟩) (countN N) (countN N)):=by rw [<-h.len];exact h.c28
 have k28:=(cellB (k:=28) h.blk).trans D28;have HLp:=lh h.len;generalize countN N=c at *;clear h;go_enter func120,ntmps120;go_wp2_with fail;go_loopw [3,4] (fun lv iv wr=>Hid (∃ k:Nat,k<=c/\iv=.int .i64 k/\thAt w (haveB ps) k lv wr)) (fun _ iv _=>c - (intOf iv).toNat)
 case atStart=>exact ⟨0,Nat.zero_le _,rfl,World.ownsRow_nil _ _ _ _,Ext.refl _⟩
 case round =>
  obtain ⟨k,hk,rfl,ho,hx⟩:=hrel.out;clear hrel;have HX:=lh hx;have HO:=lh ho;obtain ⟨oa,ocap,rfl⟩:=rowk_shape ho;have hfl:((List.range k).filter (haveB ps)).length<=k:=by simpa using List.length_filter_le (haveB ps) (List.range k)
  have k28r:=(hx.cell (lt_of_cell k28)).trans k28;clear k28;have hsz:=hx.size;by_cases hlt:k<c
  ·obtain ⟨x,hxk⟩:∃ x,ps[k]?=some x:=⟨_,List.getElem?_eq_getElem (by have:=HLp.out;omega)⟩;obtain ⟨v,hv,hpv⟩:=HD.out.parts k x hxk;have kk:=(hx.cell (lt_of_cell ((cellB (k:=k) HD.out.row).trans hv))).trans ((cellB (k:=k) HD.out.row).trans hv);have hkn:(k:Int)<(c:Int):=by omega
   have HH:=lh (show haveB ps k=x.isSome from by unfold haveB;rw [hxk];cases x <;> rfl);clear ho hx hv hxk
   cases x with
   | none =>
    obtain rfl:v=.slice none 0 0:=hpv;have HR:=lh (show (List.range (k+1)).filter (haveB ps)=(List.range k).filter (haveB ps) from by rw [List.range_succ,List.filter_append];simp [HH.out]);go_wp2_with fail;go_roundw
    case rel=>exact ⟨k+1,by omega,by go_num,by unfold thAt;rw [HR.out];exact ⟨HO.out,HX.out⟩⟩
    case measure=>simp [intOf] <;> omega
   | some l =>
    obtain ⟨sb,so,scap,rfl,hl0,hl1,hl2,_⟩:=hpv;unfold maxLen at hl2;have HR:=lh (show (List.range (k+1)).filter (haveB ps)=(List.range k).filter (haveB ps)++[k] from by rw [List.range_succ,List.filter_append];simp [HH.out]);go_wp2_with (at_builtin;refine append_k elInt w.heap.size _ _ _ (HO.out.alloc _) wr.heap.size [.int .i64 k] rfl _ _ rfl rfl rfl rfl ?c1 ?c2 (by omega) (by simp;omega) ?_)
    case c1 =>
     intro j y hj;rw [cell_alloc_new rfl,<-hj];simp
    case c2 =>
     intro y hy;rw [List.mem_singleton.1 hy];rfl
    intro v' w4 hown4 hg4 hrow4
    have HF:=lh (show thAt w (haveB ps) (k+1) v' w4 from by
     unfold thAt;rw [HR.out,List.length_append,List.map_append]
     exact ⟨hown4,grown_extB (HX.out.alloc _) (Nat.le_refl _) (HO.out.alloc _) hg4⟩)
    clear hown4 hg4 hrow4 kk k28r;go_wp2_with fail;go_roundw
    case rel=>exact ⟨k+1,by omega,by go_num,HF.out⟩
    case measure=>simp [intOf] <;> omega
  ·obtain rfl:k=c:=by omega
   have nlt:decide ((k:Int)<(k:Int))=false:=by simp
   clear ho hx;go_wp2_with fail;go_ret;exact ⟨_,rfl,HO.out,HX.out⟩
set_option maxRecDepth 100000 in
set_option maxHeartbeats 2000000 in
theorem rput23_bad (w:World) (p g:Nat) (D cs:Array Value) (bl:Value) (I:List Nat) (r:RecS) (N:Nat) (name:ByteArray) (ps:List (Option (List UInt8))) (h:RDrIn w p g D cs bl I r N name ps)
  (i:Int) (hi:i<0\/(countN N:Int)<=i) (v:Value) :
  Calls prog 55 #[.pointer (some ⟨p,0,none⟩),.int .i64 i,v] w fun e w'=>e=.returned (.int .i64 2)/\Ext w w':=by
 have D28:D[28]?=some (.slice (some ⟨g,0,none⟩) (countN N) (countN N)):=by rw [<-h.len];exact h.c28
 have k28:=(cellB (k:=28) h.blk).trans D28;generalize countN N=c at *;clear h D28;by_cases h1:i<0
 ·go_enter func55,ntmps55;go_wp2_with fail;go_ret;exact ⟨rfl,Ext.refl _⟩
 ·have h2:(c:Int)<=i:=by omega
  go_enter func55,ntmps55;go_wp2_with fail;go_ret;exact ⟨rfl,Ext.refl _⟩
end
section
open Go.RowKit Go.Shelf
attribute [local go_sem] Oper.semAt_some
set_option maxRecDepth 100000 in
set_option maxHeartbeats 4000000 in
theorem rput23_any (w:World) (p g:Nat) (D cs:Array Value) (bl:Value) (I:List Nat) (r:RecS) (N:Nat) (name:ByteArray) (ps:List (Option (List UInt8))) (h:RDrIn w p g D cs bl I r N name ps)
  (i:Nat) (hi:i<countN N) (l:List UInt8) (v:Value) (hv:BytesOff w.heap.size w v l) (hz:∀ cap,v=.slice none 0 cap->cap=0) (hl:l.length<=1048576) :
  Calls prog 55 #[.pointer (some ⟨p,0,none⟩),.int .i64 i,v] w fun e w' =>
   PutPost (rightB N r.hs i l) e w w' (∃ I' cs',DkStep w [g] I w' [g] I'/\RDrIn w' p g D cs' bl I' r N name (fillP N r.hs i l ps)):=by
 have HD:=lh h;have HRt:=lh (rright21_any r (D.extract 0 27) bl N i l v w h.rc h.hs h.good hi hv hz hl);have HVo:=lh (fun w' (x:Ext w w')=>bytesOff_any hv x x.size);have HRL:=lh (fun (q:rightB N r.hs i l=true)=>show 0<l.length from by rw [right_len q];exact lenN_pos hi);have HFl:=fun w' cs' I' (hd:RDrIn w' p g D cs' bl I' r N name ps) u (hu:PartAt w' I' u (some l))=>lh (rfill23_any w' p g D cs' _ I' r N name ps hd i hi l u hu);have D28:D[28]?=some (.slice (some ⟨g,0,none⟩) (countN N) (countN N)):=by rw [<-h.len];exact h.c28
 have k28:=(cellB (k:=28) h.blk).trans D28;have HRr:=lh (rangeAt_rec h.blk 27);have HRz:=lh (show (prog.info? 31).map (·.size)=some (D.extract 0 27).size from by rw [h.rc.n];kernel_rfl);have HGl:=lh (ltB h.row);have g1:decide ((i:Int)<0)=false:=decide_eq_false (by omega);have hin:(i:Int)<(countN N:Int):=by omega
 generalize rightB N r.hs i l=R at *;generalize countN N=c at *;have g2:decide ((c:Int)<=(i:Int))=false:=decide_eq_false (by omega);have g3:decide (c<=i)=false:=decide_eq_false (by omega);clear h hv hz D28;go_enter func55,ntmps55;go_wp2_with (refine wpList_load_at rfl 31 _ rfl p 0 rfl (D.extract 0 27) _ HRr.out underlying31 rfl HRz.out ?_;go_frame);refine HRt.out.mono ?_;rintro e w1 ⟨rfl,x1⟩;have X1:=lh x1;clear x1 k28
 cases R with
 | false =>
  go_wp2_with fail;go_ret;exact ⟨fun h=>(by cases h),fun _=>⟨rfl,X1.out⟩⟩
 | true =>
  obtain ⟨v7,w7,hr7,ho7,hx7⟩:=run_add_bytes0 (HVo.out w1 X1.out) hl 22;obtain ⟨gb,hgb1,hgb2,hpa⟩:=PartAt.own ho7 (HRL.out rfl);have x4:=X1.out.trans hx7;have hgl:=HGl.out;have hx3:=X1.out.size;have hd4:=(HD.out.ext x4).more (b:=gb) (by omega) hgb2;have HF:=HFl _ _ _ hd4 v7 (hpa.more fun b hb=>List.mem_append.2 (.inr hb))
  have HFX:=lh (show ∀ w5,Chg [g] w7 w5->DkStep w [g] I w5 [g] (I++[gb]) from fun w5 h5=>⟨(x4.chg [g]).trans h5 fun _ h=>.inl h,fun b hb=>.inl hb,fun b hb=>by
   rcases List.mem_append.1 hb with hb | hb
   ·exact .inl hb
   ·rw [List.mem_singleton.1 hb];exact .inr (by omega)⟩)
  clear hpa x4 hgl hx3 hd4 hgb1 hgb2 ho7 hx7 HFl;go_wp2_with (refine wpList_run rfl (run_addOp (T:=22) rfl rfl rfl hr7) ?_;go_frame);refine HF.out.mono ?_;rintro e w5 ⟨rfl,h5⟩;have H5:=h5;clear h5;go_wp2_with fail;go_ret;obtain ⟨x5,cs5,hd5⟩:=H5.out;exact ⟨fun _=>⟨rfl,_,cs5,HFX.out _ x5,hd5⟩,fun h=>(by cases h)⟩
end
section
open Go.RowKit Go.Shelf
attribute [local go_sem] Oper.semAt_some
theorem any_succ (i:Nat) (f:Nat->Bool):(List.range (i+1)).any f=((List.range i).any f||f i):=by
 rw [List.range_succ,List.any_append];simp
set_option maxRecDepth 100000 in
set_option maxHeartbeats 4000000 in
theorem rasked23_any (w:World) (p g:Nat) (D cs:Array Value) (bl:Value) (I:List Nat) (r:RecS) (N:Nat) (name:ByteArray) (ps:List (Option (List UInt8))) (h:RDrIn w p g D cs bl I r N name ps) :
  Calls prog 117 #[.pointer (some ⟨p,0,none⟩)] w fun e w'=>∃ u,e=.returned u/\Hid (w'.ownsRow w.heap.size 3 1 u ((List.range (countN N)).filter (askB N r.hs ps)).length (((List.range (countN N)).filter (askB N r.hs ps)).map iv)/\Ext w w'):=by
 have HD:=lh h
 have HLen:=fun (k:Nat) (hk:k<countN N) w'=>lh (show Calls prog 179 #[.agg (D.extract 0 27),.int .i64 k] w' (fun e w''=>e=.returned (.int .i64 (lenN N k:Nat))/\Ext w' w'') from by
  obtain ⟨a,cap,hb,_⟩:=h.hs
  exact rlen21_any r _ _ N k w' h.rc ⟨a,cap,hb⟩ h.good hk)
 have hcn:=h.good.count;have hc32:=count_le h.good.small;obtain ⟨a,hcap,hbl,hb1,hb2,hb3⟩:=h.hs;have D23:D[23]?=some (.slice a (countN N) hcap):=by rw [<-hcn,<-hbl];exact rec_cell 23 h.rc.c23
 have D28:D[28]?=some (.slice (some ⟨g,0,none⟩) (countN N) (countN N)):=by rw [<-h.len];exact h.c28
 have HB:=lh (show ∀ wr,Ext w wr->wr.heap[p]?=some (.cells D 183 (0,0)) from fun wr x=>(x.block (ltB h.blk)).trans h.blk)
 have HR:=lh (show ∀ wr,Ext w wr->∀ k y,r.hs[k]?=some y->y.length=32/\∃ gb o,a=some ⟨gb,o,none⟩/\wr.rangeAt gb (o+k*32) (hArr y 32).toList from fun wr x k y hy=>by
  obtain ⟨h5,g5,o5,h6,h7,h8⟩:=hb3 k y hy
  exact ⟨h5,g5,o5,h6,by rw [hArr_list h5];exact rangeAt.kept h8 (x.block h7)⟩)
 have k28:=(cellB (k:=28) h.blk).trans D28;have k23:=(cellB (k:=23) h.blk).trans D23;have HRz:=lh (show (prog.info? 31).map (·.size)=some (D.extract 0 27).size from by rw [h.rc.n];kernel_rfl);have HLp:=lh h.len;have HAsk:=lh (fun k=>show askB N r.hs ps k=(!haveB ps k&&!(List.range k).any fun j=>sameB N r.hs j k) from rfl);obtain ⟨c,hc⟩:∃ c,c=countN N:=⟨_,rfl⟩;rw [<-hc] at D28 D23 k28 k23 HLp HLen hcn hc32 ⊢;clear hb3 h hc hbl;go_enter func117,ntmps117;go_wp2_with fail;go_loopw [3,4] (fun lv iv wr=>Hid (∃ k:Nat,k<=c/\iv=.int .i64 k/\thAt w (askB N r.hs ps) k lv wr)) (fun _ iv _=>c - (intOf iv).toNat)
 case atStart=>exact ⟨0,Nat.zero_le _,rfl,World.ownsRow_nil _ _ _ _,Ext.refl _⟩
 case round =>
  obtain ⟨i,hi,rfl,ho,hx⟩:=hrel.out;clear hrel;have HX:=lh hx;have HO:=lh ho;obtain ⟨oa,ocap,rfl⟩:=rowk_shape ho;have hfl:((List.range i).filter (askB N r.hs ps)).length<=i:=by simpa using List.length_filter_le (askB N r.hs ps) (List.range i)
  have k28r:=(hx.cell (lt_of_cell k28)).trans k28;clear k28 k23;have hsz:=hx.size;by_cases hlt:i<c
  ·obtain ⟨x,hxk⟩:∃ x,ps[i]?=some x:=⟨_,List.getElem?_eq_getElem (by have:=HLp.out;omega)⟩;obtain ⟨v,hv,hpv⟩:=HD.out.parts i x hxk;have kk:=(hx.cell (lt_of_cell ((cellB (k:=i) HD.out.row).trans hv))).trans ((cellB (k:=i) HD.out.row).trans hv);have hin:(i:Int)<(c:Int):=by omega
   have HH:=lh (show haveB ps i=x.isSome from by unfold haveB;rw [hxk];cases x <;> rfl);obtain ⟨hi',hh⟩:∃ h',r.hs[i]?=some h':=⟨_,List.getElem?_eq_getElem (by omega)⟩;obtain ⟨hh32,hb,ho',rfl,_⟩:=HR.out w (Ext.refl w) i hi' hh;have HHh:=lh hh
   obtain ⟨vn,vc,vad,rfl,hvn⟩:∃ vn vc vad,v=.slice vad vn vc/\((vn:Int)==0)=(!x.isSome):=by
    cases x with
    | none=>exact ⟨0,0,none,hpv,rfl⟩
    | some l =>
     obtain ⟨sb,so,scap,e,hl0,_⟩:=hpv;exact ⟨_,_,_,e,by rw [Option.isSome_some,Bool.not_true,beq_eq_false_iff_ne];omega⟩
   obtain ⟨bx,hbx⟩:∃ bx,bx=(!x.isSome):=⟨_,rfl⟩;rw [<-hbx] at hvn;have HBx:=lh (show (!haveB ps i)=bx from by rw [HH.out,hbx]);clear ho hx hv hxk hpv hbx HH hh;have HZi:=lh (show (prog.info? 45).map (·.size)=some (hArr hi' 32).size from by rw [hArr_size _ _ hh32 (by omega)];kernel_rfl);go_wp2_with fail;obtain ⟨wo,rfl⟩:∃ x,x=wr:=⟨_,rfl⟩;go_loopw [5,6] (fun bv kv wq=>Hid (∃ k:Nat,k<=i/\kv=.int .i64 k/\bv=.bool (bx&&!(List.range k).any fun j=>sameB N r.hs j i)/\Ext wo wq)) (fun _ kv _=>i - (intOf kv).toNat)
   case atStart=>exact ⟨0,Nat.zero_le _,rfl,by simp,Ext.refl _⟩
   case round =>
    obtain ⟨k,hk,rfl,rfl,hxq⟩:=hrel.out;clear hrel;have HXq:=lh (HX.out.trans hxq);have HXo:=lh hxq;obtain ⟨b,hb9⟩:∃ b,b=(bx&&!(List.range k).any fun j=>sameB N r.hs j i):=⟨_,rfl⟩;rw [<-hb9];have HB9:=lh hb9;clear hxq hb9;by_cases hki:k<i
    ·obtain ⟨hk',hhk⟩:∃ h',r.hs[k]?=some h':=⟨_,List.getElem?_eq_getElem (by omega)⟩;obtain ⟨hk32,hb',ho9,e9,_⟩:=HR.out w (Ext.refl w) k hk' hhk
     cases e9
     have hkn:(k:Int)<(c:Int):=by omega
     have k23q:=(cellB (k:=23) (HB.out wr HXq.out)).trans D23;have q23:=After.cell k23q;clear k23q
     have HSm:=lh (show sameB N r.hs k i=(decide (hk'=hi')&&decide (lenN N k=lenN N i)) from by
      unfold sameB;rw [hhk,HHh.out]
      congr 1
      rw [decide_eq_decide,Option.some.injEq])
     have HN:=lh (any_succ k fun j=>sameB N r.hs j i);have HZk:=lh (show (prog.info? 45).map (·.size)=some (hArr hk' 32).size from by rw [hArr_size _ _ hk32 (by omega)];kernel_rfl)
     have HQk:=lh (show ∀ w',(∃ y:After wr,w'=y.v)->w'.rangeAt hb (ho'+k*32) (hArr hk' 32).toList from by
      rintro _ ⟨y,rfl⟩;obtain ⟨_,_,_,e,h⟩:=HR.out _ (HXq.out.trans y.x) k hk' hhk
      cases e
      exact h)
     have HQi:=lh (show ∀ w',(∃ y:After wr,w'=y.v)->w'.rangeAt hb (ho'+i*32) (hArr hi' 32).toList from by
      rintro _ ⟨y,rfl⟩;obtain ⟨_,_,_,e,h⟩:=HR.out _ (HXq.out.trans y.x) i hi' HHh.out
      cases e
      exact h)
     have HQr:=lh (show ∀ w',(∃ y:After wr,w'=y.v)->w'.rangeAt p 0 (D.extract 0 27).toList from by
      rintro _ ⟨y,rfl⟩
      exact rangeAt_rec (HB.out _ (HXq.out.trans y.x)) 27)
     have heq:=eq_hash hk' hi' hk32 hh32;obtain ⟨q,hq⟩:∃ q,q=decide (hk'=hi'):=⟨_,rfl⟩;rw [<-hq] at heq HSm;have HLk:=HLen k (by omega);have HLi:=HLen i hlt;obtain ⟨m,hm⟩:∃ m,m=decide (lenN N k=lenN N i):=⟨_,rfl⟩;rw [<-hm] at HSm
     have e5:((lenN N k:Int) != (lenN N i:Int))=!m:=by
      rw [hm,bne];congr 1;rw [Bool.eq_iff_iff,beq_iff_eq,decide_eq_true_iff];omega
     have HNew:=lh (show (bx&&!(List.range (k+1)).any fun j=>sameB N r.hs j i)=(b&&!(q&&m)) from by
      rw [HN.out,HB9.out,HSm.out,Bool.not_or,Bool.and_assoc])
     generalize hArr hk' 32=Ak at *;generalize hArr hi' 32=Ai at *;generalize lenN N k=lk at *;generalize lenN N i=li at *;clear hq hm hhk hk32 HSm HN HB9;go_upto_region 9 with (fail)
     refine wp_region_after (by kernel_rfl) (by kernel_rfl) ?_
     cases b with
     | false =>
      repeat (go_big_quiet_step (fail))
      refine wpQuiet_nil ?_;rintro _ ⟨y,rfl⟩;have HXy:=lh (HXo.out.trans y.x);clear q23 heq;go_wp2_with fail;go_roundw
      case rel=>exact ⟨k+1,by omega,by go_num,by rw [HNew.out];rfl,HXy.out⟩
      case measure=>simp [intOf] <;> omega
     | true =>
      iterate 9 go_big_quiet_step (fail)
      refine wpQuiet_load_at_g (by simp [Region.wanted,yielded]) 45 _ rfl hb (ho'+k*32) rfl Ak _ HQk.out underlying45 rfl HZk.out ?_;go_frame
      iterate 7 go_big_quiet_step (fail)
      refine wpQuiet_load_at_g (by simp [Region.wanted,yielded]) 45 _ rfl hb (ho'+i*32) rfl Ai _ HQi.out underlying45 rfl HZi.out ?_;go_frame
      cases q with
      | false =>
       repeat (go_big_quiet_step (fail))
       refine wpQuiet_nil ?_;rintro _ ⟨y,rfl⟩;have HXy:=lh (HXo.out.trans y.x);clear q23 heq;go_wp2_with fail;go_roundw
       case rel=>exact ⟨k+1,by omega,by go_num,by rw [HNew.out];rfl,HXy.out⟩
       case measure=>simp [intOf] <;> omega
      | true =>
       iterate 5 go_big_quiet_step (fail)
       refine wpQuiet_load_at_g (by simp [Region.wanted,yielded]) 31 _ rfl p 0 rfl (D.extract 0 27) _ HQr.out underlying31 rfl HRz.out ?_;go_frame;go_big_quiet_step (fail);go_big_quiet_step (exact After.of (HLk _).out)
       iterate 3 go_big_quiet_step (fail)
       refine wpQuiet_load_at_g (by simp [Region.wanted,yielded]) 31 _ rfl p 0 rfl (D.extract 0 27) _ HQr.out underlying31 rfl HRz.out ?_;go_frame;go_big_quiet_step (fail);go_big_quiet_step (exact After.of (HLi _).out)
       repeat (go_big_quiet_step (fail))
       refine wpQuiet_nil ?_;rintro _ ⟨y,rfl⟩;have HXy:=lh (HXo.out.trans y.x);clear q23 heq;go_wp2_with fail;go_roundw
       case rel=>exact ⟨k+1,by omega,by go_num,by rw [HNew.out];simp,HXy.out⟩
       case measure=>simp [intOf] <;> omega
    ·obtain rfl:k=i:=by omega
     have HAi:=lh (show askB N r.hs ps k=b from by rw [HAsk.out,HBx.out,HB9.out]);have HOq:=lh (owns_ext HO.out HXo.out);have hszq:=HXo.out.size;have nlt:decide ((k:Int)<(k:Int))=false:=by simp
     clear HB9 kk k28r
     cases b with
     | false =>
      have HR2:=lh (show (List.range (k+1)).filter (askB N r.hs ps)=(List.range k).filter (askB N r.hs ps) from by rw [List.range_succ,List.filter_append];simp [HAi.out]);go_wp2_with fail;go_roundw
      case rel=>exact ⟨k+1,by omega,by go_num,by unfold thAt;rw [HR2.out];exact ⟨HOq.out,HXq.out⟩⟩
      case measure=>simp [intOf] <;> omega
     | true =>
      have HR2:=lh (show (List.range (k+1)).filter (askB N r.hs ps)=(List.range k).filter (askB N r.hs ps)++[k] from by rw [List.range_succ,List.filter_append];simp [HAi.out]);go_wp2_with (at_builtin;refine append_k elInt w.heap.size _ _ _ (HOq.out.alloc _) wr.heap.size [.int .i64 k] rfl _ _ rfl rfl rfl rfl ?c1 ?c2 (by omega) (by simp;omega) ?_)
      case c1 =>
       intro j y hj;rw [cell_alloc_new rfl,<-hj];simp
      case c2 =>
       intro y hy;rw [List.mem_singleton.1 hy];rfl
      intro v' w4 hown4 hg4 hrow4
      have HF:=lh (show thAt w (askB N r.hs ps) (k+1) v' w4 from by
       unfold thAt;rw [HR2.out,List.length_append,List.map_append]
       exact ⟨hown4,grown_extB (HXq.out.alloc _) (Nat.le_refl _) (HOq.out.alloc _) hg4⟩)
      clear hown4 hg4 hrow4;go_wp2_with fail;go_roundw
      case rel=>exact ⟨k+1,by omega,by go_num,HF.out⟩
      case measure=>simp [intOf] <;> omega
  ·obtain rfl:i=c:=by omega
   have nlt:decide ((i:Int)<(i:Int))=false:=by simp
   clear ho hx;go_wp2_with fail;go_ret;exact ⟨_,rfl,HO.out,HX.out⟩
end
section
open Go.RowKit Go.Shelf
attribute [local go_sem] Oper.semAt_some
set_option maxRecDepth 100000 in
theorem built_rdraft {C:Array Value} (h:C.size=27) (nm:ByteArray) (a:Option Addr) (n c:Nat):prog.built 183 [(0,.agg C),(1,.string nm),(2,.slice a n c)]=some (C++#[.string nm,.slice a n c]):=by
 obtain ⟨a0,a1,a2,a3,a4,a5,a6,a7,a8,a9,a10,a11,a12,a13,a14,a15,a16,a17,a18,a19,a20,a21,a22,a23,a24,a25,a26,rfl⟩:=cells27 h
 kernel_rfl
theorem RDrIn.new {w:World} {p g:Nat} {C:Array Value} {u:Value} {I:List Nat} {r:RecS} {N:Nat} {name:ByteArray} (G:r.Good N) (hC:RecC C r u) (hp:w.heap[p]?=some (.cells (C++#[.string name,.slice (some ⟨g,0,none⟩) (countN N) (countN N)]) 183 (0,0)))
  (hg:w.heap[g]?=some (.cells (Array.replicate (countN N) (.slice none 0 0)) 22 (0,0))) (hh:HashesAt w u r.hs) (hI:∀ b o n c,u=.slice (some ⟨b,o,none⟩) n c->b∈I) (him:∀ b∈I,b≠g/\b<w.heap.size) (hs:p∈I) :
  RDrIn w p g (C++#[.string name,.slice (some ⟨g,0,none⟩) (countN N) (countN N)]) (Array.replicate (countN N) (.slice none 0 0)) u I r N name (List.replicate (countN N) none) where
 good:=G
 blk:=hp
 n:=by rw [Array.size_append,hC.n];rfl
 rc:=by
  rw [Array.extract_append,hC.n];simp only [Nat.sub_self,Nat.zero_sub,Array.extract_zero,Array.append_empty];rw [show C.extract 0 27=C from by rw [<-hC.n];exact Array.extract_size];exact hC
 c27:=by rw [Array.getElem?_append_right (by rw [hC.n];decide),hC.n];rfl
 c28:=by rw [Array.getElem?_append_right (by rw [hC.n];decide),hC.n,List.length_replicate];rfl
 hs:=hh
 hsI:=hI
 len:=List.length_replicate ..
 row:=hg
 size:=by simp
 parts:=fun k x hx=>by
  rw [List.getElem?_replicate] at hx;split at hx
  ·rename_i hk
   cases hx
   exact ⟨.slice none 0 0,by rw [Array.getElem?_replicate,if_pos hk],rfl⟩
  ·cases hx
 imm:=him
 self:=hs
def openF (N:Nat) (hs:List (List UInt8)) (F:List UInt8->Option (List UInt8)) (ps:List (Option (List UInt8))):Nat->List (Option (List UInt8))
 | 0=>ps
 | k+1=>match F (hs[k]?.getD []) with
  | some l=>if haveB (openF N hs F ps k) k=false/\rightB N hs k l=true then fillP N hs k l (openF N hs F ps k) else openF N hs F ps k
  | none=>openF N hs F ps k
theorem partAt_blk {b0:Nat} {w:World} {x:Value} {l:List UInt8} (h:BlkB b0 w none x l) (h0:0<l.length):∃ gb,b0<=gb/\gb<w.heap.size/\PartAt w [gb] x (some l):=by
 obtain ⟨g,cap,rfl,h2,h3,h4,_,h6,h7⟩:=h;refine ⟨g,h6,h4,g,0,cap,rfl,h0,h2,h3,by simp,fun j u hj=>?_⟩;rw [List.getElem?_map] at hj;obtain ⟨y,hy,rfl⟩:=Option.map_eq_some_iff.1 hj;rw [Nat.zero_add];exact h7 j y hy
theorem placedL_le (N:Nat) (t:List UInt8) (i:Nat):(placedL N t i).length<=128:=by
 have:=lenN_le N i;unfold placedL;split
 ·simp only [List.length_take];omega
 ·simp
theorem rangeAt_blk {w:World} {p:Nat} {D:Array Value} {t:TypeId} {fr:Nat×Nat} (h:w.heap[p]?=some (.cells D t fr)):w.rangeAt p 0 D.toList:=fun j u hj=>by
 rw [Nat.zero_add,cellB h]
 simpa using hj
def FoundR (F:List UInt8->Option (List UInt8)) (h:List UInt8) (w:World) (e:Ending) (w':World):Prop :=
 (F h=none/\e=.returned (.tuple #[.slice none 0 0,.string ⟨#[]⟩,.int .i64 0,.bool false])/\Ext w w') \/
 ∃ (l:List UInt8) (v:Value) (nm:ByteArray) (k:Nat),F h=some l/\l.length<=1048576/\e=.returned (.tuple #[v,.string nm,.int .i64 k,.bool true])/\BlkB w.heap.size w' none v l/\Ext w w'
set_option maxRecDepth 100000 in
set_option maxHeartbeats 4000000 in
theorem ropen23_ok (root:ByteArray) (r:RecS) (C:Array Value) (bl:Value) (N:Nat) (w:World) (hC:RecC C r bl) (G:r.Good N) (hb:HashesAt w bl r.hs) (hbl:∀ b o n c,bl=.slice (some ⟨b,o,none⟩) n c->b<w.heap.size)
  (hs:r.path.size<4294967281) (hr:root.size<=2147483648) (hp:placeB root r.path=true)
  (d gf:Nat) (nd:Nd) (z:Int) (HRd:∀ w',Ext w w'->Calls prog 105 #[.pointer (some ⟨d,0,none⟩),.string (placeS root r.path)] w' fun e w''=>e=.returned (.tuple #[.agg #[.int .i64 nd.kind,.string nd.data,.string nd.target,.int .i64 nd.time],.int .i64 z])/\Ext w' w'') (hdt:nd.data.size<=1048576)
  (F:List UInt8->Option (List UInt8)) (HF:∀ w' h,Ext w w'->h.length=32->Calls prog 116 #[.pointer (some ⟨gf,0,none⟩),.agg (hArr h 32)] w' (FoundR F h w')) :
  Calls prog 51 #[.pointer (some ⟨d,0,none⟩),.string root,.agg C,.pointer (some ⟨gf,0,none⟩)] w fun e w'=>∃ p g D cs J,e=.returned (.tuple #[.pointer (some ⟨p,0,none⟩),.int .i64 0])/\Hid (Ext w w'/\RDrIn w' p g D cs bl J r N (placeS root r.path) (openF N r.hs F (openTo N r.hs nd.data.toList (countN N)) (countN N))/\w.heap.size<=g/\w.heap.size<=p/\∀ b∈J,w.heap.size<=b\/∃ o n c,bl=.slice (some ⟨b,o,none⟩) n c):=by
 have HX:=lh ((Ext.refl w).alloc (.cells C 31));have HTm:=fun w'=>lh (refTemp_any r.path w' hs);have hle:=tempR_le r.path
 have hnz:(placeS root r.path).size<4294967281:=by
  unfold placeS;simp only [ByteArray.size_append,size_mk];simp;omega
 have hM1:=fun w'=>refMay_any root w' (by omega);have hM2:=fun w'=>refMay_any (placeS root r.path) w' hnz
 obtain ⟨hp1,hp2,hp3⟩:mayB r.path=true/\mayB root=true/\mayB (placeS root r.path)=true:=by
  unfold placeB at hp
  simpa using hp
 rw [hp1] at HTm;rw [hp2] at hM1;rw [hp3] at hM2;have HM1:=fun w'=>lh (hM1 w');have HM2:=fun w'=>lh (hM2 w');have HPs:=lh (show placeS root r.path=root++⟨#[47]⟩++tempR r.path from rfl);have HR1:=fun w' (x:Ext w w')=>lh (HRd w' x);have HWn:=fun w'=>lh (rwanted21_any r C bl w' hC (by obtain ⟨a,c,h,_⟩:=hb;exact ⟨a,c,h⟩) (by rw [G.size];omega) (by rw [G.size];have:=G.small;omega));rw [G.wanted] at HWn;have HFd:=fun w' h (x:Ext w w') (hh:h.length=32)=>lh (HF w' h x hh);have hc32:=count_le G.small;have hcn:=G.count;obtain ⟨c,hcc⟩:∃ c,c=countN N:=⟨_,rfl⟩;have HCc:=lh hcc;rw [<-hcc] at hc32 hcn;have hB:=block_alloc_new w (.cells C 31 (0,0));have HB:=lh hB;have k0:=(cellB (k:=0) hB).trans hC.c0;have HCz:=lh (show (prog.info? 31).map (·.size)=some C.size from by rw [hC.n];kernel_rfl);have HC:=lh hC;have HG:=lh G
 have HC23:=lh (show ∃ ba bcap,bl=.slice ba c bcap/\C[23]?=some (.slice ba c bcap) from by
  obtain ⟨ba,bcap,h,_⟩:=hb;rw [hcn] at h
  exact ⟨ba,bcap,h,h▸hC.c23⟩)
 have HHb:=lh hb;have HBl:=lh hbl;generalize placeS root r.path=name at *;generalize tempR r.path=tn at *;obtain ⟨nk,ndt,nt,ntm⟩:=nd;have HDt:=lh hdt;clear hC hs hp hnz hB hb hdt hcc G HF HRd hM1 hM2 hp1 hp2 hp3 hbl;go_enter func51,ntmps51;go_wp2_with fail;refine (HTm _).out.mono ?_;rintro e w1 ⟨rfl,x1⟩;have HX1:=lh (HX.out.trans x1);have HB1:=lh ((x1.block (ltB HB.out)).trans HB.out);clear x1 k0 HTm;have HPe:=HPs.out;subst HPe;go_wp2_with fail;refine (HM1 _).out.mono ?_;rintro e w2 ⟨rfl,x2⟩;have HX2:=lh (HX1.out.trans x2);have HB2:=lh ((x2.block (ltB HB1.out)).trans HB1.out);clear x2 HM1;go_wp2_with fail;refine (HM2 _).out.mono ?_;rintro e w3 ⟨rfl,x3⟩;have HX3:=lh (HX2.out.trans x3);have HB3:=lh ((x3.block (ltB HB2.out)).trans HB2.out);clear x3 HM2;go_wp2_with (refine wpList_load_row rfl 31 _ rfl w.heap.size rfl 31 C (0,0) _ HB3.out underlying31 rfl HCz.out ?_;go_frame);refine (HWn _).out.mono ?_;rintro e w4 ⟨rfl,x4⟩;have HX4:=lh (HX3.out.trans x4);have HB4:=lh ((x4.block (ltB HB3.out)).trans HB3.out);clear x4 HWn;go_wp2_with fail;refine (HR1 _ HX4.out).out.mono ?_;rintro e w5 ⟨rfl,x5⟩;have HX5:=lh (HX4.out.trans x5);have HB5:=lh ((x5.block (ltB HB4.out)).trans HB4.out);clear x5 HR1;go_wp2_with fail;generalize hnm:root++⟨#[47]⟩++tn=name at *;have HNm:=lh hnm;clear hnm;obtain ⟨ba,bcap,rfl,hC23⟩:=HC23.out;have hx6:Ext w5 (w5.alloc (.cells #[.int .i64 nk,.string ndt,.string nt,.int .i64 ntm] 57)):=(Ext.refl w5).alloc _;have HN6:=lh (block_alloc_new w5 (.cells #[.int .i64 nk,.string ndt,.string nt,.int .i64 ntm] 57 (0,0)));have HW5:=lh (ltB HB5.out);generalize w5.alloc (.cells #[.int .i64 nk,.string ndt,.string nt,.int .i64 ntm] 57)=W6 at *;have HX6:=lh (HX5.out.trans hx6);have HB6:=lh ((hx6.block (ltB HB5.out)).trans HB5.out);clear hx6;have hmk:=mkParts W6.drew c (by omega);refine wp_region_held (S:=fun w'=>w'.heap[w.heap.size]?=some (.cells C 31 (0,0))) (by kernel_rfl) ?_;change wpAnyH _ _ _ _ _ _ _ _ (World.drew _);have s0:W6.drew.heap[w.heap.size]?=some (.cells C 31 (0,0)):=((Ext.refl W6).drew.block (ltB HB6.out)).trans HB6.out;refine wpAnyH_takeL (i:=0) (v:=.agg C) rfl (by kernel_rfl) (by kernel_rfl) (by kernel_rfl) (fun _ _ _ h=>h) (yieldsIf_load_row rfl 31 (.tmp 6) rfl w.heap.size rfl 31 C (0,0) _ (fun _ h=>h) underlying31 rfl HCz.out) s0 ?_;go_frame;refine wpAnyH_takeL (i:=1) (v:=.string name) rfl (by kernel_rfl) (by kernel_rfl) (by kernel_rfl) (fun _ _ _ h=>h) (yieldsIf_move rfl _ rfl rfl) s0 ?_;go_frame;refine wpAnyH_takeL (i:=2) (v:=.pointer (some ⟨w.heap.size,23,none⟩)) rfl (by kernel_rfl) (by kernel_rfl) (by kernel_rfl) (fun _ _ _ h=>h) (Or.inl ⟨rfl,fun w' _=>by go_simp⟩) s0 ?_;go_frame
 refine wpAnyH_takeL (i:=3) (v:=.slice ba c bcap) rfl (by kernel_rfl) (by kernel_rfl) (by kernel_rfl) (fun _ _ _ h=>h) (Or.inl ⟨rfl,fun w' hw'=>by
  have hc:=(cellB (k:=23) hw').trans hC23
  go_simp⟩) s0 ?_
 go_frame;refine wpAnyH_takeL (i:=4) (v:=.int .i64 c) rfl (by kernel_rfl) (by kernel_rfl) (by kernel_rfl) (fun _ _ _ h=>h) (Or.inl ⟨rfl,fun w' _=>by go_simp⟩) s0 ?_;go_frame;have s1:(W6.drew.alloc (.cells (Array.replicate c (.slice none 0 0)) 22)).heap[w.heap.size]?=some (.cells C 31 (0,0)):=(block_alloc_old (ltB s0)).trans s0;refine wpAnyH_one (i:=5) (by kernel_rfl) rfl rfl (run_makeOp _ _ _ rfl _ _ _ hmk) s1 ?_;go_frame;refine wpAnyH_takeL (i:=6) (v:=.agg (C++#[.string name,.slice (some ⟨W6.drew.heap.size,0,none⟩) c c])) rfl (by kernel_rfl) (by kernel_rfl) (by kernel_rfl) (fun _ _ _ h=>h) (yieldsIf_build rfl _ _ rfl _ (built_rdraft HC.out.n _ _ _ _)) s1 ?_;go_frame;have s2:((W6.drew.alloc (.cells (Array.replicate c (.slice none 0 0)) 22)).alloc (.cells (C++#[.string name,.slice (some ⟨W6.drew.heap.size,0,none⟩) c c]) 183)).heap[w.heap.size]?=some (.cells C 31 (0,0)):=(block_alloc_old (ltB s1)).trans s1;refine wpAnyH_one (i:=7) (by kernel_rfl) rfl rfl (run_boxOp _ _ rfl _ (C++#[.string name,.slice (some ⟨W6.drew.heap.size,0,none⟩) c c]) rfl) s2 ?_;go_frame;refine wpAnyH_takeL (i:=8) (v:=.pointer (some ⟨W6.heap.size+1,0,none⟩)) rfl (by kernel_rfl) (by kernel_rfl) (by kernel_rfl) (fun _ _ _ h=>h) (yieldsIf_assign rfl _ rfl (by rw [show W6.heap.size+1=(W6.drew.alloc (.cells (Array.replicate c (.slice none 0 0)) 22)).heap.size from (size_alloc _ _).symm];rfl)) s2 ?_;go_frame;refine wpAnyH_done (by kernel_rfl) ?_ _;obtain ⟨W8,hW8⟩:∃ W8,W8=(W6.drew.alloc (.cells (Array.replicate c (.slice none 0 0)) 22)).alloc (.cells (C++#[.string name,.slice (some ⟨W6.drew.heap.size,0,none⟩) c c]) 183):=⟨_,rfl⟩;have hds:W6.drew.heap.size=W6.heap.size:=rfl;rw [hds] at hW8 s2 ⊢;rw [show (W6.drew.alloc (.cells (Array.replicate c (.slice none 0 0)) 22)).heap.size=W6.heap.size+1 from by rw [size_alloc,hds]];rw [<-hW8] at s2 ⊢;have hx68:Ext W6 W8:=hW8▸((Ext.refl W6).drew.alloc _).alloc _;have HX8:=lh (HX6.out.trans hx68)
 have hp8:W8.heap[W6.heap.size+1]?=some (.cells (C++#[.string name,.slice (some ⟨W6.heap.size,0,none⟩) c c]) 183 (0,0)):=by
  rw [hW8,show W6.heap.size+1=(W6.drew.alloc (.cells (Array.replicate c (.slice none 0 0)) 22)).heap.size from (size_alloc _ _).symm];exact block_alloc_new _ _
 have hg8:W8.heap[W6.heap.size]?=some (.cells (Array.replicate c (.slice none 0 0)) 22 (0,0)):=by
  rw [hW8,block_alloc_old (by rw [size_alloc];exact Nat.lt_succ_self _)];exact block_alloc_new W6.drew _
 have hz8:W8.heap.size=W6.heap.size+2:=by rw [hW8,size_alloc,size_alloc,hds]
 have HN8:=lh ((hx68.block (ltB HN6.out)).trans HN6.out);have HB8:=lh s2;have hgw2:w5.heap.size<W6.heap.size:=ltB HN6.out;have hgw:w.heap.size<w5.heap.size:=HW5.out
 obtain ⟨J0,hJ0a,hJ0b⟩:∃ J:List Nat,(∀ b∈J,b<w.heap.size/\∃ o n c',(.slice ba c bcap:Value)=.slice (some ⟨b,o,none⟩) n c')/\∀ b o n c',(.slice ba c bcap:Value)=.slice (some ⟨b,o,none⟩) n c'->b∈J:=by
  match ba,HBl.out with
  | none,_=>exact ⟨[],fun b hb=>(by cases hb),fun b o n c' e=>(by cases e)⟩
  | some ⟨b,o,none⟩,h=>exact ⟨[b],fun b' hb=>(by rw [List.mem_singleton.1 hb];exact ⟨h b o _ _ rfl,o,_,_,rfl⟩),fun b' o' n c' e=>(by cases e;simp)⟩
  | some ⟨b,o,some s⟩,h=>exact ⟨[],fun b hb=>(by cases hb),fun b o n c' e=>(by cases e)⟩
 have HD8:=lh (show RDrIn W8 (W6.heap.size+1) W6.heap.size (C++#[.string name,.slice (some ⟨W6.heap.size,0,none⟩) c c]) (Array.replicate c (.slice none 0 0)) (.slice ba c bcap) ((W6.heap.size+1)::J0) r N name (openTo N r.hs ndt.toList 0) from by
  have hc:=HCc.out;subst hc;refine RDrIn.new HG.out HC.out hp8 hg8 (HHb.out.ext HX8.out) (fun b o n c' e=>List.mem_cons_of_mem _ (hJ0b b o n c' e)) (fun b hb=>?_) List.mem_cons_self;rcases List.mem_cons.1 hb with rfl | hb
  ·exact ⟨by omega,by omega⟩
  ·have:=(hJ0a b hb).1
   exact ⟨by omega,by omega⟩)
 have HJ8:=lh (show ∀ b∈(W6.heap.size+1)::J0,w.heap.size<=b\/∃ o n c',(.slice ba c bcap:Value)=.slice (some ⟨b,o,none⟩) n c' from fun b hb=>by
  rcases List.mem_cons.1 hb with rfl | hb
  ·exact .inl (by omega)
  ·exact .inr (hJ0a b hb).2)
 obtain ⟨D8,hD8⟩:∃ D8,D8=C++#[.string name,.slice (some ⟨W6.heap.size,0,none⟩) c c]:=⟨_,rfl⟩;rw [<-hD8] at HD8;clear hp8 hg8 s0 s1 s2 hW8 hD8 hds hmk hx68 hJ0a hJ0b HB6 HN6 HX6 HB5 HX5 HB4 HX4 HB3 HX3 HB2 HX2 HB1 HX1 HB HX HPs;generalize W6.heap.size=g at *;go_wp2_with fail;go_loopw [17] (fun iv wr=>Hid (∃ k:Nat,k<=c/\iv=.int .i64 k/\Chg [g] W8 wr/\∃ cs J,RDrIn wr (g+1) g D8 cs (.slice ba c bcap) J r N name (openTo N r.hs ndt.toList k)/\∀ b∈J,w.heap.size<=b\/∃ o n c',(.slice ba c bcap:Value)=.slice (some ⟨b,o,none⟩) n c')) (fun iv _=>c - (intOf iv).toNat)
 case atStart=>exact ⟨0,Nat.zero_le _,rfl,Chg.refl _ _,_,_,HD8.out,HJ8.out⟩
 case round =>
  obtain ⟨k,hk,rfl,hx,cs,J,hd,hJ⟩:=hrel.out;clear hrel;have HX:=lh hx;have HDk:=lh hd;have HJk:=lh hJ;have hbk:=(hx.block w.heap.size (ltB HB8.out) (by simp only [List.mem_singleton];omega)).trans HB8.out;have HBk:=lh hbk;have k23:=(cellB (k:=23) hbk).trans hC23;have HXw:=lh (hx.ext HX8.out (by simp;omega));have hgl:g<wr.heap.size:=ltB hd.row;clear hbk;by_cases hlt:k<c
  ·have hkN:k<countN N:=by rw [<-HCc.out];exact hlt
   have hkn:(k:Int)<(c:Int):=by omega
   have hnk:=(hx.block w5.heap.size (ltB HN8.out) (by simp only [List.mem_singleton];omega)).trans HN8.out;have kn:=cellB (k:=1) hnk;obtain ⟨cv,wc,hcv,hbo,xc⟩:=conv_bytes ndt wr HDt.out;have HPl:=lh (rplaced21_any r C (.slice ba c bcap) N k ndt.toList cv _ wc HC.out (by obtain ⟨a,n,h,_⟩:=HHb.out;exact ⟨a,n,h⟩) HG.out hkN hbo);have HXc:=lh xc;have HWc:=lh xc.size;clear hx hd hJ hnk hbo xc;go_wp2_with (refine wpList_load_row rfl 31 _ rfl w.heap.size rfl 31 C (0,0) _ HBk.out underlying31 rfl HCz.out ?_;go_frame);refine HPl.out.mono ?_;rintro e w2 ⟨xv,rfl,h2⟩;have HP2:=lh h2.out.1;have HX2:=lh (HXc.out.trans h2.out.2);have HB2:=lh ((HX2.out.block (ltB HBk.out)).trans HBk.out);have HRt:=lh (rright21_any r C (.slice ba c bcap) N k (placedL N ndt.toList k) xv w2 HC.out (HHb.out.ext (HXw.out.trans HX2.out)) HG.out hkN HP2.out.off HP2.out.some (by have:=placedL_le N ndt.toList k;omega));clear h2 HPl HXc;go_wp2_with (refine wpList_load_row rfl 31 _ rfl w.heap.size rfl 31 C (0,0) _ HB2.out underlying31 rfl HCz.out ?_;go_frame);refine HRt.out.mono ?_;rintro e w3 ⟨rfl,x3⟩;have HX3:=lh (HX2.out.trans x3);have HP3:=lh (HP2.out.ext x3);clear x3 HRt kn k23
   cases hrb:rightB N r.hs k (placedL N ndt.toList k) with
   | false =>
    have HOp:=lh (show openTo N r.hs ndt.toList (k+1)=openTo N r.hs ndt.toList k from by rw [openTo,if_neg (by rw [hrb];decide)]);clear hrb;go_wp2_with fail;go_roundw
    case rel=>exact ⟨k+1,by omega,by go_num,HX.out.trans_ext HX3.out,by rw [HOp.out];exact ⟨_,_,HDk.out.ext HX3.out,HJk.out⟩⟩
    case measure=>simp [intOf] <;> omega
   | true =>
    have HOp:=lh (show openTo N r.hs ndt.toList (k+1)=fillP N r.hs k (placedL N ndt.toList k) (openTo N r.hs ndt.toList k) from by rw [openTo,if_pos hrb]);have hpos:0<(placedL N ndt.toList k).length:=by rw [right_len hrb];exact lenN_pos hkN
    have hblk:BlkB wc.heap.size w3 none xv (placedL N ndt.toList k):=by
     rcases HP3.out with ⟨h0,_⟩ | ⟨_,h⟩
     ·rw [h0] at hpos;simp at hpos
     ·exact h
    obtain ⟨gb,hgb1,hgb2,hpa⟩:=partAt_blk hblk hpos;have hwc:wr.heap.size<=wc.heap.size:=HWc.out;have HF:=lh (rfill23_any w3 (g+1) g D8 cs (.slice ba c bcap) (J++[gb]) r N name _ ((HDk.out.ext HX3.out).more (b:=gb) (by omega) hgb2) k hkN _ _ (hpa.more fun b hb=>List.mem_append.2 (.inr hb)))
    have HJ2:=lh (show ∀ b∈J++[gb],w.heap.size<=b\/∃ o n c',(.slice ba c bcap:Value)=.slice (some ⟨b,o,none⟩) n c' from fun b hb=>by
     rcases List.mem_append.1 hb with hb | hb
     ·exact HJk.out b hb
     ·rw [List.mem_singleton.1 hb];exact .inl (by have:=HXw.out.size;omega))
    clear hrb hpos hblk hgb1 hgb2 hpa hwc;go_wp2_with fail;refine HF.out.mono ?_;rintro e w4 ⟨rfl,h4⟩;have H4:=h4;clear h4 HF;go_wp2_with fail;go_roundw
    case rel=>exact ⟨k+1,by omega,by go_num,(HX.out.trans_ext HX3.out).trans H4.out.1 fun _ h=>.inl h,by rw [HOp.out];exact ⟨H4.out.2.choose,_,H4.out.2.choose_spec,HJ2.out⟩⟩
    case measure=>simp [intOf] <;> omega
  ·obtain rfl:k=c:=by omega
   have nlt:decide ((k:Int)<(k:Int))=false:=by simp
   obtain ⟨w9,rfl⟩:∃ w9,w9=wr:=⟨_,rfl⟩;have HD9:=HDk;obtain ⟨ps0,hps0⟩:∃ ps0,ps0=openTo N r.hs ndt.toList k:=⟨_,rfl⟩;have HPS0:=lh hps0;rw [<-hps0] at HD9;have HK:=lh (show k=countN N from HCc.out);clear hx hd hJ HDk hps0 HDt HN8 HCc;go_wp2_with fail;go_loopw [19] (fun iv wr=>Hid (∃ j:Nat,j<=k/\iv=.int .i64 j/\Chg [g] w9 wr/\∃ cs J,RDrIn wr (g+1) g D8 cs (.slice ba k bcap) J r N name (openF N r.hs F ps0 j)/\∀ b∈J,w.heap.size<=b\/∃ o n c',(.slice ba k bcap:Value)=.slice (some ⟨b,o,none⟩) n c')) (fun iv _=>k - (intOf iv).toNat)
   case atStart=>exact ⟨0,Nat.zero_le _,rfl,Chg.refl _ _,_,_,HD9.out,HJk.out⟩
   case round =>
    obtain ⟨j,hj,rfl,hx,cs,J,hd,hJ⟩:=hrel.out;clear hrel;have HXr:=lh hx;have HDj:=lh hd;have HJj:=lh hJ;have hbj:=(hx.block w.heap.size (ltB HBk.out) (by simp only [List.mem_singleton];omega)).trans HBk.out;have HBj:=lh hbj;have k23j:=(cellB (k:=23) hbj).trans hC23;have HXv:=lh (hx.ext HXw.out (by simp;omega));have hglj:g<wr.heap.size:=ltB hd.row;clear hbj k23;by_cases hlt2:j<k
    ·have hjN:j<countN N:=by rw [<-HK.out];exact hlt2
     have hjk:(j:Int)<(k:Int):=by omega
     obtain ⟨h,hh⟩:∃ h,r.hs[j]?=some h:=⟨_,List.getElem?_eq_getElem (by omega)⟩;have hha:=HHb.out.ext HXv.out;obtain ⟨ha,hcap,he,_,_,hb3⟩:=hha;obtain ⟨hh32,hgb,hgo,he2,hhl,hrg⟩:=hb3 j h hh;have he3:ba=some ⟨hgb,hgo,none⟩:=by rw [hcn] at he;cases he;exact he2
     subst he3;have HRg:=lh (show wr.rangeAt hgb (hgo+j*32) (hArr h 32).toList from by rw [hArr_list hh32];exact hrg);have HZh:=lh (show (prog.info? 45).map (·.size)=some (hArr h 32).size from by rw [hArr_size _ _ hh32 (by omega)];kernel_rfl);have HFj:=lh (HFd wr h HXv.out hh32);have HGet:=lh (show r.hs[j]?.getD []=h from by rw [hh];rfl);have HH:=lh hh;clear hx hd hJ hb3 he he2 hrg hhl hh;go_wp2_with (refine wpList_load_at rfl 45 _ rfl hgb (hgo+j*32) rfl (hArr h 32) _ HRg.out underlying45 rfl HZh.out ?_;go_frame);refine HFj.out.out.mono ?_;intro e w2 h2;rcases h2 with ⟨hF0,rfl,x2⟩ | ⟨l,v,fnm,fk,hF1,hll,rfl,hbk,x2⟩
     ·have HX2:=lh x2;have HOp:=lh (show openF N r.hs F ps0 (j+1)=openF N r.hs F ps0 j from by rw [openF,HGet.out,hF0]);clear x2 hF0 k23j;go_wp2_with fail;go_roundw
      case rel=>exact ⟨j+1,by omega,by go_num,HXr.out.trans_ext HX2.out,by rw [HOp.out];exact ⟨_,_,HDj.out.ext HX2.out,HJj.out⟩⟩
      case measure=>simp [intOf] <;> omega
     ·have HX2:=lh x2;have HD2:=lh (HDj.out.ext x2);have HBk2:=lh hbk;have HB2:=lh ((x2.block (ltB HBj.out)).trans HBj.out);have HRr:=lh (rangeAt_blk HB2.out);have HF1:=lh hF1;obtain ⟨x,hxj⟩:∃ x,(openF N r.hs F ps0 j)[j]?=some x:=⟨_,List.getElem?_eq_getElem (by rw [HD2.out.len];exact hjN)⟩;obtain ⟨pv,hpv,hpa⟩:=HD2.out.parts j x hxj;have kk:=(cellB (k:=j) HD2.out.row).trans hpv;have k28:=(cellB (k:=28) HD2.out.blk).trans HD2.out.c28;rw [HD2.out.len,<-HK.out] at k28;have HHv:=lh (show haveB (openF N r.hs F ps0 j) j=x.isSome from by unfold haveB;rw [hxj];cases x <;> rfl);have HRt:=lh (rright21_any r C _ N j l v w2 HC.out (HHb.out.ext (HXv.out.trans x2)) HG.out hjN hbk.off hbk.some hll);clear x2 hF1 k23j hpv hxj hbk
      cases x with
      | some l9 =>
       obtain ⟨sb,so,scap,rfl,hl0,hl1,hl2,_⟩:=hpa;unfold maxLen at hl2
       have HOp:=lh (show openF N r.hs F ps0 (j+1)=openF N r.hs F ps0 j from by
        rw [openF,HGet.out,HF1.out]
        exact if_neg (by rw [HHv.out];simp))
       have e5:((l9.length:Int)==0)=false:=by rw [beq_eq_false_iff_ne];omega
       have e6:(l9.length==0)=false:=by rw [beq_eq_false_iff_ne];omega
       have e7:¬ l9.length=0:=by omega
       clear HRt;go_wp2_with fail;go_roundw
       case rel=>exact ⟨j+1,by omega,by go_num,HXr.out.trans_ext HX2.out,by rw [HOp.out];exact ⟨_,_,HD2.out,HJj.out⟩⟩
       case measure=>simp [intOf] <;> omega
      | none =>
       obtain rfl:pv=.slice none 0 0:=hpa;go_wp2_with (refine wpList_load_at_g (by simp [Region.wanted,yielded]) 31 _ rfl w.heap.size 0 rfl C _ HRr.out underlying31 rfl HCz.out ?_;go_frame);refine HRt.out.mono ?_;rintro e w3 ⟨rfl,x3⟩;have HX3:=lh x3;have HBk3:=lh (HBk2.out.ext x3);clear x3 HRt kk k28
       cases hrb:rightB N r.hs j l with
       | false =>
        have HOp:=lh (show openF N r.hs F ps0 (j+1)=openF N r.hs F ps0 j from by
         rw [openF,HGet.out,HF1.out]
         exact if_neg (by rw [hrb];simp))
        clear hrb;go_wp2_with fail;go_roundw
        case rel=>exact ⟨j+1,by omega,by go_num,(HXr.out.trans_ext HX2.out).trans_ext HX3.out,by rw [HOp.out];exact ⟨_,_,HD2.out.ext HX3.out,HJj.out⟩⟩
        case measure=>simp [intOf] <;> omega
       | true =>
        have HOp:=lh (show openF N r.hs F ps0 (j+1)=fillP N r.hs j l (openF N r.hs F ps0 j) from by
         rw [openF,HGet.out,HF1.out]
         exact if_pos ⟨HHv.out,hrb⟩)
        obtain ⟨gb,hgb1,hgb2,hpb⟩:=partAt_blk HBk3.out (by rw [right_len hrb];exact lenN_pos hjN);have HF:=lh (rfill23_any w3 (g+1) g D8 cs _ (J++[gb]) r N name _ ((HD2.out.ext HX3.out).more (b:=gb) (by omega) hgb2) j hjN _ _ (hpb.more fun b hb=>List.mem_append.2 (.inr hb)))
        have HJ2:=lh (show ∀ b∈J++[gb],w.heap.size<=b\/∃ o n c',(.slice (some ⟨hgb,hgo,none⟩) k bcap:Value)=.slice (some ⟨b,o,none⟩) n c' from fun b hb=>by
         rcases List.mem_append.1 hb with hb | hb
         ·exact HJj.out b hb
         ·rw [List.mem_singleton.1 hb];exact .inl (by have:=HXv.out.size;omega))
        clear hrb hgb1 hgb2 hpb;go_wp2_with fail;refine HF.out.mono ?_;rintro e w4 ⟨rfl,h4⟩;have H4:=h4;clear h4 HF;go_wp2_with fail;go_roundw
        case rel=>exact ⟨j+1,by omega,by go_num,((HXr.out.trans_ext HX2.out).trans_ext HX3.out).trans H4.out.1 fun _ h=>.inl h,by rw [HOp.out];exact ⟨H4.out.2.choose,_,H4.out.2.choose_spec,HJ2.out⟩⟩
        case measure=>simp [intOf] <;> omega
    ·obtain rfl:j=k:=by omega
     have nlt2:decide ((j:Int)<(j:Int))=false:=by simp
     clear hx hd hJ;go_wp2_with fail;go_ret2;exact ⟨_,_,_,_,_,rfl,HXv.out,by rw [<-HK.out,<-HPS0.out,HNm.out];exact HDj.out,by omega,by omega,HJj.out⟩
end
section
open Go.RowKit Go.Shelf
attribute [local go_sem] Oper.semAt_some
set_option maxRecDepth 100000 in
set_option maxHeartbeats 4000000 in
theorem ropen23_path (root:ByteArray) (r:RecS) (C:Array Value) (bl f dv:Value) (w:World) (hC:RecC C r bl) (hs:r.path.size<4294967281) (hr:root.size<=2147483648) (hp:placeB root r.path=false) :
  Calls prog 51 #[dv,.string root,.agg C,f] w fun e w'=>e=.returned (.tuple #[.pointer none,.int .i64 10])/\Ext w w':=by
 have HX:=lh ((Ext.refl w).alloc (.cells C 31));have HTm:=fun w'=>lh (refTemp_any r.path w' hs);have hle:=tempR_le r.path
 have hnz:(placeS root r.path).size<4294967281:=by
  unfold placeS;simp only [ByteArray.size_append,size_mk];simp;omega
 have HM1:=fun w'=>lh (refMay_any root w' (by omega));have HM2:=fun w'=>lh (refMay_any (placeS root r.path) w' hnz);have HPs:=lh (show placeS root r.path=root++⟨#[47]⟩++tempR r.path from rfl);have k0:=(cellB (k:=0) (block_alloc_new w (.cells C 31 (0,0)))).trans hC.c0;unfold placeB at hp;generalize placeS root r.path=name at *;generalize tempR r.path=tn at *;generalize mayB r.path=b1 at *;generalize mayB root=b2 at *;generalize mayB name=b3 at *;clear hC hs hnz
 cases b1
 case' true =>
  cases b2
  case' true=>cases b3
 all_goals
  try (exact absurd hp (by decide))
 all_goals
  clear hp;go_enter func51,ntmps51;go_wp2_with fail;refine (HTm _).out.mono ?_;rintro e w1 ⟨rfl,x1⟩;have HX1:=lh (HX.out.trans x1);clear x1 k0 HTm;have HPe:=HPs.out;subst HPe;go_wp2_with fail
  first
  | (go_ret2
     exact ⟨rfl,HX1.out⟩)
  | (refine (HM1 _).out.mono ?_
     rintro e w2 ⟨rfl,x2⟩;have HX2:=lh (HX1.out.trans x2);clear x2;go_wp2_with fail
     first
     | (go_ret2
        exact ⟨rfl,HX2.out⟩)
     | (refine (HM2 _).out.mono ?_
        rintro e w3 ⟨rfl,x3⟩;have HX3:=lh (HX2.out.trans x3);clear x3;go_wp2_with fail;go_ret2
        exact ⟨rfl,HX3.out⟩))
set_option maxRecDepth 100000 in
set_option maxHeartbeats 4000000 in
theorem ropen23_err (root:ByteArray) (r:RecS) (C:Array Value) (bl f dv:Value) (w:World) (hC:RecC C r bl) (hb:∃ a cap,bl=.slice a r.hs.length cap) (hlo:-9223372036854775808<=r.size) (hhi:r.size<=9223372036854775807) (hs:r.path.size<4294967281) (hr:root.size<=2147483648) (hp:placeB root r.path=true) (hw:r.wanted≠0) :
  Calls prog 51 #[dv,.string root,.agg C,f] w fun e w'=>e=.returned (.tuple #[.pointer none,.int .i64 r.wanted])/\Ext w w':=by
 have HX:=lh ((Ext.refl w).alloc (.cells C 31));have HTm:=fun w'=>lh (refTemp_any r.path w' hs);have hle:=tempR_le r.path
 have hnz:(placeS root r.path).size<4294967281:=by
  unfold placeS;simp only [ByteArray.size_append,size_mk];simp;omega
 have hM1:=fun w'=>refMay_any root w' (by omega);have hM2:=fun w'=>refMay_any (placeS root r.path) w' hnz
 obtain ⟨hp1,hp2,hp3⟩:mayB r.path=true/\mayB root=true/\mayB (placeS root r.path)=true:=by
  unfold placeB at hp
  simpa using hp
 rw [hp1] at HTm;rw [hp2] at hM1;rw [hp3] at hM2;have HM1:=fun w'=>lh (hM1 w');have HM2:=fun w'=>lh (hM2 w');have HPs:=lh (show placeS root r.path=root++⟨#[47]⟩++tempR r.path from rfl);have HWn:=fun w'=>lh (rwanted21_any r C bl w' hC hb hlo hhi);have hB:=block_alloc_new w (.cells C 31 (0,0));have HB:=lh hB;have k0:=(cellB (k:=0) hB).trans hC.c0;have HCz:=lh (show (prog.info? 31).map (·.size)=some C.size from by rw [hC.n];kernel_rfl);have w0:(r.wanted != 0)=true:=by rw [bne_iff_ne];exact hw
 have w0':(r.wanted==0)=false:=by rw [beq_eq_false_iff_ne];exact hw
 generalize placeS root r.path=name at *;generalize tempR r.path=tn at *;generalize r.wanted=wt at *;clear hC hs hp hnz hB hb hlo hhi hM1 hM2 hp1 hp2 hp3;go_enter func51,ntmps51;go_wp2_with fail;refine (HTm _).out.mono ?_;rintro e w1 ⟨rfl,x1⟩;have HX1:=lh (HX.out.trans x1);have HB1:=lh ((x1.block (ltB HB.out)).trans HB.out);clear x1 k0 HTm;have HPe:=HPs.out;subst HPe;go_wp2_with fail;refine (HM1 _).out.mono ?_;rintro e w2 ⟨rfl,x2⟩;have HX2:=lh (HX1.out.trans x2);have HB2:=lh ((x2.block (ltB HB1.out)).trans HB1.out);clear x2 HM1;go_wp2_with fail;refine (HM2 _).out.mono ?_;rintro e w3 ⟨rfl,x3⟩;have HX3:=lh (HX2.out.trans x3);have HB3:=lh ((x3.block (ltB HB2.out)).trans HB2.out);clear x3 HM2;go_wp2_with (refine wpList_load_row rfl 31 _ rfl w.heap.size rfl 31 C (0,0) _ HB3.out underlying31 rfl HCz.out ?_;go_frame);refine (HWn _).out.mono ?_;rintro e w4 ⟨rfl,x4⟩;have HX4:=lh (HX3.out.trans x4);clear x4 HWn;go_wp2_with fail;go_ret2;exact ⟨rfl,HX4.out⟩
end
section
open Go.RowKit Go.Shelf
attribute [local go_sem] Oper.semAt_some
set_option maxRecDepth 100000 in
set_option maxHeartbeats 2000000 in
theorem rfar23_any (w:World) (p g:Nat) (D cs:Array Value) (bl:Value) (I:List Nat) (r:RecS) (N:Nat) (name:ByteArray) (ps:List (Option (List UInt8))) (h:RDrIn w p g D cs bl I r N name ps) (ho:PsOk N r.hs ps) :
  Calls prog 118 #[.pointer (some ⟨p,0,none⟩)] w fun e w'=>∃ u,e=.returned u/\Hid (w'.ownsRow w.heap.size 5 1 u N ((farL N ps).map bv)/\Ext w w'):=by
 have HD:=lh h;have hsm:=h.good.small
 have HLen:=fun (k:Nat) (hk:k<countN N) w'=>lh (show Calls prog 179 #[.agg (D.extract 0 27),.int .i64 k] w' (fun e w''=>e=.returned (.int .i64 (lenN N k:Nat))/\Ext w' w'') from by
  obtain ⟨a,cap,hb,_⟩:=h.hs
  exact rlen21_any r _ _ N k w' h.rc ⟨a,cap,hb⟩ h.good hk)
 have hc32:=count_le h.good.small;have D28:D[28]?=some (.slice (some ⟨g,0,none⟩) (countN N) (countN N)):=by rw [<-h.len];exact h.c28
 have k28:=(cellB (k:=28) h.blk).trans D28;have HB:=lh (show ∀ wr,Ext w wr->wr.heap[p]?=some (.cells D 183 (0,0)) from fun wr x=>(x.block (ltB h.blk)).trans h.blk);have HRz:=lh (show (prog.info? 31).map (·.size)=some (D.extract 0 27).size from by rw [h.rc.n];kernel_rfl);have HLp:=lh h.len;have HF:=lh (show farL N ps=farTo N ps (countN N) from rfl);have HFl:=lh (farL_len ho);have HTl:=lh (fun k=>show (farTo N ps k).length<=N from by rw [farTo_len ho];omega);have HPl:=lh (partF_len ho);have HLe:=lh (fun k (hk:k<countN N)=>And.intro (lenN_pos hk) (lenN_le N k));obtain ⟨c,hc⟩:∃ c,c=countN N:=⟨_,rfl⟩;rw [<-hc] at D28 k28 HF hc32 HLen HLp HLe;clear hc h ho;go_enter func118,ntmps118;go_wp2_with fail;go_loopw [3,4] (fun lv iv wr=>Hid (∃ k:Nat,k<=c/\iv=.int .i64 k/\Ext w wr/\wr.ownsRow w.heap.size 5 1 lv (farTo N ps k).length ((farTo N ps k).map bv))) (fun _ iv _=>c - (intOf iv).toNat)
 case atStart=>exact ⟨0,Nat.zero_le _,rfl,Ext.refl _,World.ownsRow_nil _ _ _ _⟩
 case round =>
  obtain ⟨k,hk,rfl,hx,ho⟩:=hrel.out;clear hrel;have HX:=lh hx;have HO:=lh ho;have k28r:=(hx.cell (lt_of_cell k28)).trans k28;have hsz:=hx.size;clear k28;by_cases hlt:k<c
  ·obtain ⟨x,hxk⟩:∃ x,ps[k]?=some x:=⟨_,List.getElem?_eq_getElem (by have:=HLp.out;omega)⟩;have HDr:=lh (HD.out.ext hx);obtain ⟨v,hv,hpv⟩:=HDr.out.parts k x hxk;have kk:=(cellB (k:=k) HDr.out.row).trans hv;have hkn:(k:Int)<(c:Int):=by omega
   obtain ⟨hle1,hle2⟩:=HLe.out k hlt;have hpl:=HPl.out k;have HS:=lh (farTo_succ N ps k);clear hx ho
   cases x with
   | none =>
    obtain rfl:v=.slice none 0 0:=hpv;have HRr:=lh (rangeAt_rec (HB.out wr HX.out) 27);have HE:=lh (show partF N ps k=List.replicate (lenN N k) 0 from by unfold partF;rw [hxk]);have hmk:=fun w=>mkZeros w (lenN N k) (by omega);have HLk:=HLen k hlt;clear hv hxk hpl;generalize lenN N k=m at *;go_wp2_with (refine wpList_load_at rfl 31 _ rfl p 0 rfl (D.extract 0 27) _ HRr.out underlying31 rfl HRz.out ?_;go_frame);refine (HLk _).out.mono ?_;rintro e w1 ⟨rfl,x1⟩;have HX1:=lh (HX.out.trans x1);have HO1:=lh (owns_ext HO.out x1);have hs1:=x1.size;clear x1 kk
    obtain ⟨v7,w7,hr7,ho7,hg7⟩:=run_add_more (v:=.slice (some ⟨w1.heap.size,0,none⟩) m m) (l:=List.replicate m 0) (b:=w1.heap.size+1) (HO1.out.alloc (.cells (Array.replicate m (.int .u8 0)) 5)) ⟨some ⟨w1.heap.size,0,none⟩,m,by rw [List.length_replicate],by rw [List.length_replicate];omega,by unfold maxLen;omega,fun _=>⟨w1.heap.size,0,rfl,by omega,by rw [size_alloc];omega,fun j x hj=>by
     rw [cell_alloc_new rfl,Nat.zero_add];rw [List.getElem?_replicate] at hj;split at hj
     ·rename_i hjm
      cases hj
      simp [hjm,bv]
     ·cases hj⟩⟩ (by rw [List.length_replicate];omega) (by rw [List.length_replicate];have:=HTl.out k;omega) (by rw [size_alloc];omega) 22
    have HO7:=lh (show w7.ownsRow w.heap.size 5 1 v7 (farTo N ps (k+1)).length ((farTo N ps (k+1)).map bv) from by
     rw [HS.out,HE.out,List.length_append,List.map_append,List.length_replicate];rw [List.length_replicate] at ho7
     exact ho7)
    have HX7:=lh (grown_extB (HX1.out.alloc _) (Nat.le_refl _) (HO1.out.alloc _) hg7);clear ho7 hg7;go_wp2_with (refine wpList_run rfl (run_addOp (T:=22) rfl rfl rfl hr7) ?_;go_frame);go_roundw
    case rel=>exact ⟨k+1,by omega,by go_num,HX7.out,HO7.out⟩
    case measure=>simp [intOf] <;> omega
   | some l =>
    have HE:=lh (show partF N ps k=l from by unfold partF;rw [hxk]);have hbo:=PartAt.off hpv fun b hb=>(HDr.out.imm b hb).2;rw [HE.out] at hpl;obtain ⟨v7,w7,hr7,ho7,hg7⟩:=run_add_more HO.out hbo (by omega) (by have:=HTl.out k;omega) hsz 22
    have HO7:=lh (show w7.ownsRow w.heap.size 5 1 v7 (farTo N ps (k+1)).length ((farTo N ps (k+1)).map bv) from by
     rw [HS.out,HE.out,List.length_append,List.map_append]
     exact ho7)
    have HX7:=lh (grown_extB HX.out (Nat.le_refl _) HO.out hg7);obtain ⟨sb,so,scap,rfl,hl0,hl1,hl2,_⟩:=hpv;unfold maxLen at hl2;clear ho7 hg7 hbo hv hxk hpl;go_wp2_with (refine wpList_run rfl (run_addOp (T:=22) rfl rfl rfl hr7) ?_;go_frame);go_roundw
    case rel=>exact ⟨k+1,by omega,by go_num,HX7.out,HO7.out⟩
    case measure=>simp [intOf] <;> omega
  ·obtain rfl:k=c:=by omega
   have nlt:decide ((k:Int)<(k:Int))=false:=by simp
   have hq:=HO.out;rw [<-HF.out,HFl.out] at hq;have HE:=lh hq;clear hq;clear hx ho;go_wp2_with fail;go_ret;exact ⟨_,rfl,HE.out,HX.out⟩
end
end Go.Proofs.YtldppmjjgljinaaGreatDoor
