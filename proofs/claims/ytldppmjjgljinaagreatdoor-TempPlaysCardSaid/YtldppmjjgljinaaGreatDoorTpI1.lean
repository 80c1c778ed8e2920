import Derived.Test.YtldppmjjgljinaaGreatDoorTpF2
import Derived.Test.YtldppmjjgljinaaGreatDoorTpH1
import Derived.Test.YtldppmjjgljinaaGreatDoorTpB2
import Derived.Test.YtldppmjjgljinaaGreatDoorTpG3
open Go.Proofs.Tryz
namespace Go.Proofs.YtldppmjjgljinaaGreatDoor
section
open Go.RowKit Go.Shelf
def FoundB (F:List UInt8->Option (Pl×List UInt8)) (h:List UInt8) (w:World) (e:Ending) (w':World):Prop :=
 (F h=none/\e=.returned (.tuple #[.slice none 0 0,plV (⟨#[]⟩,0),.bool false])/\Ext w w') \/
 ∃ (p:Pl) (l:List UInt8) (v:Value),F h=some (p,l)/\e=.returned (.tuple #[v,plV p,.bool true])/\w'.ownsRow w.heap.size 5 1 v l.length (l.map bv)/\Ext w w'
def ansV (N i:Nat):Option (Pl×List UInt8)->Value
 | some (p,l)=>if l.length=lenN N i then .agg #[.int .i64 i,.int .i64 2,.string p.1,.int .i64 p.2,.int .i64 0] else .agg #[.int .i64 i,.int .i64 4,.string ⟨#[]⟩,.int .i64 0,.int .i64 0]
 | none=>.agg #[.int .i64 i,.int .i64 4,.string ⟨#[]⟩,.int .i64 0,.int .i64 0]
def stepVF (N:Nat) (hs:List (List UInt8)) (t:List UInt8) (F:List UInt8->Option (Pl×List UInt8)) (i:Nat):Value :=
 if rightB N hs i (placedL N t i) then .agg #[.int .i64 i,.int .i64 1,.string ⟨#[]⟩,.int .i64 0,.int .i64 0]
 else match (List.range i).find? fun k=>sameB N hs k i with
  | some k=>.agg #[.int .i64 i,.int .i64 3,.string ⟨#[]⟩,.int .i64 0,.int .i64 k]
  | none=>ansV N i (F (hs[i]?.getD []))
set_option maxRecDepth 100000 in
set_option maxHeartbeats 4000000 in
theorem cstepF_any (r:RecS) (C:Array Value) (bl:Value) (N i:Nat) (t:List UInt8) (v:Value) (b:Nat) (w:World) (T:ShaTabs w) (hC:RecC C r bl) (hb:HashesAt w bl r.hs) (G:r.Good N) (hi:i<countN N) (hv:BytesOff b w v t) (fv:Value) (F:List UInt8->Option (Pl×List UInt8)) (HFn:∀ w' h,Ext w w'->h.length=32->Calls prog 78 #[fv,.agg (hArr h 32)] w' (FoundB F h w')) :
  Calls prog 146 #[.agg C,.int .i64 i,fv,v] w fun e w'=>e=.returned (stepVF N r.hs t F i)/\Ext w w':=by
 have hsm:=G.small;have hcn:=G.count;have hc32:=count_le hsm;obtain ⟨ha,hcap,rfl,hb1,hb2,hb3⟩:=hb;have HRt:=fun w' (x:Ext w w') u (h:BytesOff w'.heap.size w' u (placedL N t i))=>lh (cright_any r C _ N i (placedL N t i) u w' (T.ext x) hC ((show HashesAt w _ r.hs from ⟨_,_,rfl,hb1,hb2,hb3⟩).ext x) G hi h (by unfold placedL;split <;> simp;have:=lenN_le N i;omega));obtain ⟨u,hpl,hpb⟩:=cplaced_any r C _ N i t v b w hC ⟨_,_,rfl⟩ G hi hv;have HPl:=fun w' (x:Ext w w')=>lh (hpl w' x);have HRu:=fun w' (x:Ext w w')=>HRt w' x u (hpb w' _ x (Nat.le_refl _));clear HRt hpl hpb
 have HLen:=fun (k:Nat) (hk:k<countN N) w'=>lh (show Calls prog 77 #[.agg C,.int .i64 k] w' (fun e w''=>e=.returned (.int .i64 (lenN N k:Nat))/\Ext w' w'') from by
  rw [<-G.len hk]
  exact clength_any r C _ k w' hC ⟨_,_,rfl⟩ (by rw [G.size];omega) (by rw [G.size];omega))
 have HFd:=fun w' h x hh=>lh (HFn w' h x hh)
 have HS:=lh (show stepVF N r.hs t F i=if rightB N r.hs i (placedL N t i) then .agg #[.int .i64 i,.int .i64 1,.string ⟨#[]⟩,.int .i64 0,.int .i64 0] else match (List.range i).find? fun k=>sameB N r.hs k i with
  | some k=>.agg #[.int .i64 i,.int .i64 3,.string ⟨#[]⟩,.int .i64 0,.int .i64 k]
  | none=>ansV N i (F (r.hs[i]?.getD [])) from rfl)
 have HCz:=lh (show (prog.info? 31).map (·.size)=some C.size from by rw [hC.n];kernel_rfl);obtain ⟨W1,hW1⟩:∃ W1,W1=(w.alloc (.cells C 31 (0,0))).alloc (.cells #[.int .i64 0,.int .i64 0,.string ⟨#[]⟩,.int .i64 0,.int .i64 0] 128 (0,0)):=⟨_,rfl⟩;have HX1:=lh (show Ext w W1 from hW1▸((Ext.refl w).alloc _).alloc _)
 have HB4:=lh (show W1.heap[w.heap.size]?=some (.cells C 31 (0,0)) from by
  rw [hW1,block_alloc_old (by rw [size_alloc];omega)];exact block_alloc_new _ _)
 have HB8:=lh (show W1.heap[w.heap.size+1]?=some (.cells #[.int .i64 0,.int .i64 0,.string ⟨#[]⟩,.int .i64 0,.int .i64 0] 128 (0,0)) from by
  have:=block_alloc_new (w.alloc (.cells C 31 (0,0))) (.cells #[.int .i64 0,.int .i64 0,.string ⟨#[]⟩,.int .i64 0,.int .i64 0] 128 (0,0));rw [size_alloc] at this
  rw [hW1];exact this)
 have HC23:=lh hC.c23;obtain ⟨h,hh⟩:∃ h,r.hs[i]?=some h:=⟨_,List.getElem?_eq_getElem (by omega)⟩;obtain ⟨hh32,g,o,rfl,hgl,hrg⟩:=hb3 i h hh;have HAi:=lh (hArr_list hh32);have HZi:=lh (show (prog.info? 45).map (·.size)=some (hArr h 32).size from by rw [hArr_size _ _ hh32 (by omega)];kernel_rfl)
 have HRi:=lh (show ∀ w',Ext w w'->w'.rangeAt g (o+i*32) (hArr h 32).toList from fun w' x j y hj=>by
  rw [HAi.out] at hj
  exact (x.cell hgl).trans (hrg j y (by simpa using hj)))
 have HB3:=lh hb3;have HH:=lh hh;have HH32:=lh hh32
 have HBq:=lh (show ∀ w2,Ext W1 w2->∀ w',(∃ y:After w2,w'=y.v)->w'.heap[w.heap.size]?=some (.cells C 31 (0,0)) from by
  rintro w2 x _ ⟨y,rfl⟩
  exact ((x.trans y.x).block (ltB HB4.out)).trans HB4.out)
 have hin:(i:Int)<(r.hs.length:Int):=by omega
 have hin2:i<r.hs.length:=by omega
 have HHi:=lh hi;have HCN:=lh hcn;obtain ⟨rb,hrb⟩:∃ rb,rb=rightB N r.hs i (placedL N t i):=⟨_,rfl⟩;have HBo:=lh hrb;rw [<-hrb] at HRu HS;generalize stepVF N r.hs t F i=S at *;obtain ⟨n,hn⟩:∃ n,n=r.hs.length:=⟨_,rfl⟩;have HN:=lh hn;rw [<-hn] at hin hin2 hb1 hcn HC23;have hi32:i<=32:=by omega
 clear hrb hn hb3 hrg hh hh32 hC G T hv HBo hsm hc32 hi HFn;go_enter func146,ntmps146;go_wp2_with fail;rw [<-hW1];clear hW1;refine wp_region_after (by kernel_rfl) (by kernel_rfl) ?_
 repeat (first | (refine wpQuiet_load_row rfl 31 (.tmp 4) rfl w.heap.size rfl 31 C (0,0) _ (HBq.out _ (Ext.refl _)) underlying31 rfl HCz.out ?_;go_frame) | go_big_quiet_step (first | (go_at_call 197;exact After.of (HPl _ (HX1.out.trans (After.x _))).out) | (go_at_call 196;exact After.of (HRu _ (HX1.out.trans (After.x _))).out)))
 refine wpQuiet_nil ?_;rintro _ ⟨y,rfl⟩;have HZ:=lh y.x;obtain ⟨w2,hw2⟩:∃ x,x=y.v:=⟨_,rfl⟩;rw [<-hw2] at HZ ⊢;clear hw2 y HPl HRu
 cases rb with
 | true =>
  have HSR:=lh (HS.out.trans (if_pos rfl));have hbr:=(HZ.out.block (ltB HB8.out)).trans HB8.out;have k0:=cellB (k:=0) hbr;have k1:=cellB (k:=1) hbr;have k2:=cellB (k:=2) hbr;have k3:=cellB (k:=3) hbr;have k4:=cellB (k:=4) hbr;have f0:=frozenB (k:=0) hbr;have f1:=frozenB (k:=1) hbr;have f2:=frozenB (k:=2) hbr;have f3:=frozenB (k:=3) hbr;have f4:=frozenB (k:=4) hbr;have HRR:=lh hbr;clear hbr;go_wp2_with fail;refine bodyPost_ret (results_cell_row rfl _ _ (w.heap.size+1) 128 #[.int .i64 i,.int .i64 1,.string ⟨#[]⟩,.int .i64 0,.int .i64 0] (0,0) _ rfl (by rw [setCellB (setCellB (setCellB (setCellB (setCellB HRR.out))))];rfl) underlying128 rfl (by kernel_rfl)) rfl ?_;exact ⟨by rw [HSR.out],(((((HX1.out.trans HZ.out).setCell (p:=⟨w.heap.size+1,0,none⟩) (Nat.le_succ _) _).setCell (p:=⟨w.heap.size+1,1,none⟩) (Nat.le_succ _) _).setCell (p:=⟨w.heap.size+1,2,none⟩) (Nat.le_succ _) _).setCell (p:=⟨w.heap.size+1,3,none⟩) (Nat.le_succ _) _).setCell (p:=⟨w.heap.size+1,4,none⟩) (Nat.le_succ _) _⟩
 | false =>
  have HS2:=lh (HS.out.trans (if_neg (by decide)));go_wp2_with fail;go_loopw [23] (fun kv wr=>Hid (∃ k:Nat,k<=i/\kv=.int .i64 k/\Ext W1 wr/\∀ j,j<k->sameB N r.hs j i=false)) (fun kv _=>i - (intOf kv).toNat)
  case atStart=>exact ⟨0,Nat.zero_le _,rfl,HZ.out,fun j hj=>absurd hj (Nat.not_lt_zero j)⟩
  case round =>
   obtain ⟨k,hk,rfl,hx,hno⟩:=hrel.out;clear hrel HZ;have HZ:=lh hx;have HNo:=lh hno;clear hx hno;have k23:wr.cell? ⟨w.heap.size,23,none⟩=some (.slice (some ⟨g,o,none⟩) n hcap):=(cellB (k:=23) ((HZ.out.block (ltB HB4.out)).trans HB4.out)).trans HC23.out;by_cases hlt:k<i
   ·obtain ⟨hk',hhk⟩:∃ h',r.hs[k]?=some h':=⟨_,List.getElem?_eq_getElem (by have:=HN.out;omega)⟩;obtain ⟨hk32,g',o',e',hgl',hrg'⟩:=HB3.out k hk' hhk
    cases e'
    have HAk:=lh (hArr_list hk32);have HZk:=lh (show (prog.info? 45).map (·.size)=some (hArr hk' 32).size from by rw [hArr_size _ _ hk32 (by omega)];kernel_rfl)
    have HRk:=lh (show ∀ w',(∃ y:After wr,w'=y.v)->w'.rangeAt g (o+k*32) (hArr hk' 32).toList from by
     rintro _ ⟨y,rfl⟩ j z hj;rw [HAk.out] at hj
     exact (((HX1.out.trans HZ.out).trans y.x).cell hgl').trans (hrg' j z (by simpa using hj)))
    have HRi2:=lh (show ∀ w',(∃ y:After wr,w'=y.v)->w'.rangeAt g (o+i*32) (hArr h 32).toList from by
     rintro _ ⟨y,rfl⟩
     exact HRi.out _ ((HX1.out.trans HZ.out).trans y.x))
    have heq:=eq_hash hk' h hk32 HH32.out;obtain ⟨q,hq⟩:∃ q,q=decide (hk'=h):=⟨_,rfl⟩
    have HSm:=lh (show sameB N r.hs k i=(q&&decide (lenN N k=lenN N i)) from by
     unfold sameB;rw [hhk,HH.out,hq]
     congr 1
     rw [decide_eq_decide,Option.some.injEq])
    rw [<-hq] at heq;have HLk:=HLen k (by have:=HHi.out;omega);have HLi:=HLen i HHi.out;have q23:=After.cell k23;have hkn:(k:Int)<(n:Int):=by omega
    generalize hArr hk' 32=Ak at *;generalize hArr h 32=Ai at *;clear hq hhk hrg' hk32
    cases q with
    | false =>
     have HNo2:=lh (show ∀ j,j<k+1->sameB N r.hs j i=false from fun j hj=>by
      rcases Nat.lt_or_eq_of_le (Nat.le_of_lt_succ hj) with h1 | h1
      ·exact HNo.out j h1
      ·rw [h1,HSm.out];rfl)
     go_wp2_with fail;refine wp_region_after (by kernel_rfl) (by kernel_rfl) ?_
     iterate 4 go_big_quiet_step (fail)
     refine wpQuiet_load_at rfl 45 (.tmp 29) rfl g (o+k*32) rfl Ak _ HRk.out underlying45 rfl HZk.out ?_;go_frame
     iterate 4 go_big_quiet_step (fail)
     refine wpQuiet_load_at rfl 45 (.tmp 34) rfl g (o+i*32) rfl Ai _ HRi2.out underlying45 rfl HZi.out ?_;go_frame
     repeat (go_big_quiet_step (fail))
     refine wpQuiet_nil ?_;rintro _ ⟨y,rfl⟩;have HZy:=lh (HZ.out.trans y.x);clear q23 k23 heq;go_wp2_with fail;go_roundw
     case rel=>exact ⟨k+1,by omega,by go_num,HZy.out,HNo2.out⟩
     case measure=>simp [intOf] <;> omega
    | true =>
     have HLE:=lh (show sameB N r.hs k i=decide (lenN N k=lenN N i) from by rw [HSm.out,Bool.true_and]);generalize lenN N k=lk at *;generalize lenN N i=li at *;have HBqr:=lh (HBq.out wr HZ.out);by_cases hll:lk=li
     ·have e5:((lk:Int)==(li:Int))=true:=by rw [beq_iff_eq];omega
      have e6:(lk==li)=true:=by rw [beq_iff_eq];exact hll
      have HSR:=lh (show S=.agg #[.int .i64 i,.int .i64 3,.string ⟨#[]⟩,.int .i64 0,.int .i64 k] from by
       rw [HS2.out]
       have hf:(List.range i).find? (fun k=>sameB N r.hs k i)=some k:=by
        rw [List.find?_eq_some_iff_append];refine ⟨by rw [HLE.out];exact decide_eq_true hll,List.range k,(List.range' (k+1) (i - k - 1)),?_,fun j hj=>?_⟩
        ·have hik:i=k+(1+(i - k - 1)):=by omega
         rw [hik,List.range_eq_range',List.range_eq_range',<-List.range'_append_1,<-List.range'_append_1];simp
        ·have:=HNo.out j (List.mem_range.1 hj);rw [this];rfl
       rw [hf])
      clear hll HSm HLE;go_wp2_with fail;refine wp_region_after (by kernel_rfl) (by kernel_rfl) ?_
      iterate 4 go_big_quiet_step (fail)
      refine wpQuiet_load_at rfl 45 (.tmp 29) rfl g (o+k*32) rfl Ak _ HRk.out underlying45 rfl HZk.out ?_;go_frame
      iterate 4 go_big_quiet_step (fail)
      refine wpQuiet_load_at rfl 45 (.tmp 34) rfl g (o+i*32) rfl Ai _ HRi2.out underlying45 rfl HZi.out ?_;go_frame
      iterate 2 go_big_quiet_step (fail)
      refine wpQuiet_load_row_g ?_ 31 (.tmp 4) rfl w.heap.size rfl 31 C (0,0) _ HBqr.out underlying31 rfl HCz.out ?_
      ·simp [Region.wanted,yielded]
      go_frame;go_big_quiet_step (fail);go_big_quiet_step (exact After.of (HLk _).out);refine wpQuiet_load_row_g ?_ 31 (.tmp 4) rfl w.heap.size rfl 31 C (0,0) _ HBqr.out underlying31 rfl HCz.out ?_
      ·simp [Region.wanted,yielded]
      go_frame;go_big_quiet_step (fail);go_big_quiet_step (exact After.of (HLi _).out)
      repeat (go_big_quiet_step (fail))
      refine wpQuiet_nil ?_;rintro _ ⟨y,rfl⟩;have HZ:=lh (HZ.out.trans y.x);clear q23 k23 heq;have hbr:=(HZ.out.block (ltB HB8.out)).trans HB8.out;have k0:=cellB (k:=0) hbr;have k1:=cellB (k:=1) hbr;have k2:=cellB (k:=2) hbr;have k3:=cellB (k:=3) hbr;have k4:=cellB (k:=4) hbr;have f0:=frozenB (k:=0) hbr;have f1:=frozenB (k:=1) hbr;have f2:=frozenB (k:=2) hbr;have f3:=frozenB (k:=3) hbr;have f4:=frozenB (k:=4) hbr;have HRR:=lh hbr;clear hbr;go_wp2_with fail;refine bodyPost_ret (results_cell_row rfl _ _ (w.heap.size+1) 128 #[.int .i64 i,.int .i64 3,.string ⟨#[]⟩,.int .i64 0,.int .i64 k] (0,0) _ rfl (by rw [setCellB (setCellB (setCellB (setCellB (setCellB HRR.out))))];rfl) underlying128 rfl (by kernel_rfl)) rfl ?_;exact ⟨by rw [HSR.out],(((((HX1.out.trans HZ.out).setCell (p:=⟨w.heap.size+1,0,none⟩) (Nat.le_succ _) _).setCell (p:=⟨w.heap.size+1,1,none⟩) (Nat.le_succ _) _).setCell (p:=⟨w.heap.size+1,2,none⟩) (Nat.le_succ _) _).setCell (p:=⟨w.heap.size+1,3,none⟩) (Nat.le_succ _) _).setCell (p:=⟨w.heap.size+1,4,none⟩) (Nat.le_succ _) _⟩
     ·have e5:((lk:Int)==(li:Int))=false:=by rw [beq_eq_false_iff_ne];omega
      have e6:(lk==li)=false:=by rw [beq_eq_false_iff_ne];exact hll
      have HNo2:=lh (show ∀ j,j<k+1->sameB N r.hs j i=false from fun j hj=>by
       rcases Nat.lt_or_eq_of_le (Nat.le_of_lt_succ hj) with h1 | h1
       ·exact HNo.out j h1
       ·rw [h1,HLE.out];exact decide_eq_false hll)
      clear hll HSm HLE;go_wp2_with fail;refine wp_region_after (by kernel_rfl) (by kernel_rfl) ?_
      iterate 4 go_big_quiet_step (fail)
      refine wpQuiet_load_at rfl 45 (.tmp 29) rfl g (o+k*32) rfl Ak _ HRk.out underlying45 rfl HZk.out ?_;go_frame
      iterate 4 go_big_quiet_step (fail)
      refine wpQuiet_load_at rfl 45 (.tmp 34) rfl g (o+i*32) rfl Ai _ HRi2.out underlying45 rfl HZi.out ?_;go_frame
      iterate 2 go_big_quiet_step (fail)
      refine wpQuiet_load_row_g ?_ 31 (.tmp 4) rfl w.heap.size rfl 31 C (0,0) _ HBqr.out underlying31 rfl HCz.out ?_
      ·simp [Region.wanted,yielded]
      go_frame;go_big_quiet_step (fail);go_big_quiet_step (exact After.of (HLk _).out);refine wpQuiet_load_row_g ?_ 31 (.tmp 4) rfl w.heap.size rfl 31 C (0,0) _ HBqr.out underlying31 rfl HCz.out ?_
      ·simp [Region.wanted,yielded]
      go_frame;go_big_quiet_step (fail);go_big_quiet_step (exact After.of (HLi _).out)
      repeat (go_big_quiet_step (fail))
      refine wpQuiet_nil ?_;rintro _ ⟨y,rfl⟩;have HZy:=lh (HZ.out.trans y.x);clear q23 k23 heq;go_wp2_with fail;go_roundw
      case rel=>exact ⟨k+1,by omega,by go_num,HZy.out,HNo2.out⟩
      case measure=>simp [intOf] <;> omega
   ·obtain rfl:k=i:=by omega
    have nlt:decide ((k:Int)<(k:Int))=false:=by simp
    have HSR:=lh (show S=ansV N k (F h) from by
     rw [HS2.out]
     have hf:(List.range k).find? (fun j=>sameB N r.hs j k)=none:=by
      rw [List.find?_eq_none];intro j hj;rw [HNo.out j (List.mem_range.1 hj)];decide
     rw [hf,HH.out]
     rfl)
    have HRi2:=lh (HRi.out wr (HX1.out.trans HZ.out));have HF1:=HFd wr h (HX1.out.trans HZ.out) HH32.out;have HLi:=HLen k HHi.out;have HBr:=lh ((HZ.out.block (ltB HB4.out)).trans HB4.out);generalize hArr h 32=Ai at *;clear HS2 HNo HFd;go_wp2_with (refine wpList_load_at rfl 45 (.tmp 55) rfl g (o+k*32) rfl Ai _ HRi2.out underlying45 rfl HZi.out ?_;go_frame);refine HF1.out.mono ?_;intro e w5 h5;rcases h5 with ⟨hF0,rfl,x5⟩ | ⟨⟨pn,pk⟩,l,u5,hF1,rfl,ho5,x5⟩
    ·have HZ:=lh ((HZ.out.trans x5).alloc (.cells #[.string ⟨#[]⟩,.int .i64 0] 126));have HSR2:=lh (show S=.agg #[.int .i64 k,.int .i64 4,.string ⟨#[]⟩,.int .i64 0,.int .i64 0] from by rw [HSR.out,hF0];rfl);clear x5 HF1 k23 hF0;unfold plV;have hbr:=(HZ.out.block (ltB HB8.out)).trans HB8.out;have k0:=cellB (k:=0) hbr;have k1:=cellB (k:=1) hbr;have k2:=cellB (k:=2) hbr;have k3:=cellB (k:=3) hbr;have k4:=cellB (k:=4) hbr;have f0:=frozenB (k:=0) hbr;have f1:=frozenB (k:=1) hbr;have f2:=frozenB (k:=2) hbr;have f3:=frozenB (k:=3) hbr;have f4:=frozenB (k:=4) hbr;have HRR:=lh hbr;clear hbr;go_wp2_with fail;refine bodyPost_ret (results_cell_row rfl _ _ (w.heap.size+1) 128 #[.int .i64 k,.int .i64 4,.string ⟨#[]⟩,.int .i64 0,.int .i64 0] (0,0) _ rfl (by rw [setCellB (setCellB (setCellB (setCellB (setCellB HRR.out))))];rfl) underlying128 rfl (by kernel_rfl)) rfl ?_;exact ⟨by rw [HSR2.out],(((((HX1.out.trans HZ.out).setCell (p:=⟨w.heap.size+1,0,none⟩) (Nat.le_succ _) _).setCell (p:=⟨w.heap.size+1,1,none⟩) (Nat.le_succ _) _).setCell (p:=⟨w.heap.size+1,2,none⟩) (Nat.le_succ _) _).setCell (p:=⟨w.heap.size+1,3,none⟩) (Nat.le_succ _) _).setCell (p:=⟨w.heap.size+1,4,none⟩) (Nat.le_succ _) _⟩
    ·have x6:=x5.alloc (.cells #[.string pn,.int .i64 pk] 126);have HZ:=lh (HZ.out.trans x6);have HB5:=lh ((x6.block (ltB HBr.out)).trans HBr.out);have HRr:=lh (rangeAt_blk HB5.out);have HP5:=lh (block_alloc_new w5 (.cells #[.string pn,.int .i64 pk] 126 (0,0)));have HPz:=lh (show (prog.info? 126).map (·.size)=some (#[.string pn,.int .i64 pk]:Array Value).size from by kernel_rfl);obtain ⟨ua,uc,rfl,_,_,_,_⟩:=row_cells ho5;have HSR2:=lh (show S=if l.length=lenN N k then .agg #[.int .i64 k,.int .i64 2,.string pn,.int .i64 pk,.int .i64 0] else .agg #[.int .i64 k,.int .i64 4,.string ⟨#[]⟩,.int .i64 0,.int .i64 0] from by rw [HSR.out,hF1];rfl);clear x5 x6 HF1 k23 hF1 ho5;unfold plV;go_wp2_with (refine wpList_load_at_g (by simp [Region.wanted,yielded]) 31 _ rfl w.heap.size 0 rfl C _ HRr.out underlying31 rfl HCz.out ?_;go_frame);refine (HLi _).out.mono ?_;rintro e w6 ⟨rfl,x6⟩;have HP6:=lh ((x6.block (ltB HP5.out)).trans HP5.out);have HZ:=lh (HZ.out.trans x6);clear x6;have hbr:=(HZ.out.block (ltB HB8.out)).trans HB8.out;have k0:=cellB (k:=0) hbr;have k1:=cellB (k:=1) hbr;have k2:=cellB (k:=2) hbr;have k3:=cellB (k:=3) hbr;have k4:=cellB (k:=4) hbr;have f0:=frozenB (k:=0) hbr;have f1:=frozenB (k:=1) hbr;have f2:=frozenB (k:=2) hbr;have f3:=frozenB (k:=3) hbr;have f4:=frozenB (k:=4) hbr;have HRR:=lh hbr;clear hbr;by_cases hll:l.length=lenN N k
     ·have e5:((l.length:Int)==(lenN N k:Int))=true:=by rw [beq_iff_eq];omega
      have e6:(l.length==lenN N k)=true:=by rw [beq_iff_eq];exact hll
      have HSR3:=lh (show S=.agg #[.int .i64 k,.int .i64 2,.string pn,.int .i64 pk,.int .i64 0] from HSR2.out.trans (if_pos hll));clear HSR2;have HSR2:=HSR3;generalize lenN N k=lk at *;clear hll;go_wp2_with (refine wpList_load_row rfl 126 _ rfl w5.heap.size rfl 126 #[.string pn,.int .i64 pk] (0,0) _ HP6.out underlying126 rfl HPz.out ?_;go_frame);refine bodyPost_ret (results_cell_row rfl _ _ (w.heap.size+1) 128 #[.int .i64 k,.int .i64 2,.string pn,.int .i64 pk,.int .i64 0] (0,0) _ rfl (by rw [setCellB (setCellB (setCellB (setCellB (setCellB HRR.out))))];rfl) underlying128 rfl (by kernel_rfl)) rfl ?_;exact ⟨by rw [HSR2.out],(((((HX1.out.trans HZ.out).setCell (p:=⟨w.heap.size+1,0,none⟩) (Nat.le_succ _) _).setCell (p:=⟨w.heap.size+1,1,none⟩) (Nat.le_succ _) _).setCell (p:=⟨w.heap.size+1,2,none⟩) (Nat.le_succ _) _).setCell (p:=⟨w.heap.size+1,3,none⟩) (Nat.le_succ _) _).setCell (p:=⟨w.heap.size+1,4,none⟩) (Nat.le_succ _) _⟩
     ·have e5:((l.length:Int)==(lenN N k:Int))=false:=by rw [beq_eq_false_iff_ne];omega
      have e6:(l.length==lenN N k)=false:=by rw [beq_eq_false_iff_ne];exact hll
      have HSR3:=lh (show S=.agg #[.int .i64 k,.int .i64 4,.string ⟨#[]⟩,.int .i64 0,.int .i64 0] from HSR2.out.trans (if_neg hll));clear HSR2;have HSR2:=HSR3;generalize lenN N k=lk at *;clear hll;go_wp2_with fail;refine bodyPost_ret (results_cell_row rfl _ _ (w.heap.size+1) 128 #[.int .i64 k,.int .i64 4,.string ⟨#[]⟩,.int .i64 0,.int .i64 0] (0,0) _ rfl (by rw [setCellB (setCellB (setCellB (setCellB (setCellB HRR.out))))];rfl) underlying128 rfl (by kernel_rfl)) rfl ?_;exact ⟨by rw [HSR2.out],(((((HX1.out.trans HZ.out).setCell (p:=⟨w.heap.size+1,0,none⟩) (Nat.le_succ _) _).setCell (p:=⟨w.heap.size+1,1,none⟩) (Nat.le_succ _) _).setCell (p:=⟨w.heap.size+1,2,none⟩) (Nat.le_succ _) _).setCell (p:=⟨w.heap.size+1,3,none⟩) (Nat.le_succ _) _).setCell (p:=⟨w.heap.size+1,4,none⟩) (Nat.le_succ _) _⟩
def stepQ (N:Nat) (hs:List (List UInt8)) (t:List UInt8) (F:List UInt8->Option (Pl×List UInt8)) (i:Nat):Int×ByteArray×Int×Int :=
 if rightB N hs i (placedL N t i) then (1,⟨#[]⟩,0,0)
 else match (List.range i).find? fun k=>sameB N hs k i with
  | some k=>(3,⟨#[]⟩,0,k)
  | none=>match F (hs[i]?.getD []) with
   | some (p,l)=>if l.length=lenN N i then (2,p.1,p.2,0) else (4,⟨#[]⟩,0,0)
   | none=>(4,⟨#[]⟩,0,0)
def stepLF (N:Nat) (hs:List (List UInt8)) (t:List UInt8) (F:List UInt8->Option (Pl×List UInt8)) (i:Nat):List Value:=[.int .i64 i,.int .i64 (stepQ N hs t F i).1,.string (stepQ N hs t F i).2.1,.int .i64 (stepQ N hs t F i).2.2.1,.int .i64 (stepQ N hs t F i).2.2.2]
theorem stepVF_eq (N:Nat) (hs:List (List UInt8)) (t:List UInt8) (F:List UInt8->Option (Pl×List UInt8)) (i:Nat):stepVF N hs t F i=.agg #[.int .i64 i,.int .i64 (stepQ N hs t F i).1,.string (stepQ N hs t F i).2.1,.int .i64 (stepQ N hs t F i).2.2.1,.int .i64 (stepQ N hs t F i).2.2.2]:=by
 unfold stepVF stepQ;split
 ·rfl
 ·split
  ·rfl
  ·unfold ansV;split
   ·split <;> rfl
   ·rfl
def stepsLF (N:Nat) (hs:List (List UInt8)) (t:List UInt8) (F:List UInt8->Option (Pl×List UInt8)) (n:Nat):List Value:=(List.range n).flatMap fun i=>stepLF N hs t F i
def PlAtF (w0:World) (N:Nat) (hs:List (List UInt8)) (t:List UInt8) (F:List UInt8->Option (Pl×List UInt8)) (k:Nat) (v:Value) (wr:World):Prop :=
 wr.ownsRow (w0.heap.size+1) 128 5 v k (stepsLF N hs t F k)/\Ext w0 wr
set_option maxRecDepth 100000 in
set_option maxHeartbeats 2000000 in
theorem cplanF_ok (r:RecS) (C:Array Value) (bl:Value) (N:Nat) (t:List UInt8) (v:Value) (w:World) (T:ShaTabs w) (hC:RecC C r bl) (hb:HashesAt w bl r.hs) (G:r.Good N) (hv:BytesOff w.heap.size w v t) (fv:Value) (F:List UInt8->Option (Pl×List UInt8)) (HFn:∀ w' h,Ext w w'->h.length=32->Calls prog 78 #[fv,.agg (hArr h 32)] w' (FoundB F h w')) :
  Calls prog 74 #[.agg C,fv,v] w fun e w'=>∃ u,e=.returned (.tuple #[u,.int .i64 0])/\Hid (w'.ownsRow w.heap.size 128 5 u (countN N) (stepsLF N r.hs t F (countN N))/\Ext w w'):=by
 have HW:=fun w'=>lh (show Calls prog 145 #[.agg C] w' (fun e w''=>e=.returned (.int .i64 0)/\Ext w' w'') from by
  obtain ⟨a,cap,h,_⟩:=hb;rw [<-G.wanted]
  exact cwanted_any r C bl w' hC ⟨a,cap,h⟩ (by rw [G.size];omega) (by rw [G.size];have:=G.small;omega))
 have HSt:=fun wr (x:Ext w wr) (i:Nat) (hi:i<countN N)=>lh (cstepF_any r C bl N i t v w.heap.size wr (T.ext x) hC (hb.ext x) G hi (bytesOff_any hv x (Nat.le_refl _)) fv F (fun w' h y=>HFn w' h (x.trans y)));have hcn:=G.count;have hc32:=count_le G.small;obtain ⟨a,cap,rfl,hb1,hb2,_⟩:=hb;have HB:=lh (block_alloc_new w (.cells C 31 (0,0)));have HX:=lh ((Ext.refl w).alloc (.cells C 31));have HCz:=lh (show (prog.info? 31).map (·.size)=some C.size from by rw [hC.n];kernel_rfl);have HC:=lh hC;rw [hcn] at hb1;have HC23:=lh (show C[23]?=some (.slice a (countN N) cap) from by rw [<-hcn];exact hC.c23);have HSS:=lh (show ∀ n,stepsLF N r.hs t F (n+1)=stepsLF N r.hs t F n++stepLF N r.hs t F n from fun n=>by simp [stepsLF,List.range_succ]);generalize countN N=c at *;clear T hC hv G hcn HFn;go_enter func74,ntmps74;go_wp2_with (refine wpList_load_row rfl 31 (.tmp 3) rfl w.heap.size rfl 31 C (0,0) _ HB.out underlying31 rfl HCz.out ?_;go_frame);refine (HW _).out.mono ?_;rintro e w1 ⟨rfl,x1⟩;have HX1:=lh (HX.out.trans x1);have HB1:=lh ((x1.block (ltB HB.out)).trans HB.out);have k23:w1.cell? ⟨w.heap.size,23,none⟩=some (.slice a c cap):=(cellB (k:=23) HB1.out).trans HC23.out;clear x1 HW;go_wp2_with fail;go_loopw [6,18] (fun lv iv wr=>Hid (∃ k:Nat,k<=c/\iv=.int .i64 k/\PlAtF w N r.hs t F k lv wr/\wr.heap[w.heap.size]?=some (.cells C 31 (0,0)))) (fun _ iv _=>c - (intOf iv).toNat)
 case atStart=>exact ⟨0,Nat.zero_le _,rfl,⟨World.ownsRow_nil _ _ _ _,HX1.out⟩,HB1.out⟩
 case round =>
  obtain ⟨k,hk,rfl,⟨ho,hx⟩,hB⟩:=hrel.out;clear hrel k23 HX1 HB1;have HX:=lh hx;have HO:=lh ho;have HBr:=lh hB;obtain ⟨oa,ocap,rfl⟩:=rowk_shape ho;by_cases hlt:k<c
  ·have HS:=HSt wr hx k hlt;have HR:=lh (show stepsLF N r.hs t F (k+1)=stepsLF N r.hs t F k++[.int .i64 k,.int .i64 (stepQ N r.hs t F k).1,.string (stepQ N r.hs t F k).2.1,.int .i64 (stepQ N r.hs t F k).2.2.1,.int .i64 (stepQ N r.hs t F k).2.2.2] from HSS.out k);rw [stepVF_eq] at HS;generalize (stepQ N r.hs t F k).1=p1 at *;generalize (stepQ N r.hs t F k).2.1=q1 at *;generalize (stepQ N r.hs t F k).2.2.1=q2 at *;generalize (stepQ N r.hs t F k).2.2.2=p2 at *;clear ho hx hB HSt;go_wp2_with (refine wpList_load_row rfl 31 (.tmp 3) rfl w.heap.size rfl 31 C (0,0) _ HBr.out underlying31 rfl HCz.out ?_;go_frame);refine HS.out.mono ?_;rintro e w3 ⟨rfl,x3⟩;have HX3:=lh (HX.out.trans x3);have HO3:=lh (owns_ext HO.out x3);have HB3:=lh ((x3.block (ltB HBr.out)).trans HBr.out);have hsz:=HX3.out.size;have hlb:=ltB HB3.out;clear x3 HS HO HX;go_wp2_with (at_builtin;refine append_k elStep (w.heap.size+1) _ _ _ (HO3.out.alloc _) w3.heap.size [.int .i64 k,.int .i64 p1,.string q1,.int .i64 q2,.int .i64 p2] rfl (.tmp 21) (.tmp 27) rfl rfl rfl rfl ?c1 ?c2 (by omega) (by simp;omega) ?_)
   case c1 =>
    intro j y hj;rw [cell_alloc_new rfl,<-hj];simp
   case c2 =>
    intro y hy;simp only [List.mem_cons,List.not_mem_nil,or_false] at hy;rcases hy with rfl | rfl | rfl | rfl | rfl <;> rfl
   intro v' w4 hown4 hg4 hrow4;have HF:=lh (show PlAtF w N r.hs t F (k+1) v' w4 from ⟨by rw [HR.out];exact hown4,grown_extB (HX3.out.alloc _) (Nat.le_succ _) (HO3.out.alloc _) hg4⟩);have HB4:=lh (show w4.heap[w.heap.size]?=some (.cells C 31 (0,0)) from (hg4.block w.heap.size (by simp;omega) (fun e=>by have:=(HO3.out.lt _ e.symm).1;omega)).trans ((block_alloc_old hlb).trans HB3.out));clear hown4 hg4 hrow4;go_wp2_with fail;go_roundw
   case rel=>exact ⟨k+1,by omega,by go_num,HF.out,HB4.out⟩
   case measure=>simp [intOf] <;> omega
  ·obtain rfl:k=c:=by omega
   have nlt:decide ((k:Int)<(k:Int))=false:=by simp
   clear ho hx hB HSt;go_wp2_with fail;go_ret2;exact ⟨_,rfl,owns_low HO.out (Nat.le_succ _),HX.out⟩
end
section
open Go.RowKit Go.Shelf
def openP (N:Nat) (hs:List (List UInt8)) (t:List UInt8) (F:List UInt8->Option (Pl×List UInt8)):Nat->List (Option (List UInt8))
 | 0=>List.replicate (countN N) none
 | k+1=>if rightB N hs k (placedL N t k)=true then fillP N hs k (placedL N t k) (openP N hs t F k)
  else match (List.range k).find? fun j=>sameB N hs j k with
   | some _=>openP N hs t F k
   | none=>match F (hs[k]?.getD []) with
    | some (_,l)=>if l.length=lenN N k/\rightB N hs k l=true then fillP N hs k l (openP N hs t F k) else openP N hs t F k
    | none=>openP N hs t F k
theorem stepLF_len (N:Nat) (hs:List (List UInt8)) (t:List UInt8) (F:List UInt8->Option (Pl×List UInt8)) (k:Nat):(stepLF N hs t F k).length=5:=rfl
theorem stepsLF_get {N c k j:Nat} {hs:List (List UInt8)} {t:List UInt8} {F:List UInt8->Option (Pl×List UInt8)} {u:Value} (hk:k<c) (hj:(stepLF N hs t F k)[j]?=some u):(stepsLF N hs t F c)[k*5+j]?=some u:=by
 have hj5:j<5:=(List.getElem?_eq_some_iff.1 hj).1
 have hlen:∀ n,(stepsLF N hs t F n).length=n*5:=fun n=>by
  induction n with
  | zero=>rfl
  | succ n ih =>
   rw [show stepsLF N hs t F (n+1)=stepsLF N hs t F n++stepLF N hs t F n from by simp [stepsLF,List.range_succ],List.length_append,ih,stepLF_len];omega
 induction c with
 | zero=>omega
 | succ c ih =>
  rw [show stepsLF N hs t F (c+1)=stepsLF N hs t F c++stepLF N hs t F c from by simp [stepsLF,List.range_succ]];by_cases h:k=c
  ·subst h;rw [List.getElem?_append_right (by rw [hlen];omega),hlen,Nat.add_sub_cancel_left];exact hj
  ·rw [List.getElem?_append_left (by rw [hlen];omega)];exact ih (by omega)
set_option maxRecDepth 100000 in
set_option maxHeartbeats 4000000 in
theorem openF_ok (root:ByteArray) (r:RecS) (C:Array Value) (bl:Value) (N:Nat) (w:World) (hC:RecC C r bl) (G:r.Good N) (hb:HashesAt w bl r.hs) (hsh:∃ a n c,bl=.slice a n c/\(a=none\/∃ g o,a=some ⟨g,o,none⟩)) (E:Env w) (T:ShaTabs w) (hs:r.path.size<4294967281) (hr:root.size<=2147483648) (hp:placeB root r.path=true)
  (d:Nat) (M I:List Nat) (K:Dk) (hd:DkAt w d M I K) (hdt:(readE K.live (placeS root r.path)).1.data.size<=1048576)
  (fv:Value) (F:List UInt8->Option (Pl×List UInt8)) (hFl:∀ h p l,F h=some (p,l)->l.length<=1048576) (HFn:∀ w' h,Ext w w'->h.length=32->Calls prog 78 #[fv,.agg (hArr h 32)] w' (FoundB F h w')) :
  Calls prog 15 #[.pointer (some ⟨d,0,none⟩),.string root,.agg C,fv] w fun e w'=>∃ p g D cs u J,e=.returned (.tuple #[.pointer (some ⟨p,0,none⟩),.int .i64 0])/\Hid (Ext w w'/\DrIn w' p g D cs u J r N (placeS root r.path) (openP N r.hs (readE K.live (placeS root r.path)).1.data.toList F (countN N))/\w.heap.size<=g/\∀ b∈J,w.heap.size<=b):=by
 have HX:=lh ((Ext.refl w).alloc (.cells C 31));have HPl:=lh (place_any root r.path _ hs hr (E.ext HX.out) (T.ext HX.out));rw [hp] at HPl
 have hnz:(placeS root r.path).size<4294967281:=by
  have:=tempR_le r.path;unfold placeS;simp only [ByteArray.size_append,size_mk];simp;omega
 have HRd:=fun w' (x:Ext w w')=>lh (Read_any (hd.ext x) (E.ext x) (placeS root r.path) hnz);unfold nv at HRd;have HPn:=fun w' v t (x:Ext w w') (hv:BytesOff w'.heap.size w' v t)=>lh (cplanF_ok r C bl N t v w' (T.ext x) hC (hb.ext x) G hv fv F (fun w2 h y=>HFn w2 h (x.trans y)));have HFd:=fun w' h (x:Ext w w') (hh:h.length=32)=>lh (HFn w' h x hh);have HTx:=lh (fun w' (x:Ext w w')=>T.ext x)
 have HNe:=lh (show (placeS root r.path).toList.isEmpty=false from by
  rw [List.isEmpty_eq_false_iff];intro e;have:=congrArg List.length e;rw [len_toList] at this;unfold placeS at this;simp only [ByteArray.size_append,size_mk] at this
  simp at this)
 have HFl:=lh hFl;have hc32:=count_le G.small;have hcn:=G.count;have HCl:=fun w' (x:Ext w w')=>lh (cloneHashes_any r.hs bl w' (hb.ext x) (by omega) hsh);have hB:=block_alloc_new w (.cells C 31 (0,0));have HB:=lh hB;have k0:=(cellB (k:=0) hB).trans hC.c0;have HCz:=lh (show (prog.info? 31).map (·.size)=some C.size from by rw [hC.n];kernel_rfl);have HC:=lh hC;have HG:=lh G;have HC23:=lh hC.c23;obtain ⟨ba,bn,bc,rfl,_⟩:=hsh;generalize placeS root r.path=name at *;generalize (readE K.live name).1=nd at *;generalize (readE K.live name).2=z at *;obtain ⟨nk,ndt,nt,ntm⟩:=nd;have HDt:=lh hdt;obtain ⟨c,hcc⟩:∃ c,c=countN N:=⟨_,rfl⟩;have HCc:=lh hcc;rw [<-hcc] at HPn hc32 hcn;clear hC E T hs hr hp hnz hB hd hb hdt hcc G HFn hFl;go_enter func15,ntmps15;go_wp2_with fail;refine HPl.out.mono ?_;rintro e w1 ⟨rfl,x1⟩;have HX1:=lh (HX.out.trans x1);have HB1:=lh ((x1.block (ltB HB.out)).trans HB.out);clear x1 HPl k0;go_wp2_with fail;refine (HRd _ HX1.out).out.mono ?_;rintro e w2 ⟨rfl,x2⟩;have HX2:=lh ((HX1.out.trans x2).alloc (.cells #[.int .i64 nk,.string ndt,.string nt,.int .i64 ntm] 57));have HB2:=lh (((x2.alloc (.cells #[.int .i64 nk,.string ndt,.string nt,.int .i64 ntm] 57)).block (ltB HB1.out)).trans HB1.out);have HW2:=lh (show w.heap.size<w2.heap.size from ltB ((x2.block (ltB HB1.out)).trans HB1.out));have HNd:=lh (block_alloc_new w2 (.cells #[.int .i64 nk,.string ndt,.string nt,.int .i64 ntm] 57 (0,0)));obtain ⟨cv,wc,hcv,hbo,xc⟩:=conv_bytes ndt (w2.alloc (.cells #[.int .i64 nk,.string ndt,.string nt,.int .i64 ntm] 57)) HDt.out;have HXc:=lh (HX2.out.trans xc);have HBc:=lh ((xc.block (ltB HB2.out)).trans HB2.out);have HNc:=lh ((xc.block (ltB HNd.out)).trans HNd.out);have HPc:=HPn wc cv _ HXc.out hbo;clear x2 HRd HPn hbo xc;go_wp2_with (refine wpList_load_row rfl 31 (.tmp 6) rfl w.heap.size rfl 31 C (0,0) _ HB2.out underlying31 rfl HCz.out ?_;go_frame);refine HPc.out.mono ?_;rintro e w4 ⟨sv,rfl,h4⟩;have H4:=h4;obtain ⟨sa,scap,rfl⟩:=rowk_shape h4.out.1;have HX4:=lh (HXc.out.trans h4.out.2);have HB4:=lh ((h4.out.2.block (ltB HBc.out)).trans HBc.out);have HN4:=lh ((h4.out.2.block (ltB HNc.out)).trans HNc.out);have k23:=(cellB (k:=23) HB4.out).trans HC23.out;have HC4:=HCl _ HX4.out;clear h4 HPc hcv HCl;go_wp2_with fail;refine HC4.out.mono ?_;rintro e w5 ⟨u,rfl,h5⟩;have H5:=h5;have HX5:=lh (HX4.out.trans h5.out.1);have hb5:=(h5.out.1.block (ltB HB4.out)).trans HB4.out;have HB5:=lh hb5;have k23':=(cellB (k:=23) hb5).trans HC23.out;have f23':=frozenB (k:=23) hb5
 obtain ⟨ua,un,uc,hu⟩:∃ a n c,u=.slice a n c:=by
  rcases h5.out.2.2.2 with h | ⟨_,_,h⟩
  ·exact ⟨_,_,_,h⟩
  ·exact ⟨_,_,_,h⟩
 subst hu;clear h5 HC4 k23 hb5;go_wp2_with fail;obtain ⟨W6,hW6⟩:∃ W6,W6=w5.setCell ⟨w.heap.size,23,none⟩ (.slice ua un uc):=⟨_,rfl⟩;have HX6:=lh (show Ext w W6 from hW6▸HX5.out.setCell (Nat.le_refl _) _);have HB6:=lh (show W6.heap[w.heap.size]?=some (.cells (C.setIfInBounds 23 (.slice ua un uc)) 31 (0,0)) from hW6▸setCellB HB5.out);have HC2:=lh (HC.out.turned (u:=.slice ua un uc));have HO6:=lh (show ∀ b,b≠w.heap.size->W6.heap[b]?=w5.heap[b]? from fun b hb=>hW6▸setCellO hb);have HS6:=lh (show w5.heap.size<=W6.heap.size from by rw [hW6];simp);rw [<-hW6];have hmk:=mkParts W6.drew c (by omega);clear hW6 k23' f23'
 have HQ6:=lh (show ∀ w',(∃ y:After W6,w'=y.v)->w'.heap[w.heap.size]?=some (.cells (C.setIfInBounds 23 (.slice ua un uc)) 31 (0,0)) from by
  rintro _ ⟨y,rfl⟩
  exact (y.x.block (ltB HB6.out)).trans HB6.out)
 have HC2z:=lh (show (prog.info? 31).map (·.size)=some (C.setIfInBounds 23 (.slice ua un uc)).size from by rw [HC2.out.n];kernel_rfl);generalize C.setIfInBounds 23 (.slice ua un uc)=C2 at *
 obtain ⟨Bs,hBs1,hBs2⟩:∃ Bs:List Nat,(∀ b∈Bs,w.heap.size<=b/\b<w5.heap.size)/\∀ b o n c,(.slice ua un uc:Value)=.slice (some ⟨b,o,none⟩) n c->b∈Bs:=by
  have h:=H5.out.2.2.1;have hx:=HX4.out.size
  match ua,h with
  | none,_=>exact ⟨[],fun b hb=>(by cases hb),fun b o n c e=>(by cases e)⟩
  | some ⟨b,o,s⟩,h =>
   refine ⟨[b],fun b' hb=>?_,fun b' o' n c e=>by cases e;simp⟩;obtain rfl:=List.mem_singleton.1 hb;rcases H5.out.2.2.2 with e | ⟨g',c',e⟩
   ·cases e
   ·cases e
    have:=h b' 0 _ _ rfl;exact ⟨by omega,this.2⟩
 have HBs:=lh (And.intro hBs1 hBs2);clear hBs1 hBs2;have hW6s:w5.heap.size<=W6.heap.size:=HS6.out;obtain ⟨g,hg⟩:∃ g,g=W6.heap.size:=⟨_,rfl⟩;have HGq:=lh hg;refine wp_region_held (S:=fun w'=>w'.heap[w.heap.size]?=some (.cells C2 31 (0,0))) (by kernel_rfl) ?_;change wpAnyH _ _ _ _ _ _ _ _ (World.drew _);have s0:=HQ6.out _ ⟨⟨W6.drew,(Ext.refl W6).drew⟩,rfl⟩;refine wpAnyH_takeL (i:=0) (v:=.agg C2) rfl (by kernel_rfl) (by kernel_rfl) (by kernel_rfl) (fun _ _ _ h=>h) (yieldsIf_load_row rfl 31 (.tmp 6) rfl w.heap.size rfl 31 C2 (0,0) _ (fun _ h=>h) underlying31 rfl HC2z.out) s0 ?_;go_frame;refine wpAnyH_takeL (i:=1) (v:=.agg C2) rfl (by kernel_rfl) (by kernel_rfl) (by kernel_rfl) (fun _ _ _ h=>h) (yieldsIf_build rfl _ _ rfl C2 (built_wanted HC2.out.n)) s0 ?_;go_frame;refine wpAnyH_takeL (i:=2) (v:=.string name) rfl (by kernel_rfl) (by kernel_rfl) (by kernel_rfl) (fun _ _ _ h=>h) (yieldsIf_move rfl _ rfl rfl) s0 ?_;go_frame;refine wpAnyH_takeL (i:=3) (v:=.slice sa c scap) rfl (by kernel_rfl) (by kernel_rfl) (by kernel_rfl) (fun _ _ _ h=>h) (yieldsIf_move rfl _ rfl rfl) s0 ?_;go_frame;refine wpAnyH_takeL (i:=4) (v:=.int .i64 c) rfl (by kernel_rfl) (by kernel_rfl) (by kernel_rfl) (fun _ _ _ h=>h) (Or.inl ⟨rfl,fun w' _=>by go_simp⟩) s0 ?_;go_frame;have s1:(W6.drew.alloc (.cells (Array.replicate c (.slice none 0 0)) 22)).heap[w.heap.size]?=some (.cells C2 31 (0,0)):=(block_alloc_old (ltB s0)).trans s0;refine wpAnyH_one (i:=5) (by kernel_rfl) rfl rfl (run_makeOp _ _ _ rfl _ _ _ hmk) s1 ?_;go_frame;refine wpAnyH_takeL (i:=6) (v:=.agg (C2++#[.string name,.slice (some ⟨W6.drew.heap.size,0,none⟩) c c])) rfl (by kernel_rfl) (by kernel_rfl) (by kernel_rfl) (fun _ _ _ h=>h) (yieldsIf_build rfl _ _ rfl _ (built_draft HC2.out.n _ _ _ _)) s1 ?_;go_frame;have s2:((W6.drew.alloc (.cells (Array.replicate c (.slice none 0 0)) 22)).alloc (.cells (C2++#[.string name,.slice (some ⟨W6.drew.heap.size,0,none⟩) c c]) 118)).heap[w.heap.size]?=some (.cells C2 31 (0,0)):=(block_alloc_old (ltB s1)).trans s1;refine wpAnyH_one (i:=7) (by kernel_rfl) rfl rfl (run_boxOp _ _ rfl _ (C2++#[.string name,.slice (some ⟨W6.drew.heap.size,0,none⟩) c c]) rfl) s2 ?_;go_frame;refine wpAnyH_takeL (i:=8) (v:=.pointer (some ⟨W6.heap.size+1,0,none⟩)) rfl (by kernel_rfl) (by kernel_rfl) (by kernel_rfl) (fun _ _ _ h=>h) (yieldsIf_assign rfl _ rfl (by rw [show W6.heap.size+1=(W6.drew.alloc (.cells (Array.replicate c (.slice none 0 0)) 22)).heap.size from (size_alloc _ _).symm];rfl)) s2 ?_;go_frame;refine wpAnyH_done (by kernel_rfl) ?_ _;obtain ⟨W8,hW8⟩:∃ W8,W8=(W6.drew.alloc (.cells (Array.replicate c (.slice none 0 0)) 22)).alloc (.cells (C2++#[.string name,.slice (some ⟨W6.drew.heap.size,0,none⟩) c c]) 118):=⟨_,rfl⟩;have hds:W6.drew.heap.size=W6.heap.size:=rfl;rw [hds] at hW8 s2 ⊢;rw [show (W6.drew.alloc (.cells (Array.replicate c (.slice none 0 0)) 22)).heap.size=W6.heap.size+1 from by rw [size_alloc,hds]];rw [<-hW8] at s2 ⊢;have hx68:Ext W6 W8:=hW8▸((Ext.refl W6).drew.alloc _).alloc _;have HX8:=lh (HX6.out.trans hx68)
 have hp8:W8.heap[W6.heap.size+1]?=some (.cells (C2++#[.string name,.slice (some ⟨W6.heap.size,0,none⟩) c c]) 118 (0,0)):=by
  rw [hW8,show W6.heap.size+1=(W6.drew.alloc (.cells (Array.replicate c (.slice none 0 0)) 22)).heap.size from (size_alloc _ _).symm];exact block_alloc_new _ _
 have hg8:W8.heap[W6.heap.size]?=some (.cells (Array.replicate c (.slice none 0 0)) 22 (0,0)):=by
  rw [hW8,block_alloc_old (by rw [size_alloc];exact Nat.lt_succ_self _)];exact block_alloc_new W6.drew _
 have hz8:W8.heap.size=W6.heap.size+2:=by rw [hW8,size_alloc,size_alloc,hds]
 have hxs:=HX5.out.size;have hx4s:=HX4.out.size;have h45:=H5.out.1.size
 have HHs:=lh (show HashesAt W8 (.slice ua un uc) r.hs from H5.out.2.1.kept (by omega) fun b o n c' e hb=>by
  have:=H5.out.2.2.1 b o n c' e;have hw:w.heap.size<w4.heap.size:=ltB HB4.out
  rw [hx68.block (by omega),HO6.out b (by omega)])
 have HN8:=lh (show W8.heap[w2.heap.size]?=some (.cells #[.int .i64 nk,.string ndt,.string nt,.int .i64 ntm] 57 (0,0)) from by
  have h5:=(H5.out.1.block (ltB HN4.out)).trans HN4.out;have hw:w.heap.size<w2.heap.size:=by have:=ltB HB1.out;have:=HX1.out.size;have:=HB2.out;have:=HW2.out;omega
  rw [hx68.block (by have:=ltB h5;omega),HO6.out _ (by omega),h5])
 have HStep:=lh (show ∀ wr,Chg [W6.heap.size] W8 wr->∀ k,k<c->∃ gs,sa=some ⟨gs,0,none⟩/\wr.rangeAt gs (k*5) (stepLF N r.hs ndt.toList F k) from fun wr x k hk=>by
  rcases H4.out.1.2 with ⟨_,h0⟩ | ⟨gs,cap',cur,he,hgs,hh,_⟩
  ·omega
  ·cases he
   refine ⟨gs,rfl,fun j u hj=>?_⟩;have hlt:=ltB hh;have hlo:w.heap.size<wc.heap.size:=ltB HBc.out
   have hblk:wr.heap[gs]?=w4.heap[gs]?:=by
    rw [x.block gs (by omega) (by simp;omega),hx68.block (by omega),HO6.out gs (by omega),H5.out.1.block hlt]
   have:=H4.out.1.cells (g:=gs) rfl (k*5+j) u (stepsLF_get hk hj);rw [append_kw.add_off,Nat.zero_add] at this;unfold World.cell? at this ⊢
   rw [hblk];exact this)
 have HD8:=lh (show DrIn W8 (W6.heap.size+1) W6.heap.size (C2++#[.string name,.slice (some ⟨W6.heap.size,0,none⟩) c c]) (Array.replicate c (.slice none 0 0)) (.slice ua un uc) ((W6.heap.size+1)::Bs) r N name (openP N r.hs ndt.toList F 0) from by
  have hc:=HCc.out;subst hc;refine DrIn.new HG.out HC2.out hp8 hg8 HHs.out (fun b o n c' e=>List.mem_cons_of_mem _ (HBs.out.2 b o n c' e)) (fun b hb=>?_) List.mem_cons_self;rcases List.mem_cons.1 hb with rfl | hb
  ·exact ⟨by omega,by omega⟩
  ·have:=HBs.out.1 b hb
   exact ⟨by omega,by omega⟩)
 have HJ8:=lh (show ∀ b∈(W6.heap.size+1)::Bs,w.heap.size<=b from fun b hb=>by
  rcases List.mem_cons.1 hb with rfl | hb
  ·omega
  ·exact (HBs.out.1 b hb).1)
 have hgw2:w2.heap.size<W6.heap.size:=by have:=ltB HN4.out;omega
 have hgw:w.heap.size<W6.heap.size:=by have:=HW2.out;omega
 obtain ⟨D8,hD8⟩:∃ D8,D8=C2++#[.string name,.slice (some ⟨W6.heap.size,0,none⟩) c c]:=⟨_,rfl⟩;rw [<-hD8] at HD8;have HB8:=lh s2;clear hp8 hg8 s0 s1 s2 hW8 hD8 hds hxs hx4s h45 HO6 HQ6 hmk hx68 hW6s HS6;generalize W6.heap.size=g at *;go_wp2_with fail;go_loopw [66] (fun iv wr=>Hid (∃ k:Nat,k<=c/\iv=.int .i64 k/\Chg [g] W8 wr/\∃ cs J,DrIn wr (g+1) g D8 cs (.slice ua un uc) J r N name (openP N r.hs ndt.toList F k)/\∀ b∈J,w.heap.size<=b)) (fun iv _=>c - (intOf iv).toNat)
 case atStart=>exact ⟨0,Nat.zero_le _,rfl,Chg.refl _ _,_,_,HD8.out,HJ8.out⟩
 case round =>
  obtain ⟨k,hk,rfl,hx,cs,J,hd,hJ⟩:=hrel.out;clear hrel;have HX:=lh hx;have HDk:=lh hd;have HJk:=lh hJ;by_cases hlt:k<c
  ·obtain ⟨gs,rfl,hrg⟩:=HStep.out wr hx k hlt;have HSz:=lh (show ∀ a b c d e:Value,(prog.info? 128).map (·.size)=some (#[a,b,c,d,e]:Array Value).size from fun _ _ _ _ _=>by kernel_rfl);by_cases hr:rightB N r.hs k (placedL N ndt.toList k)=true
   ·rw [show stepLF N r.hs ndt.toList F k=[.int .i64 k,.int .i64 1,.string ⟨#[]⟩,.int .i64 0,.int .i64 0] from by unfold stepLF stepQ;rw [if_pos hr]] at hrg;have HRg:=lh hrg;have hbk:=(hx.block w.heap.size (ltB HB8.out) (by simp only [List.mem_singleton];omega)).trans HB8.out;have HBk:=lh hbk;have HNk:=lh ((hx.block w2.heap.size (ltB HN8.out) (by simp only [List.mem_singleton];omega)).trans HN8.out);have k22:=(cellB (k:=22) hbk).trans HC2.out.c22;rw [HG.out.bs] at k22;obtain ⟨sz,hsz⟩:∃ sz,sz=sizeN N:=⟨_,rfl⟩;have HSzN:=lh hsz;rw [<-hsz] at k22;have k22:(wr.alloc (.cells #[.int .i64 k,.int .i64 1,.string ⟨#[]⟩,.int .i64 0,.int .i64 0] 128)).cell? ⟨w.heap.size,22,none⟩=some (.int .i64 sz):=(((Ext.refl wr).alloc _).cell (lt_of_cell k22)).trans k22;obtain ⟨m,hm⟩:∃ m,m=k*sz:=⟨_,rfl⟩;have HM:=lh hm
    have hmN:m<N:=by
     have:=(count_spec N k).1 (by rw [<-HCc.out];exact hlt);rw [hm,hsz];exact this
    have hNs:=HG.out.small
    have q1:IntKind.i64.wrap ((k:Int)*(sz:Int))=(m:Int):=by
     rw [<-Int.natCast_mul,<-hm];exact IntWalk.i64_in _ (by omega)
    clear hrg hx hd hJ hbk hm hsz;go_wp2_with (refine wpList_load_at rfl 128 (.tmp 69) rfl gs (k*5) rfl #[.int .i64 k,.int .i64 1,.string ⟨#[]⟩,.int .i64 0,.int .i64 0] _ HRg.out underlying128 rfl (HSz.out _ _ _ _ _) ?_;go_frame);obtain ⟨Wa,hWa⟩:∃ Wa,Wa=wr.alloc (.cells #[.int .i64 k,.int .i64 1,.string ⟨#[]⟩,.int .i64 0,.int .i64 0] 128):=⟨_,rfl⟩;have hxa:Ext wr Wa:=hWa▸(Ext.refl wr).alloc _;rw [<-hWa];have HBa:=lh ((hxa.block (ltB HBk.out)).trans HBk.out);have HNa:=lh ((hxa.block (ltB HNk.out)).trans HNk.out);have HDa:=lh (HDk.out.ext hxa);have HXa:=lh (HX.out.trans_ext hxa);have hla:lenN N k<=128:=lenN_le N k;obtain ⟨hln1,hln2⟩:=placed_some hr (by rw [<-HCc.out];exact hlt);rw [<-HSzN.out,<-HM.out] at hln1 hln2
    have HLn:=fun w'=>lh (show Calls prog 77 #[.agg C2,.int .i64 k] w' (fun e w''=>e=.returned (.int .i64 (lenN N k:Nat))/\Ext w' w'') from by
     rw [<-HG.out.len (by rw [<-HCc.out];exact hlt)];obtain ⟨a,cap,hb,_⟩:=HHs.out
     exact clength_any r _ _ k w' HC2.out ⟨a,cap,hb⟩ (by rw [HG.out.size];omega) (by rw [HG.out.size];omega))
    obtain ⟨ln,hl⟩:∃ ln,ln=lenN N k:=⟨_,rfl⟩;have HL:=lh hl;rw [<-hl] at hla hln1 hln2 HLn
    have q2:IntKind.i64.wrap ((m:Int)+(ln:Int))=((m+ln:Nat):Int):=by
     rw [<-Int.natCast_add];exact IntWalk.i64_in _ (by omega)
    have hsz2:ndt.toList.length=ndt.size:=len_toList _;clear hWa hxa k22 hl q1;refine wp_region_held (S:=fun w'=>Chg [g] Wa w') (by kernel_rfl) ?_;change wpAnyH _ _ _ _ _ _ _ _ (World.drew _);have sS:Chg [g] Wa Wa.drew:=(Ext.refl Wa).drew.chg [g];refine wpAnyH_takeL (i:=0) (v:=.pointer (some ⟨g+1,0,none⟩)) rfl (by kernel_rfl) (by kernel_rfl) (by kernel_rfl) (fun _ _ _ h=>h) (yieldsIf_move rfl _ rfl rfl) sS ?_;go_frame;refine wpAnyH_takeL (i:=1) (v:=.int .i64 k) rfl (by kernel_rfl) (by kernel_rfl) (by kernel_rfl) (fun _ _ _ h=>h) (yieldsIf_move rfl _ rfl rfl) sS ?_;go_frame;refine wpAnyH_takeL (i:=2) (v:=.pointer (some ⟨w2.heap.size,1,none⟩)) rfl (by kernel_rfl) (by kernel_rfl) (by kernel_rfl) (fun _ _ _ h=>h) (Or.inl ⟨rfl,fun w' _=>by go_simp⟩) sS ?_;go_frame
    refine wpAnyH_takeL (i:=3) (v:=.string ndt) rfl (by kernel_rfl) (by kernel_rfl) (by kernel_rfl) (fun _ _ _ h=>h) (Or.inl ⟨rfl,fun w' hw'=>by
     have hc:w'.cell? ⟨w2.heap.size,1,none⟩=some (.string ndt):=cellB (k:=1) ((hw'.block _ (ltB HNa.out) (by simp only [List.mem_singleton];omega)).trans HNa.out)
     go_simp⟩) sS ?_
    go_frame;refine wpAnyH_takeL (i:=4) (v:=.int .i64 m) rfl (by kernel_rfl) (by kernel_rfl) (by kernel_rfl) (fun _ _ _ h=>h) (yieldsIf_move rfl _ rfl rfl) sS ?_;go_frame;refine wpAnyH_takeL (i:=5) (v:=.int .i64 m) rfl (by kernel_rfl) (by kernel_rfl) (by kernel_rfl) (fun _ _ _ h=>h) (yieldsIf_move rfl _ rfl rfl) sS ?_;go_frame;refine wpAnyH_takeL (i:=6) (v:=.agg C2) rfl (by kernel_rfl) (by kernel_rfl) (by kernel_rfl) (fun _ _ _ h=>h) (yieldsIf_load_row rfl 31 (.tmp 6) rfl w.heap.size rfl 31 C2 (0,0) _ (fun w' hw'=>(hw'.block _ (ltB HBa.out) (by simp only [List.mem_singleton];omega)).trans HBa.out) underlying31 rfl HC2z.out) sS ?_;go_frame;refine wpAnyH_takeL (i:=7) (v:=.int .i64 k) rfl (by kernel_rfl) (by kernel_rfl) (by kernel_rfl) (fun _ _ _ h=>h) (yieldsIf_move rfl _ rfl rfl) sS ?_;go_frame;refine wpAnyH_call (i:=8) (F:=77) (args:=#[.agg C2,.int .i64 k]) (by kernel_rfl) rfl rfl (by go_simp) ?_;refine (HLn _).out.mono ?_;rintro e wb ⟨rfl,xb⟩;have sB:Chg [g] Wa wb:=sS.trans_ext xb;refine ⟨_,rfl,sB,?_⟩;go_frame;refine wpAnyH_takeL (i:=9) (v:=.int .i64 (m+ln:Nat)) rfl (by kernel_rfl) (by kernel_rfl) (by kernel_rfl) (fun _ _ _ h=>h) (Or.inl ⟨rfl,fun w' _=>by go_simp⟩) sB ?_;go_frame
    refine wpAnyH_takeL (i:=10) (v:=.string (ndt.extract m (m+ln))) rfl (by kernel_rfl) (by kernel_rfl) (by kernel_rfl) (fun _ _ _ h=>h) (Or.inl ⟨rfl,fun w' _=>by
     go_simp
     rw [if_pos ⟨by omega,by omega⟩,if_pos (by omega),show ((m:Int)+(ln:Int)).toNat=m+ln from by omega]⟩) sB ?_
    go_frame
    have hcl:(ndt.extract m (m+ln)).toList=placedL N ndt.toList k:=by
     rw [(placed_some hr (by rw [<-HCc.out];exact hlt)).2,<-HSzN.out,<-HM.out,<-HL.out,toList_extract,show m+ln - m=ln from by omega]
    have hpl:(placedL N ndt.toList k).length=ln:=by rw [right_len hr,HL.out]
    have hl1:=lenN_pos (N:=N) (i:=k) (by rw [<-HCc.out];exact hlt);rw [<-HL.out] at hl1;have hcz:(ndt.extract m (m+ln)).size=ln:=by rw [<-len_toList,hcl,hpl]
    obtain ⟨cap,wc2,hcv2,xc2,hnb,hpa⟩:=conv_part (ndt.extract m (m+ln)) wb (by omega) (by omega);rw [hcl] at hcv2 hpa;have sC:Chg [g] Wa wc2:=sB.trans_ext xc2;refine wpAnyH_one (i:=11) (by kernel_rfl) rfl rfl (run_convertOp _ _ _ rfl _ _ _ hcv2) sC ?_;go_frame;have xab:Ext Wa wb:=(Ext.refl Wa).drew.trans xb;have hgl:g<Wa.heap.size:=ltB HDa.out.row;have hgb:=xab.size;have hdc:=(HDa.out.ext (xab.trans xc2)).more (b:=wb.heap.size) (by omega) hnb;have HF:=fill_any wc2 (g+1) g D8 cs (.slice ua un uc) (J++[wb.heap.size]) r N name (openP N r.hs ndt.toList F k) hdc k (by rw [<-HCc.out];exact hlt) (placedL N ndt.toList k) _ (hpa.more fun b hb=>List.mem_append.2 (.inr hb));refine wpAnyH_call (i:=12) (F:=76) (args:=#[.pointer (some ⟨g+1,0,none⟩),.int .i64 k,.slice (some ⟨wb.heap.size,0,none⟩) (placedL N ndt.toList k).length cap]) (by kernel_rfl) rfl rfl (by go_simp) ?_;refine HF.mono ?_;rintro e wd ⟨rfl,hh⟩;have HH:=hh;clear hh HF hdc hcv2 hpa;have sD:Chg [g] Wa wd:=sC.trans HH.out.1 fun _ h=>.inl h;refine ⟨_,rfl,sD,?_⟩;go_frame;refine wpAnyH_done (by kernel_rfl) ?_ _;have HXd:=lh (HXa.out.trans sD fun _ h=>.inl h)
    have HJd:=lh (show ∀ b∈J++[wb.heap.size],w.heap.size<=b from fun b hb=>by
     rcases List.mem_append.1 hb with hb | hb
     ·exact HJk.out b hb
     ·rw [List.mem_singleton.1 hb];omega)
    have HOp:=lh (show openP N r.hs ndt.toList F (k+1)=fillP N r.hs k (placedL N ndt.toList k) (openP N r.hs ndt.toList F k) from by rw [openP,if_pos hr]);clear sS sB sC sD hr hcl hpl hl1 hcz xab hgl hgb q2 hsz2 hln1 hln2 hla hmN xb xc2 hnb;go_wp2_with fail;go_roundw
    case rel=>exact ⟨k+1,by omega,by go_num,HXd.out,by rw [HOp.out];exact ⟨HH.out.2.choose,_,HH.out.2.choose_spec,HJd.out⟩⟩
    case measure=>simp [intOf] <;> omega
   ·have hcase:(∃ (q:Int) (v5:Int),(q=3\/q=4)/\stepLF N r.hs ndt.toList F k=[.int .i64 k,.int .i64 q,.string ⟨#[]⟩,.int .i64 0,.int .i64 v5]/\openP N r.hs ndt.toList F (k+1)=openP N r.hs ndt.toList F k) \/
      ∃ (p:Pl) (l:List UInt8),F (r.hs[k]?.getD [])=some (p,l)/\stepLF N r.hs ndt.toList F k=[.int .i64 k,.int .i64 2,.string p.1,.int .i64 p.2,.int .i64 0]/\openP N r.hs ndt.toList F (k+1)=if rightB N r.hs k l=true then fillP N r.hs k l (openP N r.hs ndt.toList F k) else openP N r.hs ndt.toList F k:=by
     unfold stepLF stepQ;rw [openP];rw [if_neg hr,if_neg hr]
     cases hf:(List.range k).find? fun j=>sameB N r.hs j k with
     | some j=>exact .inl ⟨3,_,.inl rfl,rfl,rfl⟩
     | none =>
      cases hg:F (r.hs[k]?.getD []) with
      | none=>exact .inl ⟨4,_,.inr rfl,rfl,rfl⟩
      | some pl =>
       obtain ⟨p,l⟩:=pl;by_cases hl:l.length=lenN N k
       ·dsimp only;rw [if_pos hl];refine .inr ⟨p,l,rfl,rfl,?_⟩;by_cases hrb:rightB N r.hs k l=true
        ·rw [if_pos ⟨hl,hrb⟩,if_pos hrb]
        ·rw [if_neg fun h=>hrb h.2,if_neg hrb]
       ·dsimp only;rw [if_neg hl,if_neg fun h=>hl h.1];exact .inl ⟨4,_,.inr rfl,rfl,rfl⟩
    rcases hcase with ⟨q,v5,hq,hrow,hop⟩ | ⟨⟨pn,pk⟩,l,hF,hrow,hop⟩
    ·rw [hrow] at hrg;have HRg:=lh hrg;have q1:(q==1)=false:=by rw [beq_eq_false_iff_ne];omega
     have q2:(q==2)=false:=by rw [beq_eq_false_iff_ne];omega
     have HOp:=lh hop;clear hrg hx hd hJ hr hrow hq hop;go_wp2_with (refine wpList_load_at rfl 128 (.tmp 69) rfl gs (k*5) rfl #[.int .i64 k,.int .i64 q,.string ⟨#[]⟩,.int .i64 0,.int .i64 v5] _ HRg.out underlying128 rfl (HSz.out _ _ _ _ _) ?_;go_frame);go_roundw
     case rel=>exact ⟨k+1,by omega,by go_num,HX.out.trans_ext ((Ext.refl wr).alloc _),by rw [HOp.out];exact ⟨_,_,HDk.out.ext ((Ext.refl wr).alloc _),HJk.out⟩⟩
     case measure=>simp [intOf] <;> omega
    ·rw [hrow] at hrg;have HRg:=lh hrg;have HOp:=lh hop;have hkN:k<countN N:=by rw [<-HCc.out];exact hlt
     obtain ⟨h,hh⟩:∃ h,r.hs[k]?=some h:=⟨_,List.getElem?_eq_getElem (by omega)⟩;have HFh:=lh (show F h=some ((pn,pk),l) from by rw [<-hF,hh];rfl);have hxa:Ext wr (wr.alloc (.cells #[.int .i64 k,.int .i64 2,.string pn,.int .i64 pk,.int .i64 0] 128)):=(Ext.refl wr).alloc _;have HDa:=lh (HDk.out.ext hxa);have HXa:=lh (HX.out.trans_ext hxa);obtain ⟨ha,hcap,he,_,_,hb3⟩:=HDa.out.hs;obtain ⟨hh32,hgb,hgo,he2,hhl,hrg2⟩:=hb3 k h hh;have hun:un=c:=by cases he;exact hcn
     subst hun;have he3:ua=some ⟨hgb,hgo,none⟩:=by cases he;exact he2
     subst he3;have HRh:=lh (show (wr.alloc (.cells #[.int .i64 k,.int .i64 2,.string pn,.int .i64 pk,.int .i64 0] 128)).rangeAt hgb (hgo+k*32) (hArr h 32).toList from by rw [hArr_list hh32];exact hrg2);have HZh:=lh (show (prog.info? 45).map (·.size)=some (hArr h 32).size from by rw [hArr_size _ _ hh32 (by omega)];kernel_rfl);have HXw:=lh (HXa.out.ext HX8.out (by simp;omega));have HFk:=HFd _ h HXw.out hh32;have hbk:=(HXa.out.block w.heap.size (ltB HB8.out) (by simp only [List.mem_singleton];omega)).trans HB8.out;have k23:=(cellB (k:=23) hbk).trans HC2.out.c23;have hkn:(k:Int)<(un:Int):=by omega
     clear hrg hx hd hJ hr hrow hop hF hb3 he he2 hhl hrg2 hxa hbk;go_wp2_with (first | (refine wpList_load_at rfl 128 (.tmp 69) rfl gs (k*5) rfl #[.int .i64 k,.int .i64 2,.string pn,.int .i64 pk,.int .i64 0] _ HRg.out underlying128 rfl (HSz.out _ _ _ _ _) ?_;go_frame) | (refine wpList_load_at rfl 45 _ rfl hgb (hgo+k*32) rfl (hArr h 32) _ HRh.out underlying45 rfl HZh.out ?_;go_frame));refine HFk.out.mono ?_;intro e w5f h5f;rcases h5f with ⟨hF0,_⟩ | ⟨p2,l2,u5,hF1,rfl,ho5,x5⟩
     ·rw [HFh.out] at hF0;cases hF0
     rw [HFh.out] at hF1
     cases hF1
     have x6:=x5.alloc (.cells #[.string pn,.int .i64 pk] 126);have HD6:=lh (HDa.out.ext x6);have HX6:=lh (HXa.out.trans_ext x6);have HX6s:=lh (HXw.out.trans x6);have HPut:=lh (put_any _ (HTx.out _ HX6s.out) (g+1) g D8 cs _ J r N name _ HD6.out HNe.out k hkN l u5 (ownB_off (owns_ext ho5 ((Ext.refl w5f).alloc (.cells #[.string pn,.int .i64 pk] 126))) (Nat.le_refl _)) (HFl.out _ _ _ HFh.out));clear x5 x6 ho5 HFk k23;unfold plV;go_wp2_with fail;refine HPut.out.mono ?_;intro e w7 h7
     cases hrb:rightB N r.hs k l with
     | true =>
      obtain ⟨rfl,J2,cs2,hst,hd7⟩:=h7.yes hrb;rw [if_pos hrb] at HOp;have HX7:=lh (HX6.out.trans hst.chg fun _ h=>.inl h);have HD7:=lh hd7
      have HJ7:=lh (show ∀ b∈J2,w.heap.size<=b from fun b hb=>by
       rcases hst.i b hb with hb | hb
       ·exact HJk.out b hb
       ·have:=HX6s.out.size;omega)
      clear h7 hst hd7 hrb HPut;go_wp2_with fail;go_roundw
      case rel=>exact ⟨k+1,by omega,by go_num,HX7.out,by rw [HOp.out];exact ⟨_,_,HD7.out,HJ7.out⟩⟩
      case measure=>simp [intOf] <;> omega
     | false =>
      obtain ⟨rfl,x7⟩:=h7.no hrb;rw [if_neg (by rw [hrb];decide)] at HOp;have HX7:=lh (HX6.out.trans_ext x7);have HD7:=lh (HD6.out.ext x7);clear h7 x7 hrb HPut;go_wp2_with fail;go_roundw
      case rel=>exact ⟨k+1,by omega,by go_num,HX7.out,by rw [HOp.out];exact ⟨_,_,HD7.out,HJk.out⟩⟩
      case measure=>simp [intOf] <;> omega
  ·obtain rfl:k=c:=by omega
   have nlt:decide ((k:Int)<(k:Int))=false:=by simp
   clear hx hd hJ;go_wp2_with fail;go_ret2;exact ⟨_,_,_,_,_,_,rfl,HX.out.ext HX8.out (by simp;omega),by rw [<-HCc.out];exact HDk.out,by omega,HJk.out⟩
end
section
def Fd (N:Nat) (hs:List (List UInt8)) (F:List UInt8->Option (List UInt8)) (k:Nat):Option (List UInt8) :=
 match F (hs[k]?.getD []) with
 | some l=>if rightB N hs k l=true then some l else none
 | none=>none
def pg (ps:List (Option (List UInt8))) (k:Nat):Option (List UInt8):=(ps[k]?).join
theorem haveB_pg (ps:List (Option (List UInt8))) (k:Nat):haveB ps k=(pg ps k).isSome:=by
 unfold haveB pg
 cases ps[k]? with
 | none=>rfl
 | some x=>cases x <;> rfl
theorem pg_ext {ps qs:List (Option (List UInt8))} {n:Nat} (h1:ps.length=n) (h2:qs.length=n) (h:∀ k,k<n->pg ps k=pg qs k):ps=qs:=by
 apply List.ext_getElem?;intro k;by_cases hk:k<n
 ·have:=h k hk;unfold pg at this;rw [List.getElem?_eq_getElem (by omega),List.getElem?_eq_getElem (by omega)] at this ⊢
  simpa using this
 ·rw [List.getElem?_eq_none (by omega),List.getElem?_eq_none (by omega)]
theorem pg_fill {N:Nat} {hs:List (List UInt8)} {ps:List (Option (List UInt8))} (hl:ps.length=countN N) {i k:Nat} (hk:k<countN N) (l:List UInt8):pg (fillP N hs i l ps) k=if sameL N hs l i k=true then some l else pg ps k:=by
 unfold pg fillP;rw [List.getElem?_mapIdx,List.getElem?_eq_getElem (by omega)];simp only [Option.map_some,Option.join_some]
theorem rightB_same {N:Nat} {hs:List (List UInt8)} {i k:Nat} (h:sameB N hs i k=true) (l:List UInt8):rightB N hs i l=rightB N hs k l:=by
 obtain ⟨h1,h2⟩:=sameB_iff.1 h;unfold rightB;rw [h1,h2]
theorem Fd_same {N:Nat} {hs:List (List UInt8)} {i k:Nat} (h:sameB N hs i k=true) (F:List UInt8->Option (List UInt8)):Fd N hs F i=Fd N hs F k:=by
 obtain ⟨h1,h2⟩:=sameB_iff.1 h;unfold Fd;rw [h1];split
 ·rw [rightB_same h]
 ·rfl
theorem Fd_right {N:Nat} {hs:List (List UInt8)} {k:Nat} {F:List UInt8->Option (List UInt8)} {l:List UInt8} (h:Fd N hs F k=some l):rightB N hs k l=true:=by
 unfold Fd at h;split at h
 ·split at h
  ·cases h;assumption
  ·cases h
 ·cases h
theorem openP_len (N:Nat) (hs:List (List UInt8)) (t:List UInt8) (F:List UInt8->Option (Pl×List UInt8)):∀ k,(openP N hs t F k).length=countN N
 | 0=>by simp [openP]
 | k+1=>by
  have ih:=openP_len N hs t F k;unfold openP;split
  ·rw [fillP_len,ih]
  ·split
   ·exact ih
   ·split
    ·split
     ·rw [fillP_len,ih]
     ·exact ih
    ·exact ih
theorem openF_len (N:Nat) (hs:List (List UInt8)) (F:List UInt8->Option (List UInt8)) (ps:List (Option (List UInt8))):∀ k,(openF N hs F ps k).length=ps.length
 | 0=>by simp [openF]
 | k+1=>by
  have ih:=openF_len N hs F ps k;unfold openF;split
  ·split
   ·rw [fillP_len,ih]
   ·exact ih
  ·exact ih
theorem openP_step (N:Nat) (hs:List (List UInt8)) (t:List UInt8) {F:List UInt8->Option (Pl×List UInt8)} {F':List UInt8->Option (List UInt8)} (hF:∀ h,(F h).map Prod.snd=F' h) (n:Nat) :
  openP N hs t F (n+1)=if rightB N hs n (placedL N t n)=true then fillP N hs n (placedL N t n) (openP N hs t F n) else if ((List.range n).any fun j=>sameB N hs j n)=true then openP N hs t F n else match Fd N hs F' n with
   | some l=>fillP N hs n l (openP N hs t F n)
   | none=>openP N hs t F n:=by
 rw [openP];split
 ·rfl
 ·cases hf:(List.range n).find? fun j=>sameB N hs j n with
  | some j =>
   have h1:=List.find?_some hf;have h2:=List.mem_of_find?_eq_some hf;rw [if_pos (List.any_eq_true.2 ⟨j,h2,h1⟩)]
  | none =>
   rw [List.find?_eq_none] at hf
   rw [if_neg (by
    intro h;obtain ⟨j,hj,h1⟩:=List.any_eq_true.1 h
    exact hf j hj h1)]
   unfold Fd;have:=hF (hs[n]?.getD [])
   cases hg:F (hs[n]?.getD []) with
   | none=>rw [hg] at this;rw [<-this];rfl
   | some pl =>
    obtain ⟨p,l⟩:=pl;rw [hg] at this;rw [<-this];dsimp only [Option.map_some];by_cases hr:rightB N hs n l=true
    ·rw [if_pos ⟨right_len hr,hr⟩,if_pos hr]
    ·rw [if_neg (fun h=>hr h.2),if_neg hr]
theorem openF_step (N:Nat) (hs:List (List UInt8)) (F:List UInt8->Option (List UInt8)) (ps:List (Option (List UInt8))) (n:Nat) :
  openF N hs F ps (n+1)=if haveB (openF N hs F ps n) n=true then openF N hs F ps n else match Fd N hs F n with
   | some l=>fillP N hs n l (openF N hs F ps n)
   | none=>openF N hs F ps n:=by
 rw [openF];unfold Fd
 cases hg:F (hs[n]?.getD []) with
 | none=>dsimp only;rw [ite_self]
 | some l =>
  dsimp only
  cases hh:haveB (openF N hs F ps n) n
  ·by_cases hr:rightB N hs n l=true
   ·rw [if_pos ⟨rfl,hr⟩,if_neg (by decide),if_pos hr]
   ·rw [if_neg (fun h=>hr h.2),if_neg (by decide),if_neg hr]
  ·rw [if_neg (fun h=>by cases h.1),if_pos rfl]
def clB (N:Nat) (hs:List (List UInt8)) (n k:Nat):Bool:=(List.range n).any fun i=>sameB N hs i k
theorem clB_succ (N:Nat) (hs:List (List UInt8)) (n k:Nat):clB N hs (n+1) k=(clB N hs n k||sameB N hs n k):=by
 unfold clB;rw [List.range_succ,List.any_append];simp
theorem clB_same {N:Nat} {hs:List (List UInt8)} {n i k:Nat} (h:sameB N hs i k=true):clB N hs n i=clB N hs n k:=by
 unfold clB
 congr 1
 funext j
 rw [Bool.eq_iff_iff];exact ⟨fun h1=>sameB_trans h1 h,fun h1=>sameB_trans h1 (sameB_symm h)⟩
theorem openP_spec (N:Nat) (hs:List (List UInt8)) (t:List UInt8) {F:List UInt8->Option (Pl×List UInt8)} {F':List UInt8->Option (List UInt8)} (hF:∀ h,(F h).map Prod.snd=F' h) :
  ∀ n,n<=countN N->∀ k,k<countN N->pg (openP N hs t F n) k=(pg (openTo N hs t n) k).or (if clB N hs n k=true then Fd N hs F' k else none)
 | 0,_,k,hk=>by simp [openP,openTo,clB]
 | n+1,hn,k,hk=>by
  have ih:=openP_spec N hs t hF n (by omega) k hk;obtain ⟨_,_,h3⟩:=openTo_spec N hs t n (by omega);have hlP:=openP_len N hs t F n;have hlT:=openTo_len N hs t n;rw [openP_step N hs t hF,clB_succ]
  cases hr:rightB N hs n (placedL N t n) with
  | true =>
   rw [if_pos rfl,openTo,if_pos hr,pg_fill hlP hk,pg_fill hlT hk,sameL_same (right_len hr)]
   cases hs2:sameB N hs k n with
   | true=>rfl
   | false =>
    have:sameB N hs n k=false:=by
     cases h:sameB N hs n k
     ·rfl
     ·rw [sameB_symm h] at hs2;cases hs2
    rw [this,Bool.or_false,if_neg (by decide),if_neg (by decide)];exact ih
  | false =>
   rw [if_neg (by decide),show openTo N hs t (n+1)=openTo N hs t n from by rw [openTo,if_neg (by rw [hr];decide)]]
   cases hc:(List.range n).any fun j=>sameB N hs j n with
   | true =>
    rw [if_pos rfl,ih]
    congr 1
    cases hs2:sameB N hs n k with
    | false=>rw [Bool.or_false]
    | true =>
     have:clB N hs n k=true:=by rw [<-clB_same hs2];exact hc
     rw [this];rfl
   | false =>
    rw [if_neg (by decide)]
    cases hs2:sameB N hs n k with
    | false =>
     rw [Bool.or_false]
     cases hf:Fd N hs F' n with
     | none=>exact ih
     | some l =>
      have hr2:=Fd_right hf;dsimp only
      rw [pg_fill hlP hk,sameL_same (right_len hr2),if_neg (by
       intro h
       rw [sameB_symm h] at hs2;cases hs2)]
      exact ih
    | true =>
     rw [Bool.or_true,if_pos rfl]
     have hn0:pg (openTo N hs t n) k=none:=by
      have:=h3 k hk;rw [haveB_pg] at this
      have h0:((List.range n).any fun i=>rightB N hs i (placedL N t i)&&sameB N hs k i)=false:=by
       rw [Bool.eq_false_iff];intro h;obtain ⟨i,hi,h1⟩:=List.any_eq_true.1 h;rw [Bool.and_eq_true] at h1;have:((List.range n).any fun j=>sameB N hs j n)=true:=List.any_eq_true.2 ⟨i,hi,sameB_symm (sameB_trans hs2 h1.2)⟩;rw [hc] at this;cases this
      rw [h0] at this;exact Option.isNone_iff_eq_none.1 (by rw [<-Option.not_isSome,this];rfl)
     have hc0:clB N hs n k=false:=by rw [<-clB_same hs2];exact hc
     rw [hn0,hc0] at ih;rw [hn0,Option.none_or,<-Fd_same hs2]
     cases hf:Fd N hs F' n with
     | none=>exact ih
     | some l =>
      have hr2:=Fd_right hf;dsimp only;rw [pg_fill hlP hk,sameL_same (right_len hr2),if_pos (sameB_symm hs2)]
theorem openF_spec (N:Nat) (hs:List (List UInt8)) {F:List UInt8->Option (List UInt8)} {ps:List (Option (List UInt8))} (hl:ps.length=countN N) (hS:ShutP N hs ps) :
  ∀ n,n<=countN N->∀ k,k<countN N->pg (openF N hs F ps n) k=(pg ps k).or (if clB N hs n k=true then Fd N hs F k else none)
 | 0,_,k,hk=>by simp [openF,clB]
 | n+1,hn,k,hk=>by
  have ih:=openF_spec N hs (F:=F) hl hS n (by omega);have hlF:=(openF_len N hs F ps n).trans hl;rw [openF_step,clB_succ];have ihk:=ih k hk;have ihn:=ih n (by omega)
  cases hs2:sameB N hs n k with
  | false =>
   rw [Bool.or_false];split
   ·exact ihk
   ·split
    ·rename_i l hf
     rw [pg_fill hlF hk,sameL_same (right_len (Fd_right hf)),if_neg (by
      intro h
      rw [sameB_symm h] at hs2;cases hs2)]
     exact ihk
    ·exact ihk
  | true =>
   rw [Bool.or_true,if_pos rfl]
   cases hp:pg ps k with
   | some l0 =>
    have hk0:haveB ps k=true:=by rw [haveB_pg,hp];rfl
    have hn0:=hS k n hk (by omega) (sameB_symm hs2) hk0
    have hn1:haveB (openF N hs F ps n) n=true:=by
     rw [haveB_pg] at hn0 ⊢;rw [ihn]
     cases hq:pg ps n with
     | none=>rw [hq] at hn0;cases hn0
     | some _=>rfl
    rw [if_pos hn1,ihk,hp];rfl
   | none =>
    have hn0:pg ps n=none:=by
     cases hq:pg ps n with
     | none=>rfl
     | some l =>
      have:=hS n k (by omega) hk hs2 (by rw [haveB_pg,hq];rfl);rw [haveB_pg,hp] at this;cases this
    rw [hp] at ihk;rw [hn0] at ihn;rw [Option.none_or] at ihk ihn ⊢;rw [<-clB_same hs2,<-Fd_same hs2] at ihk;rw [<-Fd_same hs2]
    cases hh:haveB (openF N hs F ps n) n with
    | true =>
     rw [if_pos rfl,ihk];rw [haveB_pg,ihn] at hh;split
     ·rfl
     ·rename_i h9;rw [if_neg h9] at hh;cases hh
    | false =>
     rw [if_neg (by decide)]
     cases hf:Fd N hs F n with
     | some l =>
      dsimp only;rw [pg_fill hlF hk,sameL_same (right_len (Fd_right hf)),if_pos (sameB_symm hs2)]
     | none =>
      dsimp only;rw [ihk,hf,ite_self]
theorem open_same (N:Nat) (hs:List (List UInt8)) (t:List UInt8) {F:List UInt8->Option (Pl×List UInt8)} {F':List UInt8->Option (List UInt8)} (hF:∀ h,(F h).map Prod.snd=F' h) :
  openP N hs t F (countN N)=openF N hs F' (openTo N hs t (countN N)) (countN N):=by
 obtain ⟨_,h2,_⟩:=openTo_spec N hs t (countN N) (Nat.le_refl _);refine pg_ext (openP_len N hs t F _) ((openF_len N hs F' _ _).trans (openTo_len N hs t _)) fun k hk=>?_;rw [openP_spec N hs t hF _ (Nat.le_refl _) k hk,openF_spec N hs (openTo_len N hs t _) h2 _ (Nat.le_refl _) k hk]
theorem openF_psOk (N:Nat) (hs:List (List UInt8)) (F:List UInt8->Option (List UInt8)) {ps:List (Option (List UInt8))} (h:PsOk N hs ps):∀ n,PsOk N hs (openF N hs F ps n)
 | 0=>h
 | n+1=>by
  have ih:=openF_psOk N hs F h n;rw [openF];split
  ·split
   ·rename_i hq;exact ih.fill hq.2
   ·exact ih
  ·exact ih
end
section
open Go.RowKit Go.Shelf
attribute [local go_sem] Oper.semAt_some
set_option maxRecDepth 100000 in
set_option maxHeartbeats 1000000 in
theorem fin_add_long {w:World} {F bf bp q:Nat} {ff:ByteArray->Option (List UInt8)} {vf:ByteArray->Value} {pl:List UInt8->List Pl} {vp:List UInt8->Value} {M I:List Nat} (h:FinIn w F bf bp q ff vf pl vp M I) (nm:ByteArray) (l:List UInt8) (v:Value) (b:Nat) (hv:BytesOff b w v l) (hl:4096<l.length) :
  Calls prog 109 #[.pointer (some ⟨F,0,none⟩),.string nm,v] w fun e w'=>e=.returned (.int .i64 3)/\Ext w w':=by
 have HI:=lh (fun w' (X:Ext w w')=>fin_is (h.ext X))
 have HLs:=lh (fun w' (X:Ext w w')=>blist_long l v b w' (by
  obtain ⟨a,cap,e,h1,h2,h3⟩:=hv
  exact ⟨a,cap,e,h1,h2,fun hp=>by
   obtain ⟨g,o,e2,h4,h5,h6⟩:=h3 hp
   exact ⟨g,o,e2,h4,Nat.lt_of_lt_of_le h5 X.size,fun j x hj=>(X.cell h5).trans (h6 j x hj)⟩⟩) hl)
 clear h hv;go_enter func109,ntmps109;go_wp2_with fail;refine (HI.out _ (Ext.refl _)).mono ?_;rintro e w1 ⟨rfl,hw⟩;have X1:=lh hw;clear hw;go_wp2_with fail;refine (HLs.out _ X1.out).mono ?_;rintro e w2 ⟨rfl,hw⟩;obtain rfl:=hw.symm;clear hw;go_wp2_with fail;go_ret;exact ⟨rfl,X1.out⟩
set_option maxRecDepth 100000 in
set_option maxHeartbeats 1000000 in
theorem radd_long (w:World) (g:Nat) (nm:ByteArray) (l:List UInt8) (v:Value) (b:Nat) (hv:BytesOff b w v l) (hl:4096<l.length) :
  Calls prog 110 #[.pointer (some ⟨g,0,none⟩),.string nm,v] w fun e w'=>e=.returned (.int .i64 3)/\Ext w w':=by
 have HLs:=lh (fun w' (X:Ext w w')=>rlist05_long l v b w' (by
  obtain ⟨a,cap,e,h1,h2,h3⟩:=hv
  exact ⟨a,cap,e,h1,h2,fun hp=>by
   obtain ⟨g,o,e2,h4,h5,h6⟩:=h3 hp
   exact ⟨g,o,e2,h4,Nat.lt_of_lt_of_le h5 X.size,fun j x hj=>(X.cell h5).trans (h6 j x hj)⟩⟩) hl)
 clear hv;go_enter func110,ntmps110;go_wp2_with fail;refine (HLs.out _ (Ext.refl _)).mono ?_;rintro e w2 ⟨rfl,hw⟩;obtain rfl:=hw.symm;clear hw;go_wp2_with fail;go_ret;exact ⟨rfl,Ext.refl _⟩
end
section
open Go.RowKit Go.Shelf
theorem lessB_irr:∀ (b:List UInt8),Go.Op.bytesLess b b=false
 | []=>rfl
 | x::b=>by
  simp only [Go.Op.bytesLess,Bool.or_eq_false_iff,decide_eq_false_iff_not,Bool.and_eq_false_iff,beq_eq_false_iff_ne];exact ⟨UInt8.lt_irrefl _,.inr (lessB_irr b)⟩
theorem lessB_trans:∀ (a b c:List UInt8),Go.Op.bytesLess a b=true->Go.Op.bytesLess b c=true->Go.Op.bytesLess a c=true
 | _,_,[],_,h=>by simp [Go.Op.bytesLess] at h
 | [],_,_::_,_,_=>rfl
 | _::_,[],_::_,h,_=>by simp [Go.Op.bytesLess] at h
 | x::a,y::b,z::c,h1,h2=>by
  simp only [Go.Op.bytesLess,Bool.or_eq_true,decide_eq_true_eq,Bool.and_eq_true,beq_iff_eq] at h1 h2 ⊢;rcases h1 with h1 | ⟨rfl,h1⟩
  ·rcases h2 with h2 | ⟨rfl,h2⟩
   ·exact .inl (UInt8.lt_trans h1 h2)
   ·exact .inl h1
  ·rcases h2 with h2 | ⟨rfl,h2⟩
   ·exact .inl h2
   ·exact .inr ⟨rfl,lessB_trans a b c h1 h2⟩
theorem lessB_tot:∀ (a b:List UInt8),Go.Op.bytesLess a b=false->a≠b->Go.Op.bytesLess b a=true
 | [],[],_,h=>absurd rfl h
 | [],_::_,h,_=>by simp [Go.Op.bytesLess] at h
 | _::_,[],_,_=>rfl
 | x::a,y::b,h,hn=>by
  simp only [Go.Op.bytesLess,Bool.or_eq_false_iff,decide_eq_false_iff_not,Bool.and_eq_false_iff,beq_eq_false_iff_ne] at h;simp only [Go.Op.bytesLess,Bool.or_eq_true,decide_eq_true_eq,Bool.and_eq_true,beq_iff_eq];obtain ⟨h1,h2⟩:=h;by_cases hxy:x=y
  ·subst hxy;exact .inr ⟨rfl,lessB_tot a b (h2.resolve_left fun q=>q rfl) fun q=>hn (by rw [q])⟩
  ·rw [UInt8.not_lt] at h1;rcases UInt8.lt_or_eq_of_le h1 with h1 | h1
   ·exact .inl h1
   ·exact absurd h1.symm hxy
def ltP (a b:Pl):Prop:=Go.Op.bytesLess a.1.toList b.1.toList=true\/(a.1=b.1/\a.2<b.2)
theorem cmpP_lt (a b:Pl):cmpP a b<0↔ltP a b:=by
 unfold cmpP ltP cmpS cmpZ
 cases h1:Go.Op.bytesLess a.1.toList b.1.toList with
 | true=>simp
 | false =>
  by_cases h2:a.1.toList=b.1.toList
  ·have h3:a.1=b.1:=ba_ext h2;simp only [h3,beq_self_eq_true,true_and,Bool.false_eq_true,if_false,if_true,false_or];by_cases q1:a.2<b.2
   ·rw [if_pos q1];exact ⟨fun _=>q1,fun _=>by decide⟩
   ·rw [if_neg q1];by_cases q2:b.2<a.2
    ·rw [if_pos q2];exact ⟨fun h=>absurd h (by decide),fun h=>absurd h q1⟩
    ·rw [if_neg q2];exact ⟨fun h=>absurd h (by decide),fun h=>absurd h q1⟩
  ·have h3:¬ a.1=b.1:=fun q=>h2 (by rw [q]);have h4:(a.1.toList==b.1.toList)=false:=beq_eq_false_iff_ne.2 h2;simp [h4,h3]
theorem ltP_irr (a:Pl):¬ ltP a a:=fun h=>by
 rcases h with h | h
 ·rw [lessB_irr] at h;cases h
 ·omega
theorem ltP_trans {a b c:Pl} (h:ltP a b) (k:ltP b c):ltP a c:=by
 rcases h with h | ⟨h,h2⟩
 ·rcases k with k | ⟨k,_⟩
  ·exact .inl (lessB_trans _ _ _ h k)
  ·rw [k] at h;exact .inl h
 ·rcases k with k | ⟨k,k2⟩
  ·rw [<-h] at k;exact .inl k
  ·exact .inr ⟨h.trans k,by omega⟩
theorem minN_le (l:List Pl):∀ (k i:Nat) (x:Pl),k<l.length->i<=k->l[i]?=some x->¬ ltP x (minN l k)
 | 0,i,x,hk,hi,hx=>by
  obtain rfl:i=0:=by omega
  rw [minN,List.getD_eq_getElem?_getD,hx];exact ltP_irr x
 | k+1,i,x,hk,hi,hx=>by
  rw [minN];obtain ⟨y,hy⟩:∃ y,l[k+1]?=some y:=⟨_,List.getElem?_eq_getElem hk⟩;rw [List.getD_eq_getElem?_getD,hy]
  show ¬ ltP x (if cmpP y (minN l k)<0 then y else minN l k)
  by_cases hc:cmpP y (minN l k)<0
  ·rw [if_pos hc];rcases Nat.lt_or_eq_of_le hi with h | h
   ·have ih:=minN_le l k i x (by omega) (by omega) hx;exact fun q=>ih (ltP_trans q ((cmpP_lt _ _).1 hc))
   ·subst h;rw [hy] at hx
    cases hx
    exact ltP_irr _
  ·rw [if_neg hc];rcases Nat.lt_or_eq_of_le hi with h | h
   ·exact minN_le l k i x (by omega) (by omega) hx
   ·subst h;rw [hy] at hx
    cases hx
    exact fun q=>hc ((cmpP_lt _ _).2 q)
def FB (ff:ByteArray->Option (List UInt8)) (pl:List UInt8->List Pl) (h:List UInt8):Option (Pl×List UInt8) :=
 if h.length=32/\pl h≠[] then some (minN (pl h) ((pl h).length - 1),partL ((ff (minN (pl h) ((pl h).length - 1)).1).getD []) (minN (pl h) ((pl h).length - 1)).2.toNat) else none
theorem findB {ff:ByteArray->Option (List UInt8)} {pl:List UInt8->List Pl} {h:List UInt8} {w w':World} {e:Ending} (hh:h.length=32) (H:FindOut ff (pl h) h w e w'):FoundB (FB ff pl) h w e w':=by
 obtain ⟨v,p,b,rfl,hf,x⟩:=H;rcases hf with ⟨rfl,h1,rfl,rfl⟩ | ⟨rfl,h1,h2,d,j,h3,h4,_,h6⟩
 ·exact .inl ⟨by unfold FB;rw [if_neg (fun q=>q.2 h1)],rfl,x⟩
 ·refine .inr ⟨p,partL d j,v,?_,rfl,h6,x⟩;unfold FB;rw [if_pos ⟨hh,h1⟩,<-h2,h4,h3];rfl
def FRd (X:List RF) (h:List UInt8):Option (List UInt8) :=
 if h.length=32 then match X.find? fun x=>(hashesL x.d).contains h with
  | some x=>some (partL x.d ((hashesL x.d).idxOf h))
  | none=>none
 else none
theorem idx_firstF {α:Type} [BEq α] [LawfulBEq α] {l:List α} {x:α} {k:Nat} (h:l[k]?=some x) (hn:∀ j,j<k->l[j]?≠some x):l.idxOf x=k:=by
 have hk:=(List.getElem?_eq_some_iff.1 h).1;have hm:x∈l:=List.mem_of_getElem? h;have h1:l.idxOf x<l.length:=List.idxOf_lt_length_of_mem hm;have h2:l[l.idxOf x]?=some x:=by rw [List.getElem?_eq_getElem h1,List.getElem_idxOf h1]
 rcases Nat.lt_trichotomy (l.idxOf x) k with q | q | q
 ·exact absurd h2 (hn _ q)
 ·exact q
 ·exfalso;have:=List.not_of_lt_findIdx (p:=(·==x)) (xs:=l) (i:=k) (by simpa [List.idxOf] using q);rw [List.getElem?_eq_getElem hk,Option.some.injEq] at h;rw [h] at this;simp at this
theorem find_first {X:List RF} {p:RF->Bool} {i:Nat} {x:RF} (h:X[i]?=some x) (hp:p x=true) (hn:∀ y∈X.take i,p y=false):X.find? p=some x:=by
 have hi:=(List.getElem?_eq_some_iff.1 h).1;rw [List.find?_eq_some_iff_append];refine ⟨hp,X.take i,X.drop (i+1),?_,fun y hy=>by rw [hn y hy];rfl⟩;rw [List.getElem?_eq_getElem hi,Option.some.injEq] at h;rw [<-h,List.getElem_cons_drop,List.take_append_drop]
theorem findR {X:List RF} {h:List UInt8} {w w':World} {e:Ending} (hh:h.length=32) (H:RFindOut X h w e w'):FoundR (FRd X) h w e w':=by
 rcases H with ⟨rfl,h1,x⟩ | ⟨i,k,y,v,rfl,h1,h2,h3,h4,h5,x⟩
 ·refine .inl ⟨?_,rfl,x⟩;unfold FRd;rw [if_pos hh,List.find?_eq_none.2 fun y hy=>?_];intro hc;obtain ⟨j,hj⟩:=List.getElem?_of_mem (List.contains_iff_mem.1 hc);exact h1 y hy j hj
 ·refine .inr ⟨_,v,y.nm,k,?_,?_,rfl,h5,x⟩
  ·unfold FRd;rw [if_pos hh,find_first (p:=fun x=>(hashesL x.d).contains h) h1 (List.contains_iff_mem.2 (List.mem_of_getElem? h2)) fun z hz=>?_]
   ·dsimp only;rw [idx_firstF h2 h4]
   ·rw [Bool.eq_false_iff];intro hc;obtain ⟨j,hj⟩:=List.getElem?_of_mem (List.contains_iff_mem.1 hc);exact h3 z hz j hj
  ·unfold partL;simp only [List.length_take];have:=sizeN_spec y.d.length;omega
structure FinSame (ff:ByteArray->Option (List UInt8)) (X:List RF):Prop where
 mem:∀ n d,ff n=some d↔∃ x∈X,x.nm=n/\x.d=d
 ord:X.Pairwise fun a b=>lessF a b=true
theorem FinSame.nil:FinSame (fun _=>none) []:=⟨fun n d=>by simp,List.Pairwise.nil⟩
theorem insX_mem' {o:RF}:∀ {l:List RF},o∈insX o l/\∀ y∈l,y∈insX o l
 | []=>by simp [insX]
 | x::r=>by
  rw [insX];split
  ·exact ⟨List.mem_cons_self,fun y hy=>List.mem_cons_of_mem _ hy⟩
  ·refine ⟨List.mem_cons_of_mem _ (insX_mem' (l:=r)).1,fun y hy=>?_⟩;rcases List.mem_cons.1 hy with rfl | hy
   ·exact List.mem_cons_self
   ·exact List.mem_cons_of_mem _ ((insX_mem' (l:=r)).2 y hy)
theorem insX_ord {o:RF}:∀ {l:List RF},l.Pairwise (fun a b=>lessF a b=true)->(∀ x∈l,x.nm≠o.nm)->(insX o l).Pairwise (fun a b=>lessF a b=true)
 | [],_,_=>by simp [insX]
 | x::r,h,hn=>by
  rw [List.pairwise_cons] at h;rw [insX];split
  ·rename_i hl;refine List.pairwise_cons.2 ⟨fun y hy=>?_,List.pairwise_cons.2 h⟩;rcases List.mem_cons.1 hy with rfl | hy
   ·exact hl
   ·exact lessB_trans _ _ _ hl (h.1 y hy)
  ·rename_i hl;refine List.pairwise_cons.2 ⟨fun y hy=>?_,insX_ord h.2 fun y hy=>hn y (List.mem_cons_of_mem _ hy)⟩;rcases insX_mem hy with rfl | hy
   ·exact lessB_tot _ _ (by simpa [lessF] using hl) fun q=>hn x List.mem_cons_self (ba_ext q.symm)
   ·exact h.1 y hy
theorem FinSame.add {ff:ByteArray->Option (List UInt8)} {X:List RF} (S:FinSame ff X) (nm:ByteArray) (l:List UInt8) (o:RF) (h1:o.nm=nm) (h2:o.d=l):FinSame (addF nm l ff) (insX o (restF nm X)):=by
 have hr:∀ x,x∈restF nm X↔x∈X/\x.nm≠nm:=fun x=>by
  unfold restF;rw [List.mem_filter];refine and_congr_right fun _=>?_;simp only [Bool.not_eq_true',beq_eq_false_iff_ne];exact ⟨fun q e=>q (by rw [e]),fun q e=>q (ba_ext e)⟩
 refine ⟨fun n d=>?_,insX_ord (List.Pairwise.sublist List.filter_sublist S.ord) fun x hx=>by rw [h1];exact ((hr x).1 hx).2⟩;unfold addF;by_cases hn:n=nm
 ·rw [if_pos hn];constructor
  ·intro e
   cases e
   exact ⟨o,insX_mem'.1,h1.trans hn.symm,h2⟩
  ·rintro ⟨x,hx,hx1,hx2⟩;rcases insX_mem hx with rfl | hx
   ·rw [<-hx2,h2]
   ·exact absurd (hx1.trans hn) ((hr x).1 hx).2
 ·rw [if_neg hn,S.mem];constructor
  ·rintro ⟨x,hx,hx1,hx2⟩;exact ⟨x,insX_mem'.2 x ((hr x).2 ⟨hx,by rw [hx1];exact hn⟩),hx1,hx2⟩
  ·rintro ⟨x,hx,hx1,hx2⟩;rcases insX_mem hx with rfl | hx
   ·exact absurd (hx1.symm.trans h1) hn
   ·exact ⟨x,((hr x).1 hx).1,hx1,hx2⟩
theorem find_same {ff:ByteArray->Option (List UInt8)} {pl:List UInt8->List Pl} {X:List RF} (R:FinRel ff pl) (S:FinSame ff X) (h:List UInt8):(FB ff pl h).map Prod.snd=FRd X h:=by
 unfold FB FRd;by_cases hh:h.length=32
 ·rw [if_pos hh];by_cases hp:pl h=[]
  ·rw [if_neg (fun q=>q.2 hp),List.find?_eq_none.2 fun y hy=>?_]
   ·rfl
   ·intro hc;obtain ⟨j,hj⟩:=List.getElem?_of_mem (List.contains_iff_mem.1 hc);have:=(R.mem h hh y.nm j).2 ⟨y.d,j,rfl,(S.mem _ _).2 ⟨y,hy,rfl,rfl⟩,hj⟩;rw [hp] at this
    cases this
  ·have hl:0<(pl h).length:=List.length_pos_iff.2 hp;rw [if_pos ⟨hh,hp⟩];have hm:=minN_mem (pl h) ((pl h).length - 1) (by omega);have hle:=minN_le (pl h) ((pl h).length - 1);generalize minN (pl h) ((pl h).length - 1)=p at *;obtain ⟨n,j0⟩:=p;obtain ⟨d,j,rfl,hd,hj⟩:=(R.mem h hh n j0).1 hm;obtain ⟨y,hy,rfl,rfl⟩:=(S.mem _ _).1 hd;obtain ⟨i,hi⟩:=List.getElem?_of_mem hy;rw [find_first (p:=fun x=>(hashesL x.d).contains h) (i:=i) (x:=y) hi (List.contains_iff_mem.2 (List.mem_of_getElem? hj)) fun z hz=>?_]
   ·dsimp only [Option.map_some];rw [hd]
    have hk:(hashesL y.d).idxOf h=j:=idx_firstF hj fun k hk hc=>by
     obtain ⟨i2,hi2⟩:=List.getElem?_of_mem ((R.mem h hh y.nm k).2 ⟨y.d,k,rfl,hd,hc⟩);have:=(List.getElem?_eq_some_iff.1 hi2).1;exact hle i2 (y.nm,(k:Int)) (by omega) (by omega) hi2 (.inr ⟨rfl,by show (k:Int)<(j:Int);omega⟩)
    rw [hk];rfl
   ·rw [Bool.eq_false_iff];intro hc;obtain ⟨k,hk⟩:=List.getElem?_of_mem (List.contains_iff_mem.1 hc);obtain ⟨iz,hiz⟩:=List.getElem?_of_mem hz;have hzl:=(List.getElem?_eq_some_iff.1 hiz).1;rw [List.length_take] at hzl;rw [List.getElem?_take,if_pos (by omega)] at hiz;have hzX:z∈X:=List.mem_of_getElem? hiz;obtain ⟨i2,hi2⟩:=List.getElem?_of_mem ((R.mem h hh z.nm k).2 ⟨z.d,k,rfl,(S.mem _ _).2 ⟨z,hzX,rfl,rfl⟩,hk⟩);have:=(List.getElem?_eq_some_iff.1 hi2).1
    have hlt:lessF z y=true:=by
     have h1:=(List.getElem?_eq_some_iff.1 hiz);have h2:=(List.getElem?_eq_some_iff.1 hi);have:=List.pairwise_iff_getElem.1 S.ord iz i h1.1 h2.1 (by omega);rw [h1.2,h2.2] at this;exact this
    exact hle i2 (z.nm,(k:Int)) (by omega) (by omega) hi2 (.inl hlt)
 ·rw [if_neg (fun q=>hh q.1),if_neg hh];rfl
end
end Go.Proofs.YtldppmjjgljinaaGreatDoor
