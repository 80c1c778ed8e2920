/- WalkAll: each path is found, or passed over, or lies within what is passed over, just one of these; what is found lies within what is found ahead of it; what is found is what Item tells: whatever is put on a disk, whatever root, whatever files of patterns: the statement WalkAllCardSaid, with no condition of its own. -/
import Derived.Test.YtodickpibbbiiaaGreatDoorWbA1
import Derived.Test.YtodickpibbbiiaaGreatDoorWbB1
import Derived.Test.YtodickpibbbiiaaGreatDoorWbF1

import Derived.Test.YtodickpibbbiiaaGreatDoorWbF2





import Derived.Test.YtodickpibbbiiaaGreatDoorWalkAllF
import Derived.Test.YtodickpibbbiiaaGreatDoorWalkAllG
namespace Go.Proofs.YtodickpibbbiiaaGreatDoor.lawWalkAll
open Go.ChangeShapes Go.WideShapes Go.ChangeAt Go.RowKit
open Go.ChangeMaps (open_string)

attribute [local go_sem] Oper.semAt_some
set_option maxRecDepth 100000 in
set_option maxHeartbeats 8000000 in
theorem walk (v vf:Value) (root:ByteArray) (l:List PutR) (fs:List (ByteArray×ByteArray)) (w:World) (hA:PutsIn w v l) (hF:FilesIn w vf fs) (hfs:∀ f∈fs,f.1.size≤reach∧f.2.size≤reach) (hroot:root.size≤reach) (E:Env w) (T:ShaTabs w) :
    Calls Tryz.prog 5 #[v,.string root,vf] w fun e w'=>e=.returned (.bool true)∧Below w.heap.size w w':=by
  have HX0:=Lib.hid ((Ext.refl w).alloc (.cells #[.bool false] 4 (0,0)))
  have HLg:=Lib.hid (plarge_any (hA.ext HX0.out) (hF.ext HX0.out) hfs)
  have HAw:=Lib.hid (fun w1 (x:Ext w w1)=>awake17_any w1 (E.ext x) (T.ext x))
  have HE:=Lib.hid E
  have HT:=Lib.hid T
  have HA:=Lib.hid hA
  have HFi:=Lib.hid hF
  obtain ⟨va,vc,rfl,_⟩:=hA.shape
  obtain ⟨fa,fc,rfl,_⟩:=hF
  clear hA E T hfs
  have HB0:=Lib.hid (block_alloc_new w (.cells #[.bool false] 4 (0,0)))
  refine callsIn_wide.1 (callsIn_of_wp_marks (n:=4) Tryz.func5 rfl trivial ?_ rfl)
  simp only [Tryz.ntmps5,List.size_toArray,List.length_cons,List.length_nil,Nat.reduceAdd,Nat.reduceSub,Array.replicate_succ,Array.replicate_zero,List.push_toArray,List.append_toArray,List.nil_append,List.cons_append]
  refine wpIn_wide.2 ?_
  cases hlg:largeP l fs with
  | true =>
    rw [hlg] at HLg
    go_wp2_with fail
    refine (HLg.out).mono ?_
    rintro e w1 ⟨rfl,x1⟩
    have HX1:=Lib.hid x1
    clear x1
    go_wp2_with fail
    refine (HAw.out _ (HX0.out.trans HX1.out)).mono ?_
    rintro e w2 ⟨rfl,x2⟩
    have HX2:=Lib.hid (HX1.out.trans x2)
    clear x2
    have HB2:=Lib.hid ((HX2.out.block (ltB HB0.out)).trans HB0.out)
    go_wp2_with (refine wpList_storeB rfl _ _ _ rfl w.heap.size (.bool true) (.bool false) rfl rfl (by kernel_rfl) rfl _ HB2.out ?_;intro w9 hb9 ht9;have HB9:=Lib.hid hb9;have HT9:=Lib.hid ht9;clear hb9 ht9;go_frame)
    exact ⟨_,results_bool rfl _ _ _ _ _ _ rfl HB9.out,rfl,HT9.out.fresh (HX0.out.trans HX2.out) (Nat.le_refl _)⟩
  | false =>
    rw [hlg] at HLg
    obtain ⟨hl40,_,hls,hfl⟩:=largeP_not hlg
    have HFL:=Lib.hid hfl
    have HE0:=Lib.hid (HE.out.ext HX0.out)
    have HT0:=Lib.hid (HT.out.ext HX0.out)
    have HA0:=Lib.hid (HA.out.ext HX0.out)
    have HF0:=Lib.hid (HFi.out.ext HX0.out)
    have HAw0:=Lib.hid (fun w1 (x:Ext (w.alloc (.cells #[.bool false] 4 (0,0))) w1)=>HAw.out w1 (HX0.out.trans x))
    have HR:=Lib.hid ((RunF.made l).mono (show l.length*201≤8040 by omega))
    obtain ⟨D,hD⟩:∃ D,D=madeD l:=⟨_,rfl⟩
    clear HE HT HA HFi HAw
    go_wp2_with fail
    refine HLg.out.mono ?_
    rintro e w1 ⟨rfl,x1⟩
    have HX1:=Lib.hid x1
    clear x1 HLg
    have hlt0:w.heap.size<(w.alloc (.cells #[.bool false] 4 (0,0))).heap.size:=ltB HB0.out
    generalize w.alloc (.cells #[.bool false] 4 (0,0))=w0 at *
    have HM:=Lib.hid (fun w1 (x:Ext w0 w1)=>made_any (Things.start x) HE0.out HA0.out hl40 hls)
    rw [←hD] at HM HR
    clear hD hlg hls hfl hl40
    go_wp2_with fail
    refine (HM.out _ HX1.out).mono ?_
    rintro e w2 ⟨d,r,rfl,h2⟩
    have HT2:=Lib.hid (show Things w0 w2 [.disk d D,.ref r D] from h2.out)
    have HX2:=Lib.hid HT2.out.is_ext
    clear h2 HM HX1
    go_wp2_with fail
    refine (parse17_any (HF0.out.ext HX2.out) HFL.out (HE0.out.ext HX2.out)).mono ?_
    rintro e w3 ⟨lv,rfl,h3⟩
    have H3:=h3
    have HX3:=Lib.hid (HX2.out.trans h3.out.1)
    clear h3
    generalize patR (parseL (fsL fs) (⟨#[105]⟩:ByteArray).toList)=ig at *
    generalize patE (parseL (fsL fs) (⟨#[105]⟩:ByteArray).toList)=er at *
    have HW1:=Lib.hid (wseen_any (A:=[]) (B:=[.ref r D]) (HT2.out.ext H3.out.1) HR.out (by decide) (HE0.out.ext HX3.out) (HT0.out.ext HX3.out) root hroot H3.out.2)
    go_wp2_with fail
    refine HW1.out.mono ?_
    rintro e w4 ⟨x0,x1,x2,x3,re,L,rfl,h4⟩
    have HS:=Lib.hid h4.out.1
    have HX4:=Lib.hid (HX3.out.trans h4.out.2.2.2.2.2)
    have H34:=Lib.hid h4.out.2.2.2.2.2
    have HQ:=Lib.hid h4.out.2.1
    have HTm:=Lib.hid h4.out.2.2.1
    have HIg:=Lib.hid h4.out.2.2.2.1
    have HBad:=Lib.hid h4.out.2.2.2.2.1
    obtain ⟨a0,c0,rfl,hq1,hq2,hxg⟩:=h4.out.2.1
    obtain ⟨⟨a1,c1,rfl,_⟩,_⟩:=h4.out.2.2.1
    obtain ⟨⟨a2,c2,rfl,_⟩,_⟩:=h4.out.2.2.2.1
    obtain ⟨⟨a3,c3,rfl,_⟩,_⟩:=h4.out.2.2.2.2.1
    have HXG:=Lib.hid hxg
    clear h4 hxg HW1
    have HBX:=Lib.hid (block_alloc_new w4 (.cells #[.slice a0 (walkS ig L).items.length c0,.slice a1 (walkS ig L).temps.length c1,.slice a2 (walkS ig L).ign.length c2,.slice a3 (walkS ig L).bad.length c3] 37 (0,0)))
    have X5:=Lib.hid ((Ext.refl w4).alloc (.cells #[.slice a0 (walkS ig L).items.length c0,.slice a1 (walkS ig L).temps.length c1,.slice a2 (walkS ig L).ign.length c2,.slice a3 (walkS ig L).bad.length c3] 37 (0,0)))
    by_cases hre:re=0
    · subst hre
      obtain ⟨hr160,hr0,rfl⟩:=HS.out.ok rfl
      have HTd:=Lib.hid (eachL_tidy HR.out.run.ok root)
      have HEL:=Lib.hid (eachL_le D root)
      have HLV:=Lib.hid (live_few HR.out.run)
      have HTot:=Lib.hid (walkS_total ig (eachL D root))
      have HKi:=Lib.hid (walkS_is ig HTd.out)
      have HDH:=Lib.hid (fun i x h=>@dirs_home D HR.out.run.ok root ig i x h)
      have HII:=Lib.hid (fun x h=>@item_is D HR.out.run.ok root ig x h)
      have HONE:=Lib.hid (fun x hx=>@all_once ig _ HTd.out x hx)
      obtain ⟨SX,hSX⟩:∃ SX,SX=walkS ig (eachL D root):=⟨_,rfl⟩
      rw [←hSX] at HBX X5 HXG hq1 HQ HTm HIg HBad HTot HKi HDH HII HONE ⊢
      clear hSX
      have HS3:=Lib.hid (show (∀ q∈SX.temps,q.size≤160)∧(∀ q∈SX.ign,q.size≤160)∧(∀ q∈SX.bad,q.size≤160) from by
        refine ⟨fun q hq=>?_,fun q hq=>?_,fun q hq=>?_⟩
        · rw [HKi.out.temps] at hq
          obtain ⟨x,hx,rfl⟩:=List.mem_map.1 hq
          exact mayB_size (HTd.out.may x (List.mem_filter.1 hx).1)
        · rw [HKi.out.ign] at hq
          obtain ⟨x,hx,rfl⟩:=List.mem_map.1 hq
          exact mayB_size (HTd.out.may x (List.mem_filter.1 hx).1)
        · rw [HKi.out.bad] at hq
          obtain ⟨x,hx,rfl⟩:=List.mem_map.1 hq
          exact mayB_size (HTd.out.may x (List.mem_filter.1 hx).1))
      have HL3:=Lib.hid (show SX.temps.length≤16384∧SX.ign.length≤16384∧SX.bad.length≤16384 from by have h1:=HTot.out;unfold WSt.total at h1;have:=HEL.out;have:=HLV.out;omega)
      have HLI:=Lib.hid (show SX.items.length≤16384 from by have h1:=HTot.out;unfold WSt.total at h1;have:=HEL.out;have:=HLV.out;omega)
      obtain ⟨nX,hnX⟩:∃ n,n=SX.items.length:=⟨_,rfl⟩
      have HNX:=Lib.hid hnX
      rw [←hnX] at HBX hq1 X5 ⊢
      have hX16:nX≤16384:=hnX▸HLI.out
      clear hnX
      go_wp2_with fail
      obtain ⟨w5,hw5⟩:∃ w5,w5=w4.alloc (.cells #[.slice a0 nX c0,.slice a1 SX.temps.length c1,.slice a2 SX.ign.length c2,.slice a3 SX.bad.length c3] 37 (0,0)):=⟨_,rfl⟩
      rw [←hw5] at HBX X5 ⊢
      have hs5:w5.heap.size=w4.heap.size+1:=by rw [hw5];simp only [size_alloc]
      clear hw5
      have HFB:=Lib.hid (block_alloc_new w5 (.cells #[.slice none 0 0] 35 (0,0)))
      have X56:=Lib.hid ((Ext.refl w5).alloc (.cells #[.slice none 0 0] 35 (0,0)))
      have hs6:(w5.alloc (.cells #[.slice none 0 0] 35 (0,0))).heap.size=w5.heap.size+1:=by simp only [size_alloc]
      generalize w5.alloc (.cells #[.slice none 0 0] 35 (0,0))=w6 at *
      have HX5:=Lib.hid (HX4.out.trans X5.out)
      rw [hs5] at HFB hs6
      have HBX5:=HBX
      have hl45:w4.heap.size<w5.heap.size:=ltB HBX.out
      have hl05:w.heap.size<w5.heap.size:=Nat.lt_of_lt_of_le hlt0 HX5.out.size
      go_loopw [13,15] (fun dv iv wr=>Hid (∃ (i:Nat) (fv:Value),i≤nX∧iv=.int .i64 i∧Two (w4.heap.size+1) (w4.heap.size+2) w5 wr dv fv (dirsL (SX.items.take i)) ((SX.items.take i).map (·.1)))) (fun _ iv _=>nX - (intOf iv).toNat)
      case atStart=>exact ⟨0,.slice none 0 0,Nat.zero_le _,rfl,HFB.out,World.ownsRow_nil _ _ _ _,World.ownsRow_nil _ _ _ _,fun b hb=>by simp [Value.ownBlock] at hb,X56.out,Nat.le_of_eq hs5,Nat.lt_succ_self _⟩
      case round =>
        obtain ⟨i,fv,hi,rfl,hTw⟩:=hrel.out
        clear hrel
        have HTW:=Lib.hid hTw
        have HX:=Lib.hid hTw.ext
        have HBXr:=Lib.hid ((HX.out.block (ltB HBX.out)).trans HBX.out)
        have bx0:wr.cell? ⟨w4.heap.size,0,none⟩=some (.slice a0 nX c0):=cellB HBXr.out
        clear hTw
        by_cases hlt:i<nX
        · obtain ⟨y,hy⟩:∃ y,SX.items[i]?=some y:=⟨_,List.getElem?_eq_getElem (by have:=HNX.out;omega)⟩
          obtain ⟨gy,u,rfl,hu,hcu⟩:=HXG.out i y hy
          have HLD:=Lib.hid (show wr.rangeAt gy (i*27) (itemU y u).toArray.toList from fun j z hz=>by
            have hz':(itemU y u)[j]?=some z:=hz
            exact ((X5.out.trans HX.out).cell (lt_of_cell (hcu j z hz'))).trans (hcu j z hz'))
          have HT1:=Lib.hid (row_told hu)
          have HY:=Lib.hid hy
          obtain ⟨hye,hyt,hyb⟩:=HII.out y (List.mem_of_getElem? hy)
          have HYE:=Lib.hid hye
          have hym:=HTd.out.may y hye
          have HYS:=Lib.hid (mayB_size hym)
          have HYM:=Lib.hid hym
          have HYB:=Lib.hid hyb
          have HYT:=Lib.hid hyt
          clear hcu hu hy hye
          obtain ⟨yc,hyc⟩:∃ yc,yc=(itemU y u).toArray:=⟨_,rfl⟩
          rw [←hyc] at HLD HT1
          clear hyc
          have HI1:=Lib.hid (show (Tryz.prog.info? 45).map (·.size)=some yc.size from by rw [HT1.out.len];kernel_rfl)
          go_wp2_with (first
            | (refine wpList_load_at rfl 45 (.tmp 79) rfl gy (i*27) rfl yc _ HLD.out Tryz.underlying45 rfl HI1.out ?_;go_frame)
            | (refine wpList_storeT rfl _ _ _ rfl wr.heap.size yc rfl rfl 45 _ (block_alloc_new wr _) HI1.out HT1.out.len.symm HT1.out.one ?_;intro w8 hb8 ht8;have HB8:=Lib.hid hb8;have X8:=Lib.hid (ht8.fresh ((Ext.refl wr).alloc _) (Nat.le_refl _));clear hb8 ht8;have r0:w8.cell? ⟨wr.heap.size,0,none⟩=some (.string y.1):=(cellB HB8.out).trans HT1.out.c0;go_frame))
          have hpr:=parent_any y.1 w8 (by have:=HYS.out;omega) (HE0.out.ext (HX5.out.trans (HX.out.trans X8.out)))
          rw [parentR_may hym,hym] at hpr
          refine hpr.mono ?_
          rintro e w9 ⟨rfl,x9⟩
          clear hpr r0 bx0
          have Xw9:=Lib.hid (X8.out.trans x9)
          have HBw9:=Lib.hid ((x9.block (ltB HB8.out)).trans HB8.out)
          clear x9
          -- @@A
          cases hpe:(parentS y.1).toList.isEmpty with
          | true =>
            have hpe2:parentS y.1=⟨#[]⟩:=ba_ext ((List.isEmpty_iff.1 hpe).trans (by rw [Lib.toList_data]))
            rw [hpe2]
            clear hpe
            have HTWA:=Lib.hid (HTW.out.more Xw9.out)
            by_cases hk:y.2.kind=2
            · have gk:decide (y.2.kind=2)=true:=decide_eq_true hk
              have s0:w9.cell? ⟨wr.heap.size,0,none⟩=some (.string y.1):=(cellB HBw9.out).trans HT1.out.c0
              have s1:w9.cell? ⟨wr.heap.size,1,none⟩=some (.int .i64 y.2.kind):=(cellB HBw9.out).trans HT1.out.c1
              have hlenD:(dirsL (SX.items.take i)).length≤16384:=Nat.le_trans (dirsL_le _ _) (by omega)
              go_wp2_with (at_builtin;refine append_kw elText (w4.heap.size+2) u13 _ _ (owns_ext HTWA.out.dirs ((Ext.refl w9).alloc (.cells #[.string y.1] 9 (0,0)))) w9.heap.size [.string y.1] rfl (.tmp 102) (.tmp 105) rfl rfl rfl rfl (fun j u hj=>(cellB (block_alloc_new w9 _)).trans (by simpa using hj)) (by simp [Value.oneCell']) (by omega) (by have:=ltB HTWA.out.box;simp only [size_alloc];omega) ?_;intro vb wB hoB hgB hirB hvB;have HOB:=Lib.hid hoB;have HGB:=Lib.hid hgB;have HVB:=Lib.hid hvB;obtain ⟨bg,bcap,rfl,_⟩:=hirB;clear hoB hgB hvB;have HBB:=Lib.hid ((HGB.out.block wr.heap.size (by have:=ltB HBw9.out;simp only [size_alloc];omega) (fun e=>by have:=own_lt HTW.out.dirs _ e.symm;omega)).trans ((((Ext.refl w9).alloc (.cells #[.string y.1] 9 (0,0))).block (ltB HBw9.out)).trans HBw9.out));have s2:wB.cell? ⟨wr.heap.size,0,none⟩=some (.string y.1):=(cellB HBB.out).trans HT1.out.c0;go_frame)
              have HTWB:=Lib.hid (show Two (w4.heap.size+1) (w4.heap.size+2) w5 wB _ fv (dirsL (SX.items.take (i+1))) ((SX.items.take i).map (·.1)) from by
                rw [dirsL_next HY.out,if_pos hk]
                exact (HTWA.out.more ((Ext.refl w9).alloc (.cells #[.string y.1] 9 (0,0)))).addDir HOB.out HGB.out HVB.out)
              clear s2
              have hx2:=HT2.out.ext (((H3.out.1.trans H34.out).trans X5.out).trans HTWB.out.ext)
              have hx0:=HX5.out.trans HTWB.out.ext
              refine (Item_many (A:=[]) (B:=[.ref r D]) hx2 HR.out (HE0.out.ext hx0) (HT0.out.ext hx0) root y.1 (by omega) (by have:=HYS.out;omega)).mono ?_
              rintro e wC ⟨C,ex,rfl,hC⟩
              obtain ⟨rfl,htd⟩:=one_told HR.out.run.ok HYE.out HYM.out HYB.out hC.out.1
              have HTD:=Lib.hid htd
              have HC1:=Lib.hid (show (Tryz.prog.info? 45).map (·.size)=some C.size from by rw [htd.len];kernel_rfl)
              have HBC:=Lib.hid ((hC.out.2.block (ltB HBB.out)).trans HBB.out)
              have HTWC:=Lib.hid (HTWB.out.more hC.out.2)
              obtain ⟨k23a,k23c,hk23⟩:=htd.c23
              obtain ⟨r23a,r23c,hr23⟩:=HT1.out.c23
              have HK23:=Lib.hid hk23
              have HR23:=Lib.hid hr23
              clear hx2 hx0 hC htd hk23 hr23
              go_wp2_with (refine wpList_storeT rfl _ _ _ rfl wC.heap.size C rfl rfl 45 _ (block_alloc_new wC _) HC1.out HTD.out.len.symm HTD.out.one ?_;intro wD hbD htD;have HBD:=Lib.hid hbD;have XD:=Lib.hid (htD.fresh ((Ext.refl wC).alloc _) (Nat.le_refl _));clear hbD htD;have HRD:=Lib.hid ((XD.out.block (ltB HBC.out)).trans HBC.out);have k0:wD.cell? ⟨wC.heap.size,0,none⟩=some (.string y.1):=(cellB HBD.out).trans HTD.out.c0;have k1:wD.cell? ⟨wC.heap.size,1,none⟩=some (.int .i64 y.2.kind):=(cellB HBD.out).trans HTD.out.c1;have k3:wD.cell? ⟨wC.heap.size,3,none⟩=some (.int .i64 (sizeI y.2:Nat)):=(cellB HBD.out).trans HTD.out.c3;have k23:wD.cell? ⟨wC.heap.size,23,none⟩=some (.slice k23a (manyI y.2) k23c):=(cellB HBD.out).trans HK23.out;have q0:wD.cell? ⟨wr.heap.size,0,none⟩=some (.string y.1):=(cellB HRD.out).trans HT1.out.c0;have q1:wD.cell? ⟨wr.heap.size,1,none⟩=some (.int .i64 y.2.kind):=(cellB HRD.out).trans HT1.out.c1;have q3:wD.cell? ⟨wr.heap.size,3,none⟩=some (.int .i64 (sizeI y.2:Nat)):=(cellB HRD.out).trans HT1.out.c3;have q23:wD.cell? ⟨wr.heap.size,23,none⟩=some (.slice r23a (manyI y.2) r23c):=(cellB HRD.out).trans HR23.out;go_frame)
              have hit:=isTemp_any y.1 wD (by have:=HYS.out;omega)
              rw [HYT.out] at hit
              refine hit.mono ?_
              rintro e wE ⟨rfl,nE,rfl⟩
              have g3:decide ((4096:Int)<((sizeI y.2:Nat):Int))=false:=by have:=sizeI_le HYB.out;rw [decide_eq_false_iff_not];omega
              obtain ⟨wE,hwE⟩:∃ wE,wE=wD.drewN nE:=⟨_,rfl⟩
              have XE:=Lib.hid (show Ext wC wE from hwE▸(XD.out.trans ((Ext.refl wD).drewN nE)))
              have XDE:=Lib.hid (show Ext wD wE from hwE▸((Ext.refl wD).drewN nE))
              rw [←hwE]
              clear hwE hit k0 k1 k3 k23 q0 q1 q3 q23
              have HRE:=Lib.hid ((XDE.out.block (ltB HRD.out)).trans HRD.out)
              have HTWE:=Lib.hid (HTWC.out.more XE.out)
              have q0:wE.cell? ⟨wr.heap.size,0,none⟩=some (.string y.1):=(cellB HRE.out).trans HT1.out.c0
              have q3:wE.cell? ⟨wr.heap.size,3,none⟩=some (.int .i64 (sizeI y.2:Nat)):=(cellB HRE.out).trans HT1.out.c3
              have b14:wE.cell? ⟨w4.heap.size+1,0,none⟩=some fv:=cellB HTWE.out.box
              have hlen:((SX.items.take i).map (·.1)).length≤16384:=by rw [List.length_map,List.length_take];omega
              have hl5E:=HTWE.out.ext.size
              go_wp2_with (first
                | (at_builtin;refine append_kw elText (w4.heap.size+2) fv _ _ (owns_ext HTWE.out.found ((Ext.refl wE).alloc (.cells #[.string y.1] 9 (0,0)))) wE.heap.size [.string y.1] rfl (.tmp 157) (.tmp 160) rfl rfl rfl rfl (fun j u hj=>(cellB (block_alloc_new wE _)).trans (by simpa using hj)) (by simp [Value.oneCell']) (by omega) (by have:=ltB HTWE.out.box;simp only [size_alloc];omega) ?_;intro va wF hoF hgF hirF hvF;have HOF:=Lib.hid hoF;have HGF:=Lib.hid hgF;have HVF:=Lib.hid hvF;obtain ⟨fg,fcap,rfl,_⟩:=hirF;clear hoF hgF hvF;go_frame)
                | (refine wpList_storeB rfl _ _ _ rfl (w4.heap.size+1) (.slice (some ⟨fg,0,none⟩) (((SX.items.take i).map (·.1)).length+1) fcap) fv rfl rfl (by kernel_rfl) rfl _ ((HGF.out.block (w4.heap.size+1) (by have:=ltB HTWE.out.box;simp only [size_alloc];omega) (fun e=>by have:=own_ge HTWE.out.found _ e.symm;omega)).trans ((((Ext.refl wE).alloc (.cells #[.string y.1] 9 (0,0))).block (ltB HTWE.out.box)).trans HTWE.out.box)) ?_;intro wG hbG htG;have HBG:=Lib.hid hbG;have HTG:=Lib.hid htG;clear hbG htG;go_frame))
              have HFIN:=Lib.hid (show Two (w4.heap.size+1) (w4.heap.size+2) w5 wG _ _ (dirsL (SX.items.take (i+1))) ((SX.items.take (i+1)).map (·.1)) from by
                rw [show (SX.items.take (i+1)).map (·.1)=(SX.items.take i).map (·.1)++[y.1] from by rw [List.take_add_one,HY.out];simp]
                exact (HTWE.out.more ((Ext.refl wE).alloc (.cells #[.string y.1] 9 (0,0)))).addFound HOF.out HGF.out HVF.out HBG.out HTG.out)
              go_roundw
              case rel=>exact ⟨i+1,_,by omega,by go_num,HFIN.out⟩
              case measure=>simp [intOf] <;> omega
            · have gk:decide (y.2.kind=2)=false:=decide_eq_false hk
              have HTWB:=Lib.hid (show Two (w4.heap.size+1) (w4.heap.size+2) w5 w9 u13 fv (dirsL (SX.items.take (i+1))) ((SX.items.take i).map (·.1)) from by rw [dirsL_next HY.out,if_neg hk,List.append_nil];exact HTWA.out)
              have HBB:=HBw9
              have s0:w9.cell? ⟨wr.heap.size,0,none⟩=some (.string y.1):=(cellB HBB.out).trans HT1.out.c0
              have s1:w9.cell? ⟨wr.heap.size,1,none⟩=some (.int .i64 y.2.kind):=(cellB HBB.out).trans HT1.out.c1
              go_wp2_with fail
              have hx2:=HT2.out.ext (((H3.out.1.trans H34.out).trans X5.out).trans HTWB.out.ext)
              have hx0:=HX5.out.trans HTWB.out.ext
              refine (Item_many (A:=[]) (B:=[.ref r D]) hx2 HR.out (HE0.out.ext hx0) (HT0.out.ext hx0) root y.1 (by omega) (by have:=HYS.out;omega)).mono ?_
              rintro e wC ⟨C,ex,rfl,hC⟩
              obtain ⟨rfl,htd⟩:=one_told HR.out.run.ok HYE.out HYM.out HYB.out hC.out.1
              have HTD:=Lib.hid htd
              have HC1:=Lib.hid (show (Tryz.prog.info? 45).map (·.size)=some C.size from by rw [htd.len];kernel_rfl)
              have HBC:=Lib.hid ((hC.out.2.block (ltB HBB.out)).trans HBB.out)
              have HTWC:=Lib.hid (HTWB.out.more hC.out.2)
              obtain ⟨k23a,k23c,hk23⟩:=htd.c23
              obtain ⟨r23a,r23c,hr23⟩:=HT1.out.c23
              have HK23:=Lib.hid hk23
              have HR23:=Lib.hid hr23
              clear hx2 hx0 hC htd hk23 hr23
              go_wp2_with (refine wpList_storeT rfl _ _ _ rfl wC.heap.size C rfl rfl 45 _ (block_alloc_new wC _) HC1.out HTD.out.len.symm HTD.out.one ?_;intro wD hbD htD;have HBD:=Lib.hid hbD;have XD:=Lib.hid (htD.fresh ((Ext.refl wC).alloc _) (Nat.le_refl _));clear hbD htD;have HRD:=Lib.hid ((XD.out.block (ltB HBC.out)).trans HBC.out);have k0:wD.cell? ⟨wC.heap.size,0,none⟩=some (.string y.1):=(cellB HBD.out).trans HTD.out.c0;have k1:wD.cell? ⟨wC.heap.size,1,none⟩=some (.int .i64 y.2.kind):=(cellB HBD.out).trans HTD.out.c1;have k3:wD.cell? ⟨wC.heap.size,3,none⟩=some (.int .i64 (sizeI y.2:Nat)):=(cellB HBD.out).trans HTD.out.c3;have k23:wD.cell? ⟨wC.heap.size,23,none⟩=some (.slice k23a (manyI y.2) k23c):=(cellB HBD.out).trans HK23.out;have q0:wD.cell? ⟨wr.heap.size,0,none⟩=some (.string y.1):=(cellB HRD.out).trans HT1.out.c0;have q1:wD.cell? ⟨wr.heap.size,1,none⟩=some (.int .i64 y.2.kind):=(cellB HRD.out).trans HT1.out.c1;have q3:wD.cell? ⟨wr.heap.size,3,none⟩=some (.int .i64 (sizeI y.2:Nat)):=(cellB HRD.out).trans HT1.out.c3;have q23:wD.cell? ⟨wr.heap.size,23,none⟩=some (.slice r23a (manyI y.2) r23c):=(cellB HRD.out).trans HR23.out;go_frame)
              have hit:=isTemp_any y.1 wD (by have:=HYS.out;omega)
              rw [HYT.out] at hit
              refine hit.mono ?_
              rintro e wE ⟨rfl,nE,rfl⟩
              have g3:decide ((4096:Int)<((sizeI y.2:Nat):Int))=false:=by have:=sizeI_le HYB.out;rw [decide_eq_false_iff_not];omega
              obtain ⟨wE,hwE⟩:∃ wE,wE=wD.drewN nE:=⟨_,rfl⟩
              have XE:=Lib.hid (show Ext wC wE from hwE▸(XD.out.trans ((Ext.refl wD).drewN nE)))
              have XDE:=Lib.hid (show Ext wD wE from hwE▸((Ext.refl wD).drewN nE))
              rw [←hwE]
              clear hwE hit k0 k1 k3 k23 q0 q1 q3 q23
              have HRE:=Lib.hid ((XDE.out.block (ltB HRD.out)).trans HRD.out)
              have HTWE:=Lib.hid (HTWC.out.more XE.out)
              have q0:wE.cell? ⟨wr.heap.size,0,none⟩=some (.string y.1):=(cellB HRE.out).trans HT1.out.c0
              have q3:wE.cell? ⟨wr.heap.size,3,none⟩=some (.int .i64 (sizeI y.2:Nat)):=(cellB HRE.out).trans HT1.out.c3
              have b14:wE.cell? ⟨w4.heap.size+1,0,none⟩=some fv:=cellB HTWE.out.box
              have hlen:((SX.items.take i).map (·.1)).length≤16384:=by rw [List.length_map,List.length_take];omega
              have hl5E:=HTWE.out.ext.size
              go_wp2_with (first
                | (at_builtin;refine append_kw elText (w4.heap.size+2) fv _ _ (owns_ext HTWE.out.found ((Ext.refl wE).alloc (.cells #[.string y.1] 9 (0,0)))) wE.heap.size [.string y.1] rfl (.tmp 157) (.tmp 160) rfl rfl rfl rfl (fun j u hj=>(cellB (block_alloc_new wE _)).trans (by simpa using hj)) (by simp [Value.oneCell']) (by omega) (by have:=ltB HTWE.out.box;simp only [size_alloc];omega) ?_;intro va wF hoF hgF hirF hvF;have HOF:=Lib.hid hoF;have HGF:=Lib.hid hgF;have HVF:=Lib.hid hvF;obtain ⟨fg,fcap,rfl,_⟩:=hirF;clear hoF hgF hvF;go_frame)
                | (refine wpList_storeB rfl _ _ _ rfl (w4.heap.size+1) (.slice (some ⟨fg,0,none⟩) (((SX.items.take i).map (·.1)).length+1) fcap) fv rfl rfl (by kernel_rfl) rfl _ ((HGF.out.block (w4.heap.size+1) (by have:=ltB HTWE.out.box;simp only [size_alloc];omega) (fun e=>by have:=own_ge HTWE.out.found _ e.symm;omega)).trans ((((Ext.refl wE).alloc (.cells #[.string y.1] 9 (0,0))).block (ltB HTWE.out.box)).trans HTWE.out.box)) ?_;intro wG hbG htG;have HBG:=Lib.hid hbG;have HTG:=Lib.hid htG;clear hbG htG;go_frame))
              have HFIN:=Lib.hid (show Two (w4.heap.size+1) (w4.heap.size+2) w5 wG _ _ (dirsL (SX.items.take (i+1))) ((SX.items.take (i+1)).map (·.1)) from by
                rw [show (SX.items.take (i+1)).map (·.1)=(SX.items.take i).map (·.1)++[y.1] from by rw [List.take_add_one,HY.out];simp]
                exact (HTWE.out.more ((Ext.refl wE).alloc (.cells #[.string y.1] 9 (0,0)))).addFound HOF.out HGF.out HVF.out HBG.out HTG.out)
              go_roundw
              case rel=>exact ⟨i+1,_,by omega,by go_num,HFIN.out⟩
              case measure=>simp [intOf] <;> omega
          | false =>
            have hnp:decide (parentS y.1=⟨#[]⟩)=false:=decide_eq_false fun e=>by
              rw [e,Lib.toList_data] at hpe
              cases hpe
            have hwn:=(HDH.out i y HY.out).resolve_left (by rw [hpe];simp)
            have HTW9:=Lib.hid (HTW.out.more Xw9.out)
            have HPS:=Lib.hid (parentS_le y.1)
            go_wp2_with fail
            refine (how_any (TextsOwn.of HTW9.out.dirs rfl) (HE0.out.ext (HX5.out.trans (HX.out.trans Xw9.out))) (parentS y.1) (by have:=HPS.out;have:=HYS.out;omega) (fun q hq=>by
              obtain ⟨z,hz,rfl⟩:=List.mem_map.1 hq
              exact mayB_size (HTd.out.may z (HII.out z (List.mem_of_mem_take (List.mem_filter.1 hz).1)).1)) (Nat.le_trans (dirsL_le _ _) (by omega))).mono ?_
            rintro e w10 ⟨rfl,x10⟩
            have gh:(((howN (dirsL (SX.items.take i)) (parentS y.1):Nat):Int)==0)=false:=by rw [beq_eq_false_iff_ne];omega
            generalize ((howN (dirsL (SX.items.take i)) (parentS y.1):Nat):Int)=zh at *
            have Xw10:=Lib.hid (Xw9.out.trans x10)
            have HBw10:=Lib.hid ((x10.block (ltB HBw9.out)).trans HBw9.out)
            clear x10 hwn hnp hpe
            have HTWA:=Lib.hid (HTW.out.more Xw10.out)
            by_cases hk:y.2.kind=2
            · have gk:decide (y.2.kind=2)=true:=decide_eq_true hk
              have s0:w10.cell? ⟨wr.heap.size,0,none⟩=some (.string y.1):=(cellB HBw10.out).trans HT1.out.c0
              have s1:w10.cell? ⟨wr.heap.size,1,none⟩=some (.int .i64 y.2.kind):=(cellB HBw10.out).trans HT1.out.c1
              have hlenD:(dirsL (SX.items.take i)).length≤16384:=Nat.le_trans (dirsL_le _ _) (by omega)
              go_wp2_with (at_builtin;refine append_kw elText (w4.heap.size+2) u13 _ _ (owns_ext HTWA.out.dirs ((Ext.refl w10).alloc (.cells #[.string y.1] 9 (0,0)))) w10.heap.size [.string y.1] rfl (.tmp 102) (.tmp 105) rfl rfl rfl rfl (fun j u hj=>(cellB (block_alloc_new w10 _)).trans (by simpa using hj)) (by simp [Value.oneCell']) (by omega) (by have:=ltB HTWA.out.box;simp only [size_alloc];omega) ?_;intro vb wB hoB hgB hirB hvB;have HOB:=Lib.hid hoB;have HGB:=Lib.hid hgB;have HVB:=Lib.hid hvB;obtain ⟨bg,bcap,rfl,_⟩:=hirB;clear hoB hgB hvB;have HBB:=Lib.hid ((HGB.out.block wr.heap.size (by have:=ltB HBw10.out;simp only [size_alloc];omega) (fun e=>by have:=own_lt HTW.out.dirs _ e.symm;omega)).trans ((((Ext.refl w10).alloc (.cells #[.string y.1] 9 (0,0))).block (ltB HBw10.out)).trans HBw10.out));have s2:wB.cell? ⟨wr.heap.size,0,none⟩=some (.string y.1):=(cellB HBB.out).trans HT1.out.c0;go_frame)
              have HTWB:=Lib.hid (show Two (w4.heap.size+1) (w4.heap.size+2) w5 wB _ fv (dirsL (SX.items.take (i+1))) ((SX.items.take i).map (·.1)) from by
                rw [dirsL_next HY.out,if_pos hk]
                exact (HTWA.out.more ((Ext.refl w10).alloc (.cells #[.string y.1] 9 (0,0)))).addDir HOB.out HGB.out HVB.out)
              clear s2
              have hx2:=HT2.out.ext (((H3.out.1.trans H34.out).trans X5.out).trans HTWB.out.ext)
              have hx0:=HX5.out.trans HTWB.out.ext
              refine (Item_many (A:=[]) (B:=[.ref r D]) hx2 HR.out (HE0.out.ext hx0) (HT0.out.ext hx0) root y.1 (by omega) (by have:=HYS.out;omega)).mono ?_
              rintro e wC ⟨C,ex,rfl,hC⟩
              obtain ⟨rfl,htd⟩:=one_told HR.out.run.ok HYE.out HYM.out HYB.out hC.out.1
              have HTD:=Lib.hid htd
              have HC1:=Lib.hid (show (Tryz.prog.info? 45).map (·.size)=some C.size from by rw [htd.len];kernel_rfl)
              have HBC:=Lib.hid ((hC.out.2.block (ltB HBB.out)).trans HBB.out)
              have HTWC:=Lib.hid (HTWB.out.more hC.out.2)
              obtain ⟨k23a,k23c,hk23⟩:=htd.c23
              obtain ⟨r23a,r23c,hr23⟩:=HT1.out.c23
              have HK23:=Lib.hid hk23
              have HR23:=Lib.hid hr23
              clear hx2 hx0 hC htd hk23 hr23
              go_wp2_with (refine wpList_storeT rfl _ _ _ rfl wC.heap.size C rfl rfl 45 _ (block_alloc_new wC _) HC1.out HTD.out.len.symm HTD.out.one ?_;intro wD hbD htD;have HBD:=Lib.hid hbD;have XD:=Lib.hid (htD.fresh ((Ext.refl wC).alloc _) (Nat.le_refl _));clear hbD htD;have HRD:=Lib.hid ((XD.out.block (ltB HBC.out)).trans HBC.out);have k0:wD.cell? ⟨wC.heap.size,0,none⟩=some (.string y.1):=(cellB HBD.out).trans HTD.out.c0;have k1:wD.cell? ⟨wC.heap.size,1,none⟩=some (.int .i64 y.2.kind):=(cellB HBD.out).trans HTD.out.c1;have k3:wD.cell? ⟨wC.heap.size,3,none⟩=some (.int .i64 (sizeI y.2:Nat)):=(cellB HBD.out).trans HTD.out.c3;have k23:wD.cell? ⟨wC.heap.size,23,none⟩=some (.slice k23a (manyI y.2) k23c):=(cellB HBD.out).trans HK23.out;have q0:wD.cell? ⟨wr.heap.size,0,none⟩=some (.string y.1):=(cellB HRD.out).trans HT1.out.c0;have q1:wD.cell? ⟨wr.heap.size,1,none⟩=some (.int .i64 y.2.kind):=(cellB HRD.out).trans HT1.out.c1;have q3:wD.cell? ⟨wr.heap.size,3,none⟩=some (.int .i64 (sizeI y.2:Nat)):=(cellB HRD.out).trans HT1.out.c3;have q23:wD.cell? ⟨wr.heap.size,23,none⟩=some (.slice r23a (manyI y.2) r23c):=(cellB HRD.out).trans HR23.out;go_frame)
              have hit:=isTemp_any y.1 wD (by have:=HYS.out;omega)
              rw [HYT.out] at hit
              refine hit.mono ?_
              rintro e wE ⟨rfl,nE,rfl⟩
              have g3:decide ((4096:Int)<((sizeI y.2:Nat):Int))=false:=by have:=sizeI_le HYB.out;rw [decide_eq_false_iff_not];omega
              obtain ⟨wE,hwE⟩:∃ wE,wE=wD.drewN nE:=⟨_,rfl⟩
              have XE:=Lib.hid (show Ext wC wE from hwE▸(XD.out.trans ((Ext.refl wD).drewN nE)))
              have XDE:=Lib.hid (show Ext wD wE from hwE▸((Ext.refl wD).drewN nE))
              rw [←hwE]
              clear hwE hit k0 k1 k3 k23 q0 q1 q3 q23
              have HRE:=Lib.hid ((XDE.out.block (ltB HRD.out)).trans HRD.out)
              have HTWE:=Lib.hid (HTWC.out.more XE.out)
              have q0:wE.cell? ⟨wr.heap.size,0,none⟩=some (.string y.1):=(cellB HRE.out).trans HT1.out.c0
              have q3:wE.cell? ⟨wr.heap.size,3,none⟩=some (.int .i64 (sizeI y.2:Nat)):=(cellB HRE.out).trans HT1.out.c3
              have b14:wE.cell? ⟨w4.heap.size+1,0,none⟩=some fv:=cellB HTWE.out.box
              have hlen:((SX.items.take i).map (·.1)).length≤16384:=by rw [List.length_map,List.length_take];omega
              have hl5E:=HTWE.out.ext.size
              go_wp2_with (first
                | (at_builtin;refine append_kw elText (w4.heap.size+2) fv _ _ (owns_ext HTWE.out.found ((Ext.refl wE).alloc (.cells #[.string y.1] 9 (0,0)))) wE.heap.size [.string y.1] rfl (.tmp 157) (.tmp 160) rfl rfl rfl rfl (fun j u hj=>(cellB (block_alloc_new wE _)).trans (by simpa using hj)) (by simp [Value.oneCell']) (by omega) (by have:=ltB HTWE.out.box;simp only [size_alloc];omega) ?_;intro va wF hoF hgF hirF hvF;have HOF:=Lib.hid hoF;have HGF:=Lib.hid hgF;have HVF:=Lib.hid hvF;obtain ⟨fg,fcap,rfl,_⟩:=hirF;clear hoF hgF hvF;go_frame)
                | (refine wpList_storeB rfl _ _ _ rfl (w4.heap.size+1) (.slice (some ⟨fg,0,none⟩) (((SX.items.take i).map (·.1)).length+1) fcap) fv rfl rfl (by kernel_rfl) rfl _ ((HGF.out.block (w4.heap.size+1) (by have:=ltB HTWE.out.box;simp only [size_alloc];omega) (fun e=>by have:=own_ge HTWE.out.found _ e.symm;omega)).trans ((((Ext.refl wE).alloc (.cells #[.string y.1] 9 (0,0))).block (ltB HTWE.out.box)).trans HTWE.out.box)) ?_;intro wG hbG htG;have HBG:=Lib.hid hbG;have HTG:=Lib.hid htG;clear hbG htG;go_frame))
              have HFIN:=Lib.hid (show Two (w4.heap.size+1) (w4.heap.size+2) w5 wG _ _ (dirsL (SX.items.take (i+1))) ((SX.items.take (i+1)).map (·.1)) from by
                rw [show (SX.items.take (i+1)).map (·.1)=(SX.items.take i).map (·.1)++[y.1] from by rw [List.take_add_one,HY.out];simp]
                exact (HTWE.out.more ((Ext.refl wE).alloc (.cells #[.string y.1] 9 (0,0)))).addFound HOF.out HGF.out HVF.out HBG.out HTG.out)
              go_roundw
              case rel=>exact ⟨i+1,_,by omega,by go_num,HFIN.out⟩
              case measure=>simp [intOf] <;> omega
            · have gk:decide (y.2.kind=2)=false:=decide_eq_false hk
              have HTWB:=Lib.hid (show Two (w4.heap.size+1) (w4.heap.size+2) w5 w10 u13 fv (dirsL (SX.items.take (i+1))) ((SX.items.take i).map (·.1)) from by rw [dirsL_next HY.out,if_neg hk,List.append_nil];exact HTWA.out)
              have HBB:=HBw10
              have s0:w10.cell? ⟨wr.heap.size,0,none⟩=some (.string y.1):=(cellB HBB.out).trans HT1.out.c0
              have s1:w10.cell? ⟨wr.heap.size,1,none⟩=some (.int .i64 y.2.kind):=(cellB HBB.out).trans HT1.out.c1
              go_wp2_with fail
              have hx2:=HT2.out.ext (((H3.out.1.trans H34.out).trans X5.out).trans HTWB.out.ext)
              have hx0:=HX5.out.trans HTWB.out.ext
              refine (Item_many (A:=[]) (B:=[.ref r D]) hx2 HR.out (HE0.out.ext hx0) (HT0.out.ext hx0) root y.1 (by omega) (by have:=HYS.out;omega)).mono ?_
              rintro e wC ⟨C,ex,rfl,hC⟩
              obtain ⟨rfl,htd⟩:=one_told HR.out.run.ok HYE.out HYM.out HYB.out hC.out.1
              have HTD:=Lib.hid htd
              have HC1:=Lib.hid (show (Tryz.prog.info? 45).map (·.size)=some C.size from by rw [htd.len];kernel_rfl)
              have HBC:=Lib.hid ((hC.out.2.block (ltB HBB.out)).trans HBB.out)
              have HTWC:=Lib.hid (HTWB.out.more hC.out.2)
              obtain ⟨k23a,k23c,hk23⟩:=htd.c23
              obtain ⟨r23a,r23c,hr23⟩:=HT1.out.c23
              have HK23:=Lib.hid hk23
              have HR23:=Lib.hid hr23
              clear hx2 hx0 hC htd hk23 hr23
              go_wp2_with (refine wpList_storeT rfl _ _ _ rfl wC.heap.size C rfl rfl 45 _ (block_alloc_new wC _) HC1.out HTD.out.len.symm HTD.out.one ?_;intro wD hbD htD;have HBD:=Lib.hid hbD;have XD:=Lib.hid (htD.fresh ((Ext.refl wC).alloc _) (Nat.le_refl _));clear hbD htD;have HRD:=Lib.hid ((XD.out.block (ltB HBC.out)).trans HBC.out);have k0:wD.cell? ⟨wC.heap.size,0,none⟩=some (.string y.1):=(cellB HBD.out).trans HTD.out.c0;have k1:wD.cell? ⟨wC.heap.size,1,none⟩=some (.int .i64 y.2.kind):=(cellB HBD.out).trans HTD.out.c1;have k3:wD.cell? ⟨wC.heap.size,3,none⟩=some (.int .i64 (sizeI y.2:Nat)):=(cellB HBD.out).trans HTD.out.c3;have k23:wD.cell? ⟨wC.heap.size,23,none⟩=some (.slice k23a (manyI y.2) k23c):=(cellB HBD.out).trans HK23.out;have q0:wD.cell? ⟨wr.heap.size,0,none⟩=some (.string y.1):=(cellB HRD.out).trans HT1.out.c0;have q1:wD.cell? ⟨wr.heap.size,1,none⟩=some (.int .i64 y.2.kind):=(cellB HRD.out).trans HT1.out.c1;have q3:wD.cell? ⟨wr.heap.size,3,none⟩=some (.int .i64 (sizeI y.2:Nat)):=(cellB HRD.out).trans HT1.out.c3;have q23:wD.cell? ⟨wr.heap.size,23,none⟩=some (.slice r23a (manyI y.2) r23c):=(cellB HRD.out).trans HR23.out;go_frame)
              have hit:=isTemp_any y.1 wD (by have:=HYS.out;omega)
              rw [HYT.out] at hit
              refine hit.mono ?_
              rintro e wE ⟨rfl,nE,rfl⟩
              have g3:decide ((4096:Int)<((sizeI y.2:Nat):Int))=false:=by have:=sizeI_le HYB.out;rw [decide_eq_false_iff_not];omega
              obtain ⟨wE,hwE⟩:∃ wE,wE=wD.drewN nE:=⟨_,rfl⟩
              have XE:=Lib.hid (show Ext wC wE from hwE▸(XD.out.trans ((Ext.refl wD).drewN nE)))
              have XDE:=Lib.hid (show Ext wD wE from hwE▸((Ext.refl wD).drewN nE))
              rw [←hwE]
              clear hwE hit k0 k1 k3 k23 q0 q1 q3 q23
              have HRE:=Lib.hid ((XDE.out.block (ltB HRD.out)).trans HRD.out)
              have HTWE:=Lib.hid (HTWC.out.more XE.out)
              have q0:wE.cell? ⟨wr.heap.size,0,none⟩=some (.string y.1):=(cellB HRE.out).trans HT1.out.c0
              have q3:wE.cell? ⟨wr.heap.size,3,none⟩=some (.int .i64 (sizeI y.2:Nat)):=(cellB HRE.out).trans HT1.out.c3
              have b14:wE.cell? ⟨w4.heap.size+1,0,none⟩=some fv:=cellB HTWE.out.box
              have hlen:((SX.items.take i).map (·.1)).length≤16384:=by rw [List.length_map,List.length_take];omega
              have hl5E:=HTWE.out.ext.size
              go_wp2_with (first
                | (at_builtin;refine append_kw elText (w4.heap.size+2) fv _ _ (owns_ext HTWE.out.found ((Ext.refl wE).alloc (.cells #[.string y.1] 9 (0,0)))) wE.heap.size [.string y.1] rfl (.tmp 157) (.tmp 160) rfl rfl rfl rfl (fun j u hj=>(cellB (block_alloc_new wE _)).trans (by simpa using hj)) (by simp [Value.oneCell']) (by omega) (by have:=ltB HTWE.out.box;simp only [size_alloc];omega) ?_;intro va wF hoF hgF hirF hvF;have HOF:=Lib.hid hoF;have HGF:=Lib.hid hgF;have HVF:=Lib.hid hvF;obtain ⟨fg,fcap,rfl,_⟩:=hirF;clear hoF hgF hvF;go_frame)
                | (refine wpList_storeB rfl _ _ _ rfl (w4.heap.size+1) (.slice (some ⟨fg,0,none⟩) (((SX.items.take i).map (·.1)).length+1) fcap) fv rfl rfl (by kernel_rfl) rfl _ ((HGF.out.block (w4.heap.size+1) (by have:=ltB HTWE.out.box;simp only [size_alloc];omega) (fun e=>by have:=own_ge HTWE.out.found _ e.symm;omega)).trans ((((Ext.refl wE).alloc (.cells #[.string y.1] 9 (0,0))).block (ltB HTWE.out.box)).trans HTWE.out.box)) ?_;intro wG hbG htG;have HBG:=Lib.hid hbG;have HTG:=Lib.hid htG;clear hbG htG;go_frame))
              have HFIN:=Lib.hid (show Two (w4.heap.size+1) (w4.heap.size+2) w5 wG _ _ (dirsL (SX.items.take (i+1))) ((SX.items.take (i+1)).map (·.1)) from by
                rw [show (SX.items.take (i+1)).map (·.1)=(SX.items.take i).map (·.1)++[y.1] from by rw [List.take_add_one,HY.out];simp]
                exact (HTWE.out.more ((Ext.refl wE).alloc (.cells #[.string y.1] 9 (0,0)))).addFound HOF.out HGF.out HVF.out HBG.out HTG.out)
              go_roundw
              case rel=>exact ⟨i+1,_,by omega,by go_num,HFIN.out⟩
              case measure=>simp [intOf] <;> omega
          -- @@END
        · obtain rfl:i=nX:=by omega
          have htk:SX.items.take i=SX.items:=List.take_of_length_le (by have:=HNX.out;omega)
          rw [htk] at HTW
          have HM0:=Lib.hid (block_alloc_new wr (.cells #[.int .i64 0] 3 (0,0)))
          have XR1:=Lib.hid ((Ext.refl wr).alloc (.cells #[.int .i64 0] 3 (0,0)))
          go_wp2_with fail
          refine (each_any (some ⟨d,0,none⟩) root _).mono ?_
          rintro e wF ⟨rfl,hwF⟩
          have XF:=Lib.hid (show Ext wr wF from by rw [hwF];exact (((Ext.refl wr).alloc _).alloc _).alloc _)
          have HBd:=Lib.hid (show wF.heap[wr.heap.size+1]?=some (.cells #[.pointer (some ⟨d,0,none⟩)] 26 (0,0)) from by
            rw [hwF]
            have h1:=block_alloc_new (wr.alloc (.cells #[.int .i64 0] 3 (0,0))) (.cells #[.pointer (some ⟨d,0,none⟩)] 26 (0,0))
            rw [size_alloc] at h1
            exact (block_alloc_old (by simp only [size_alloc];omega)).trans h1)
          have HBr:=Lib.hid (show wF.heap[wr.heap.size+1+1]?=some (.cells #[.string root] 9 (0,0)) from by
            rw [hwF]
            have h1:=block_alloc_new ((wr.alloc (.cells #[.int .i64 0] 3 (0,0))).alloc (.cells #[.pointer (some ⟨d,0,none⟩)] 26 (0,0))) (.cells #[.string root] 9 (0,0))
            rw [size_alloc,size_alloc] at h1
            exact h1)
          have HBn:=Lib.hid (show wF.heap[wr.heap.size]?=some (.cells #[.int .i64 0] 3 (0,0)) from by
            rw [hwF]
            exact (block_alloc_old (by simp only [size_alloc];omega)).trans ((block_alloc_old (by simp only [size_alloc];omega)).trans HM0.out))
          have hsF:wF.heap.size=wr.heap.size+3:=by rw [hwF];simp only [size_alloc]
          clear hwF bx0
          have hxr:=Lib.hid (((H3.out.1.trans H34.out).trans X5.out).trans HX.out)
          obtain ⟨M,I,hdk,_⟩:=Things.opened (A:=[]) (B:=[.ref r D]) (HT2.out.ext hxr.out)
          have HDK:=Lib.hid hdk
          clear hdk
          go_wp2_with fail
          refine (wpIn_wide (n:=4)).1 ?_
          refine wpIn_rangeFunc_ownH rfl (by decide) (gf:=79) (lb:=#[.pointer (some ⟨wr.heap.size+1,0,none⟩),.pointer (some ⟨wr.heap.size+1+1,0,none⟩)]) rfl trivial (enters_of Tryz.func79 (by kernel_rfl) rfl)
            (each_stops 3 (by decide) (wb:=wr) (w0:=wF) (K:=fun _=>[wr.heap.size]) (n0:=wr.heap.size+1) (D:=D) root (HE0.out.ext (HX5.out.trans HX.out)) XF.out (fun _ _ _=>rfl) (by omega) (fun b hb=>?kl) (HDK.out.ext XF.out) HR.out.run (HR.out.run.fit (by decide)) (fun b hb hm=>?ki) (cellB HBd.out) (cellB HBr.out) (by simp;omega) (by omega))
            KpK.trans (fun W l o o' hl ho h1 h2=>KpK.turn (n0:=wr.heap.size+1) (fun _ _ _=>rfl) W l o o' (by omega) (by omega) ho h1 h2) (Below.refl _ _) (fun _=>rfl)
            (fun pre W=>Hid (Ext wr W∧W.heap[wr.heap.size]?=some (.cells #[.int .i64 (pre.length:Nat)] 3 (0,0)))) (fun _ pre _=>∃ p0 x,pre=p0++[x]∧SX.items.countP (fun y=>decide (y.1=(clipW x).1))+howN SX.temps (clipW x).1+howN SX.ign (clipW x).1+howN SX.bad (clipW x).1≠1) ?own (fun c s W W' row hs _ _=>hs) ⟨XF.out,HBn.out⟩
            (fun x a' W=>a'={ tmps:=#[.slice va l.length vc,.string root,.slice fa fs.length fc,undef,undef,undef,.pointer (some ⟨w.heap.size,0,none⟩),.pointer (some ⟨d,0,none⟩),.pointer (some ⟨r,0,none⟩),.pointer lv,.int .i64 er,.pointer (some ⟨w4.heap.size,0,none⟩),.int .i64 0,u13,.pointer (some ⟨w4.heap.size+1,0,none⟩),.int .i64 i,u16,u17,u18,u19,u20,.pointer (some ⟨wr.heap.size,0,none⟩),.string (clipW x).1,undef,undef,.slice va l.length vc,.slice fa fs.length fc,.bool false,undef,.tuple #[.pointer (some ⟨d,0,none⟩),.pointer (some ⟨r,0,none⟩)],.slice va l.length vc,.tuple #[.pointer (some ⟨d,0,none⟩),.pointer (some ⟨r,0,none⟩)],.pointer (some ⟨d,0,none⟩),.pointer (some ⟨r,0,none⟩),.pointer (some ⟨d,0,none⟩),.bool false,.tuple #[.pointer lv,.int .i64 er],.slice fa fs.length fc,.tuple #[.pointer lv,.int .i64 er],.pointer lv,.int .i64 er,.tuple #[.agg #[.slice a0 i c0,.slice a1 SX.temps.length c1,.slice a2 SX.ign.length c2,.slice a3 SX.bad.length c3],.int .i64 0],.pointer (some ⟨d,0,none⟩),.string root,.pointer lv,.tuple #[.agg #[.slice a0 i c0,.slice a1 SX.temps.length c1,.slice a2 SX.ign.length c2,.slice a3 SX.bad.length c3],.int .i64 0],.agg #[.slice a0 i c0,.slice a1 SX.temps.length c1,.slice a2 SX.ign.length c2,.slice a3 SX.bad.length c3],.int .i64 0,.int .i64 0,.bool false,undef,undef,undef,undef,undef,undef,undef,undef,undef,undef,undef,undef,undef,undef,undef,undef,undef,undef,undef,.int .i64 i,.pointer (some ⟨w4.heap.size,0,none⟩),.slice a0 i c0,.int .i64 i,.bool false,u74,u75,u76,u77,u78,u79,u80,u81,u82,u83,u84,u85,u86,u87,u88,u89,u90,u91,u92,u93,u94,u95,u96,u97,u98,u99,u100,u101,u102,u103,u104,u105,u106,u107,u108,u109,u110,u111,u112,u113,u114,u115,u116,u117,u118,u119,u120,u121,u122,u123,u124,u125,u126,u127,u128,u129,u130,u131,u132,u133,u134,u135,u136,u137,u138,u139,u140,u141,u142,u143,u144,u145,u146,u147,u148,u149,u150,u151,u152,u153,u154,u155,u156,u157,u158,u159,u160,u161,.pointer (some ⟨d,0,none⟩),.string root,.func (.func 79) #[] #[.pointer (some ⟨wr.heap.size+1,0,none⟩),.pointer (some ⟨wr.heap.size+1+1,0,none⟩)],.string (clipW x).1,nv (clipW x).2,undef,undef,undef,undef,undef,undef,undef,undef,undef,undef,undef,undef,undef,undef,undef,undef,undef,undef,undef,undef,undef,undef,undef,undef,undef,undef,undef,undef,undef,undef,undef,undef,undef,undef,undef,undef,undef,undef,undef,undef],defers:=[] }) ?ax ?assign ?body ?done ?stop
          case kl =>
            simp only [List.mem_cons,List.not_mem_nil,or_false] at hb
            omega
          case ki =>
            simp only [List.mem_cons,List.not_mem_nil,or_false] at hm
            have:=HDK.out.lt.2 b hb
            omega
          case own =>
            rintro pre W W' row ⟨hx,hn⟩ hg hr
            exact ⟨hx.grown hg hx.size fun k e=>by have:=(hr k e).1;omega,(hg.block _ (ltB hn) fun e=>by
              obtain ⟨_,o,ho,hc⟩:=hr _ e.symm
              rw [hn] at ho
              cases ho
              cases hc).trans hn⟩
          case ax=>exact fun x a' _ W W' row h _ _=>h
          case stop =>
            rintro Dd c pre W hDd hSp ⟨p0,x,rfl,hbad⟩ _
            obtain ⟨q,hq⟩:=hSp
            have hxm:x∈eachL D root:=by rw [←hq];simp
            have h1:=HONE.out x hxm
            rw [clip_mem HR.out.run hxm] at hbad
            exact absurd h1 hbad
          case assign =>
            rintro l pre x W K ⟨hx,hn⟩ hK
            have HK:=Lib.hid hK
            have HXn:=Lib.hid hx
            have HN:=Lib.hid hn
            clear hK hx hn
            unfold encW
            gi_wp2
            exact HK.out _ _ (KeepsFrom.refl _ _) ⟨Below.refl _ _,fun _ _ h _ _=>h,fun _ h=>.inl h⟩ ⟨HXn.out,HN.out⟩ rfl
          case body =>
            obtain ⟨wo,rfl⟩:∃ x,x=wr:=⟨_,rfl⟩
            rintro lr pre x a' W hl hlr ⟨hx,hn⟩ rfl hlen
            have HXn:=Lib.hid hx
            have HN:=Lib.hid hn
            have HTWW:=Lib.hid (HTW.out.more hx)
            have HBW:=Lib.hid ((hx.block (ltB HBXr.out)).trans HBXr.out)
            obtain ⟨hp160,_⟩:=clipW_le x
            have HTX:=Lib.hid (TextsOwn.of HTWW.out.found rfl)
            obtain ⟨af,cf,hfv,_,_⟩:=HTX.out.shape
            subst hfv
            have HCP:=Lib.hid (show ∀ k,k≤SX.items.length→(SX.items.take k).countP (fun y=>decide (y.1=(clipW x).1))≤k from fun k hk=>Nat.le_trans List.countP_le_length (List.length_take_le _ _))
            have hnn:(SX.items.map (·.1)).length=SX.items.length:=List.length_map _
            have b14:W.cell? ⟨w4.heap.size+1,0,none⟩=some (.slice af SX.items.length cf):=(cellB HTWW.out.box).trans (by rw [List.length_map];rfl)
            have hi16:=HLI.out
            clear hx hn hnn
            generalize hpx:(clipW x).1=p at *
            have HPX:=Lib.hid hpx
            clear hpx
            have hnp:pre.length≤16384:=by have:=HEL.out;have:=HLV.out;omega
            have hsF2:=hsF
            have hBw:=ltB HB0.out
            gi_wp2
            gi_loopw [23,24] (fun sv iv wq=>Hid (∃ k:Nat,k≤SX.items.length∧iv=.int .i64 k∧sv=.int .i64 ((SX.items.take k).countP (fun y=>decide (y.1=p)):Nat)∧wq=W)) (fun _ iv _=>SX.items.length - (intOf iv).toNat)
            case atStart=>exact ⟨0,Nat.zero_le _,rfl,rfl,rfl⟩
            case round =>
              obtain ⟨k,hk,rfl,rfl,rfl⟩:=hrel.out
              clear hrel
              have hkc:=HCP.out k hk
              by_cases hlt:k<SX.items.length
              · obtain ⟨z,hz⟩:∃ z,SX.items[k]?=some z:=⟨_,List.getElem?_eq_getElem hlt⟩
                obtain ⟨gz,rfl,hcz⟩:=HTX.out.get af _ cf rfl k z.1 (by rw [List.getElem?_map,hz];rfl)
                have HBM:=Lib.hid (bytes_more (p:=p) hz)
                clear hz
                generalize hcn:(SX.items.take k).countP (fun y=>decide (y.1=p))=cn at *
                cases hzp:(z.1.toList==p.toList) with
                | true =>
                  have hze:decide (z.1=p)=true:=decide_eq_true (ba_ext (beq_iff_eq.1 hzp))
                  gi_wp2
                  go_roundw
                  case rel=>exact ⟨k+1,by omega,by go_num,by rw [HBM.out,hze];go_num,trivial⟩
                  case measure=>simp [intOf] <;> omega
                | false =>
                  have hze:decide (z.1=p)=false:=decide_eq_false fun e=>by rw [e] at hzp;simp at hzp
                  gi_wp2
                  go_roundw
                  case rel=>exact ⟨k+1,by omega,by go_num,by rw [HBM.out,hze];go_num,trivial⟩
                  case measure=>simp [intOf] <;> omega
              · obtain rfl:k=SX.items.length:=by omega
                obtain ⟨hl1,hl2,hl3⟩:=HL3.out
                obtain ⟨cn,hcn⟩:∃ cn,cn=(SX.items.take SX.items.length).countP (fun y=>decide (y.1=p)):=⟨_,rfl⟩
                have hc16:cn≤16384:=by rw [hcn];exact Nat.le_trans (HCP.out _ (Nat.le_refl _)) HLI.out
                have HCN:=Lib.hid (show cn=SX.items.countP (fun y=>decide (y.1=p)) from by rw [hcn,List.take_length])
                rw [←hcn]
                clear hcn hkc
                have HQ1:=Lib.hid (fun (x:After wr)=>how_any (HTm.out.ext (((X5.out.trans HX.out).trans HXn.out).trans x.x)) (HE0.out.ext ((HX5.out.trans (HX.out.trans HXn.out)).trans x.x)) p (by omega) HS3.out.1 (by omega))
                have HQ2:=Lib.hid (fun (x:After wr)=>how_any (HIg.out.ext (((X5.out.trans HX.out).trans HXn.out).trans x.x)) (HE0.out.ext ((HX5.out.trans (HX.out.trans HXn.out)).trans x.x)) p (by omega) HS3.out.2.1 (by omega))
                have HQ3:=Lib.hid (fun (x:After wr)=>how_any (HBad.out.ext (((X5.out.trans HX.out).trans HXn.out).trans x.x)) (HE0.out.ext ((HX5.out.trans (HX.out.trans HXn.out)).trans x.x)) p (by omega) HS3.out.2.2 (by omega))
                obtain ⟨q1,he1⟩:∃ n,n=howN SX.temps p:=⟨_,rfl⟩
                obtain ⟨q2,he2⟩:∃ n,n=howN SX.ign p:=⟨_,rfl⟩
                obtain ⟨q3,he3⟩:∃ n,n=howN SX.bad p:=⟨_,rfl⟩
                have hn1:q1≤16384:=by rw [he1];exact Nat.le_trans List.countP_le_length hl1
                have hn2:q2≤16384:=by rw [he2];exact Nat.le_trans List.countP_le_length hl2
                have hn3:q3≤16384:=by rw [he3];exact Nat.le_trans List.countP_le_length hl3
                rw [←he1] at HQ1
                rw [←he2] at HQ2
                rw [←he3] at HQ3
                have HNN:=Lib.hid (show cn+q1+q2+q3=SX.items.countP (fun y=>decide (y.1=p))+howN SX.temps p+howN SX.ign p+howN SX.bad p from by rw [HCN.out,he1,he2,he3])
                clear he1 he2 he3
                have f1:∀ x:After wr,x.v.cell? ⟨w4.heap.size,1,none⟩=some (.slice a1 SX.temps.length c1):=fun x=>After.at HBW.out x
                have f2:∀ x:After wr,x.v.cell? ⟨w4.heap.size,2,none⟩=some (.slice a2 SX.ign.length c2):=fun x=>After.at HBW.out x
                have f3:∀ x:After wr,x.v.cell? ⟨w4.heap.size,3,none⟩=some (.slice a3 SX.bad.length c3):=fun x=>After.at HBW.out x
                gi_wp2
                refine wpIn_region_quietR (C:=fun w'=>∃ x:After wr,w'=x.v) (by kernel_rfl) (by kernel_rfl) (by kernel_rfl) ⟨⟨_,(Ext.refl _).drew⟩,rfl⟩ ?_
                dsimp only
                iterate 4 gi_big_quiet_step (fail)
                refine BigFrame.wpQuietIn_want (fun _ _ _ _=>trivial) rfl fun K hK=>?_
                gi_big_quiet_op
                apply Exists.intro
                refine ⟨fun _=>?_,?_⟩
                · exact CallsIn.inRound lr (callsIn_wide.2 (After.of (HQ1.out _)))
                refine hK _ ?_
                clear hK K
                iterate 4 gi_big_quiet_step (fail)
                refine BigFrame.wpQuietIn_want (fun _ _ _ _=>trivial) rfl fun K hK=>?_
                gi_big_quiet_op
                apply Exists.intro
                refine ⟨fun _=>?_,?_⟩
                · exact CallsIn.inRound lr (callsIn_wide.2 (After.of (HQ2.out _)))
                refine hK _ ?_
                clear hK K
                iterate 4 gi_big_quiet_step (fail)
                refine BigFrame.wpQuietIn_want (fun _ _ _ _=>trivial) rfl fun K hK=>?_
                gi_big_quiet_op
                apply Exists.intro
                refine ⟨fun _=>?_,?_⟩
                · exact CallsIn.inRound lr (callsIn_wide.2 (After.of (HQ3.out _)))
                refine hK _ ?_
                clear hK K
                iterate 2 gi_big_quiet_step (fail)
                refine wpQuietIn_nil ?_
                rintro _ ⟨y,rfl⟩
                have HNy:=Lib.hid ((y.x.block (ltB HN.out)).trans HN.out)
                have XY:=Lib.hid (((HX5.out.trans HX.out).trans HXn.out).trans y.x)
                have HBy:=Lib.hid ((XY.out.block hBw).trans HB0.out)
                have hys:=y.x.size
                have hxs:=HXn.out.size
                have hxs5:=(HX5.out.trans HX.out).size
                by_cases hsum:cn+q1+q2+q3=1
                · have g1:((cn:Int)+(q1:Int)+(q2:Int)+(q3:Int) != 1)=false:=by rw [bne,Bool.not_eq_false',beq_iff_eq];omega
                  have n0:y.v.cell? ⟨wo.heap.size,0,none⟩=some (.int .i64 (pre.length:Nat)):=cellB HNy.out
                  gi_wp2_with (refine wpListIn_storeB rfl _ _ _ rfl wo.heap.size (.int .i64 ((pre.length:Nat)+1)) (.int .i64 (pre.length:Nat)) rfl rfl (by kernel_rfl) rfl _ HNy.out ?_;intro w9 hb9 ht9;have HB9:=Lib.hid hb9;have HT9:=Lib.hid ht9;clear hb9 ht9;go_frame)
                  refine ⟨((ko_ext y.x).from _).trans (KeepsFrom.touch HT9.out (by omega)),(KpK.ext (n0:=0) (fun _ _ _=>rfl) y.x (Nat.zero_le _) (by omega)).trans (KpK.touch HT9.out (Nat.le_refl _) (by omega)),⟨HT9.out.fresh (HXn.out.trans y.x) (Nat.le_refl _),?_⟩⟩
                  rw [HB9.out,List.length_append]
                  rfl
                · have g1:((cn:Int)+(q1:Int)+(q2:Int)+(q3:Int) != 1)=true:=by rw [bne,Bool.not_eq_true',beq_eq_false_iff_ne];omega
                  gi_wp2_with (refine wpListIn_storeB rfl _ _ _ rfl w.heap.size (.bool false) (.bool false) rfl rfl (by kernel_rfl) rfl _ HBy.out ?_;intro w9 hb9 ht9;have HB9:=Lib.hid hb9;have HT9:=Lib.hid ht9;clear hb9 ht9;go_frame)
                  refine ⟨((ko_ext y.x).from _).trans (KeepsFrom.touch HT9.out (by omega)),pre,x,rfl,?_⟩
                  rw [HPX.out,←HNN.out]
                  exact hsum
          case done =>
            rintro Dd xs W hDd rfl ⟨hx,hn⟩ hK
            have HXn:=Lib.hid hx
            have HN:=Lib.hid hn
            have HKd:=Lib.hid hK
            have HTWW:=Lib.hid (HTW.out.more hx)
            have HTX:=Lib.hid (TextsOwn.of HTWW.out.found rfl)
            obtain ⟨af,cf,hfv,_,_⟩:=HTX.out.shape
            subst hfv
            have HLE:=Lib.hid (show SX.items.length≤(eachL D root).length from by rw [HKi.out.items];exact List.length_filter_le _ _)
            have b14:W.cell? ⟨w4.heap.size+1,0,none⟩=some (.slice af SX.items.length cf):=(cellB HTWW.out.box).trans (by rw [List.length_map];rfl)
            have b21:W.cell? ⟨wr.heap.size,0,none⟩=some (.int .i64 ((eachL D root).length:Nat)):=cellB HN.out
            clear hx hn hK
            generalize (eachL D root).length=nE at *
            generalize SX.items.length=nI at *
            have hge:(nI:Int)≤(nE:Int):=by have:=HLE.out;omega
            have hge1:nI≤nE:=HLE.out
            have hge2:decide ((nI:Int)≤(nE:Int))=true:=decide_eq_true hge
            go_wp2_with fail
            refine (HAw0.out _ (HX5.out.trans (HX.out.trans HXn.out))).mono ?_
            rintro e wG ⟨rfl,xG⟩
            have HXG2:=Lib.hid (HXn.out.trans xG)
            have HBG:=Lib.hid ((((HX5.out.trans HX.out).trans HXG2.out).block (ltB HB0.out)).trans HB0.out)
            have HKG:=Lib.hid ((xG.block (ltB HKd.out)).trans HKd.out)
            clear xG
            go_wp2_with (refine wpList_storeB rfl _ _ _ rfl w.heap.size (.bool true) (.bool false) rfl rfl (by kernel_rfl) rfl _ HBG.out ?_;intro w9 hb9 ht9;have HB9:=Lib.hid hb9;have HT9:=Lib.hid ht9;clear hb9 ht9;go_frame)
            have hDne:Dd≠w.heap.size:=by have:=XF.out.size;have:=HX.out.size;have:=HX5.out.size;omega
            have hK9:w9.heap[Dd]?=some (.deferred (some [])):=(HT9.out.block Dd (ltB HKG.out) (fun e=>hDne (Option.some.inj e))).trans HKG.out
            have hB10:(w9.putObj Dd (.deferred none)).heap[w.heap.size]?=some (.cells #[.bool true] 4 (0,0)):=(World.putObj_heap_other (fun e=>hDne e.symm)).trans HB9.out
            refine ⟨by simp,.inl ⟨_,_,rfl,run_takeDeferred hK9,?_⟩⟩
            have x9:=HT9.out.fresh (HX0.out.trans ((HX5.out.trans HX.out).trans HXG2.out)) (Nat.le_refl _)
            exact ⟨_,results_bool rfl _ _ _ _ _ _ rfl hB10,rfl,x9.grown (grownBy_putObj' w9 Dd _) x9.size fun k e=>by
              have:=Option.some.inj e
              have:=XF.out.size
              have:=HX.out.size
              have:=HX5.out.size
              omega⟩
    · have g1:decide (re=0)=false:=by rw [decide_eq_false_iff_not];exact hre
      obtain rfl:L=[]:=HS.out.no hre
      simp only [show walkS ig []=wst0 from rfl] at *
      simp only [show wst0.items.length=0 from rfl,show wst0.temps.length=0 from rfl,show wst0.ign.length=0 from rfl,show wst0.bad.length=0 from rfl] at *
      have HX5:=Lib.hid (HX4.out.trans X5.out)
      go_wp2_with fail
      refine (HAw0.out _ HX5.out).mono ?_
      rintro e w6 ⟨rfl,x6⟩
      have HX6:=Lib.hid (HX5.out.trans x6)
      have HB6:=Lib.hid ((HX6.out.block (ltB HB0.out)).trans HB0.out)
      clear x6
      go_wp2_with (refine wpList_storeB rfl _ _ _ rfl w.heap.size (.bool true) (.bool false) rfl rfl (by kernel_rfl) rfl _ HB6.out ?_;intro w9 hb9 ht9;have HB9:=Lib.hid hb9;have HT9:=Lib.hid ht9;clear hb9 ht9;go_frame)
      exact ⟨_,results_bool rfl _ _ _ _ _ _ rfl HB9.out,rfl,HT9.out.fresh (HX0.out.trans HX6.out) (Nat.le_refl _)⟩

-- BEGUN
set_option maxRecDepth 100000 in
theorem begun {H:Type} {enc:TypeId×Value→H} (W:World) (args:Array Value) (ds:List (DataW H)) (p:List MemPlace) (st:Start enc Rows.walkAllRow.laid Tryz.f5 W args ds p) :
    Calls Tryz.prog 5 args W fun e W'=>e=.returned (.bool true)∧Below W.heap.size W W':=by
  obtain ⟨⟨base,hval⟩,hA,hfit,hl,hsh⟩:=st
  rw [Tryz.params5] at hA hval hfit
  obtain ⟨v0,v1,v2,d0,d1,d2,p0,p1,p2,rfl,rfl,rfl,h0,h1,h2⟩:=trodAll_three hA
  have hfit:((DataW.weightsEach Tryz.prog [22,9,23] [d0,d1,d2]).all (·≤reachBytes))=true:=hfit
  simp only [DataW.weightsEach,List.append_nil,List.all_append,Bool.and_eq_true] at hfit
  obtain ⟨l,hl2⟩:=open_puts (hval 0 22 v0 rfl rfl) h0 hfit.1
  obtain ⟨fs,hF,hfs⟩:=open_files2 (hval 2 23 v2 rfl rfl) h2 hfit.2.2
  obtain ⟨b,rfl,hb⟩:=open_root (hval 1 9 v1 rfl rfl) h1 hfit.2.1
  exact walk v0 v2 b l fs W hl2 hF hfs hb (env_of hsh) (sha_of hl 1 2 rfl rfl)

set_option maxRecDepth 100000 in
theorem said:Rows.WalkAllSaid :=
  OpenClaim.holds_of_wide 5 Tryz.f5 rfl rfl rfl rfl rfl rfl rfl ⟨rfl,rfl,rfl,rfl,rfl⟩ rfl rfl rfl rfl rfl named Tryz.func5 facts
    (of_decide_eq_true (by kernel_rfl)) (by unfold Func.isWrapper;first | (rw [if_pos (by decide +kernel)];kernel_rfl) | (rw [if_neg (by decide +kernel)];exact ⟨rfl,rfl⟩))
    (fun os started H enc _=>lifted Rows.walkAllRow.laid (by kernel_rfl) 5 Tryz.f5 Tryz.func5 Rows.walkAllSpec rfl (by kernel_rfl) (by kernel_rfl)
      (by rw [Tryz.params5]
          have hall:([22,9,23].all fun t=>Tryz.prog.readableRec t&&decide (t<Tryz.prog.types.size))=true:=by kernel_rfl
          intro t ht
          have:=List.all_eq_true.1 hall t ht
          simpa using this)
      (by intro H ts ds h hl;rw [Tryz.params5] at h;subst h
          match ds,hl with
          | [d1,d2,d3],_=>rfl)
      Rows.walkAllRow.domain os started H enc #[.slice none 0 0,.string ⟨#[]⟩,.slice none 0 0] (by kernel_rfl) (by kernel_rfl) (by kernel_rfl)
      (World.shaped_of_ZipB (by kernel_rfl) (by kernel_rfl)) (laidMet_laidAll _ (by kernel_rfl) (by kernel_rfl))
      begun)

theorem card:Rows.WalkAllCardSaid :=
  Claim7.holds_tied_plain_at .later [] Rows.walkAllCard.laidKinds true Rows.walkAllCard.stood.harness Rows.walkAllCard.stood.looks said (fun _ h=>by cases h) card1 (fun _ h=>by cases h) walkAll_row_tie rfl ⟨rfl,rfl⟩ card2 rfl
    (fun f fn hf hfn=>by
      obtain rfl:f=5:=Option.some.inj (named.symm.trans hf) |>.symm
      obtain rfl:fn=Tryz.f5:=(Option.some.inj (Tryz.func5.symm.trans hfn)).symm
      exact ⟨card3,fun j t ht=>by
        rw [Tryz.params5] at ht
        have hm:t∈[22,9,23]:=by simpa using Array.mem_of_getElem? ht
        have hall:=card4
        exact (show Tryz.pinned.checked.prog.wantsStandIn t=false by simpa using List.all_eq_true.1 hall t hm)⟩)
    card5
#print axioms card
end Go.Proofs.YtodickpibbbiiaaGreatDoor.lawWalkAll
