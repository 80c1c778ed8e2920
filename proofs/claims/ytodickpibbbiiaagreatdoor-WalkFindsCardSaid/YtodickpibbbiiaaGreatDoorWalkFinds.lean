/- WalkFinds: whatever is put on a disk, whatever root, whatever files of patterns: all that is found, and what is passed over, are the document's: the statement WalkFindsCardSaid, with no condition of its own. -/
import Derived.Test.YtodickpibbbiiaaGreatDoorWfA1
import Derived.Test.YtodickpibbbiiaaGreatDoorWfB1
import Derived.Test.YtodickpibbbiiaaGreatDoorWfF1

import Derived.Test.YtodickpibbbiiaaGreatDoorWfF2

import Derived.Test.YtodickpibbbiiaaGreatDoorWfF3

import Derived.Test.YtodickpibbbiiaaGreatDoorWalkFindsF
import Derived.Test.YtodickpibbbiiaaGreatDoorWalkFindsG
namespace Go.Proofs.YtodickpibbbiiaaGreatDoor.lawWalkFinds
open Go.ChangeShapes Go.WideShapes Go.ChangeAt Go.RowKit
open Go.ChangeMaps (open_string)

set_option maxRecDepth 100000 in
set_option maxHeartbeats 8000000 in
theorem walk (v vf:Value) (root:ByteArray) (l:List PutR) (fs:List (ByteArray×ByteArray)) (w:World) (hA:PutsIn w v l) (hF:FilesIn w vf fs) (hfs:∀ f∈fs,f.1.size≤reach∧f.2.size≤reach) (hroot:root.size≤reach) (E:Env w) (T:ShaTabs w) :
    Calls Tryz.prog 6 #[v,.string root,vf] w fun e w'=>e=.returned (.bool true)∧Below w.heap.size w w':=by
  have HLg:=Lib.hid (plarge_any hA hF hfs)
  have HAw:=Lib.hid (fun w1 (x:Ext w w1)=>awake17_any w1 (E.ext x) (T.ext x))
  have HE:=Lib.hid E
  have HT:=Lib.hid T
  have HA:=Lib.hid hA
  have HFi:=Lib.hid hF
  obtain ⟨va,vc,rfl,_⟩:=hA.shape
  obtain ⟨fa,fc,rfl,_⟩:=hF
  unfold reach at hroot
  clear hA E T hfs
  cases hlg:largeP l fs with
  | true =>
    rw [hlg] at HLg
    go_enter Tryz.func6,Tryz.ntmps6
    go_wp2_with fail
    refine HLg.out.mono ?_
    rintro e w1 ⟨rfl,x1⟩
    have HX1:=Lib.hid x1
    clear x1
    go_wp2_with fail
    refine (HAw.out _ HX1.out).mono ?_
    rintro e w2 ⟨rfl,x2⟩
    have HX2:=Lib.hid (HX1.out.trans x2)
    clear x2
    go_wp2_with fail
    go_ret
    exact ⟨rfl,HX2.out⟩
  | false =>
    rw [hlg] at HLg
    by_cases hr4:400<root.size
    · have g1:decide ((400:Int)<(root.size:Int))=true:=by rw [decide_eq_true_eq];omega
      go_enter Tryz.func6,Tryz.ntmps6
      go_wp2_with fail
      refine HLg.out.mono ?_
      rintro e w1 ⟨rfl,x1⟩
      have HX1:=Lib.hid x1
      clear x1
      go_wp2_with fail
      refine (HAw.out _ HX1.out).mono ?_
      rintro e w2 ⟨rfl,x2⟩
      have HX2:=Lib.hid (HX1.out.trans x2)
      clear x2
      go_wp2_with fail
      go_ret
      exact ⟨rfl,HX2.out⟩
    · have g1:decide ((400:Int)<(root.size:Int))=false:=by rw [decide_eq_false_iff_not];omega
      obtain ⟨hl40,_,hls,hfl⟩:=largeP_not hlg
      have HFL:=Lib.hid hfl
      have HM:=Lib.hid (fun w1 (x:Ext w w1)=>made_any (Things.start x) HE.out HA.out hl40 hls)
      have HR:=Lib.hid ((RunF.made l).mono (show l.length*201≤8040 by omega))
      obtain ⟨D,hD⟩:∃ D,D=madeD l:=⟨_,rfl⟩
      rw [←hD] at HM HR
      clear hD hlg hls hfl hl40
      go_enter Tryz.func6,Tryz.ntmps6
      go_wp2_with fail
      refine HLg.out.mono ?_
      rintro e w1 ⟨rfl,x1⟩
      have HX1:=Lib.hid x1
      clear x1
      go_wp2_with fail
      refine (HM.out _ HX1.out).mono ?_
      rintro e w2 ⟨d,r,rfl,h2⟩
      have HT2:=Lib.hid (show Things w w2 [.disk d D,.ref r D] from h2.out)
      have HX2:=Lib.hid HT2.out.is_ext
      clear h2 HM
      go_wp2_with fail
      refine (parse17_any (HFi.out.ext HX2.out) HFL.out (HE.out.ext HX2.out)).mono ?_
      rintro e w3 ⟨lv,rfl,h3⟩
      have H3:=h3
      have HX3:=Lib.hid (HX2.out.trans h3.out.1)
      clear h3
      have HRP:=Lib.hid (fun w4 (x:Ext w3 w4)=>rparse17_any (HFi.out.ext (HX3.out.trans x)) HFL.out)
      generalize patR (parseL (fsL fs) (⟨#[105]⟩:ByteArray).toList)=ig at *
      generalize patE (parseL (fsL fs) (⟨#[105]⟩:ByteArray).toList)=er at *
      have hee:(er != er)=false:=by simp
      have HTd:=Lib.hid (eachL_tidy HR.out.run.ok root)
      have HEL:=Lib.hid (eachL_le D root)
      have HLV:=Lib.hid (live_few HR.out.run)
      have HW1:=Lib.hid (fun w4 (x:Ext w3 w4)=>wcall_any (A:=[]) (B:=[.ref r D]) ((HT2.out.ext H3.out.1).ext x) HR.out (by decide) (HE.out.ext (HX3.out.trans x)) (HT.out.ext (HX3.out.trans x)) root (by omega) (H3.out.2.ext x))
      have HW2:=Lib.hid (fun w4 pv (x:Ext w3 w4) (hp:RPatAs w4 pv ig)=>ref_ext (A:=[.disk d D]) (B:=[]) ((HT2.out.ext H3.out.1).ext x) fun M I hd=>rwalk17_any hd HR.out.run (Nat.le_trans HLV.out (by decide)) root (by omega) hp)
      have HLX:=Lib.hid (show (walkS ig (eachL D root)).items.length≤16384 from by
        have h1:=walkS_total ig (eachL D root)
        unfold WSt.total at h1
        have:=HEL.out
        have:=HLV.out
        omega)
      generalize walkS ig (eachL D root)=SX at *
      generalize rootE D.live root=re at *
      clear HEL HTd
      go_wp2_with fail
      refine (HRP.out _ (Ext.refl w3)).mono ?_
      rintro e w4 ⟨pv,rfl,h4⟩
      have HX4:=Lib.hid (HX3.out.trans h4.out.1)
      have HPV:=Lib.hid h4.out.2
      have HW1':=Lib.hid (HW1.out _ h4.out.1)
      have X34:=Lib.hid h4.out.1
      clear h4 HRP HW1
      go_wp2_with fail
      refine HW1'.out.mono ?_
      rintro e w5 ⟨x0,x1,x2,x3,rfl,h5⟩
      have X35:=Lib.hid (X34.out.trans h5.out.2.2.2.2)
      have X45:=Lib.hid h5.out.2.2.2.2
      have I1:=Lib.hid h5.out.1
      have T1:=Lib.hid h5.out.2.1
      have G1:=Lib.hid h5.out.2.2.1
      have B1:=Lib.hid h5.out.2.2.2.1
      obtain ⟨a0,c0,rfl,_⟩:=h5.out.1
      obtain ⟨⟨a1,c1,rfl,t1,t2⟩,_⟩:=h5.out.2.1
      obtain ⟨⟨a2,c2,rfl,g1',g2⟩,_⟩:=h5.out.2.2.1
      obtain ⟨⟨a3,c3,rfl,b1,b2⟩,_⟩:=h5.out.2.2.2.1
      have HBX:=Lib.hid (block_alloc_new w5 (.cells #[.slice a0 SX.items.length c0,.slice a1 SX.temps.length c1,.slice a2 SX.ign.length c2,.slice a3 SX.bad.length c3] 37 (0,0)))
      have X5:=Lib.hid ((Ext.refl w5).alloc (.cells #[.slice a0 SX.items.length c0,.slice a1 SX.temps.length c1,.slice a2 SX.ign.length c2,.slice a3 SX.bad.length c3] 37 (0,0)))
      have HW3:=Lib.hid (HW2.out _ pv (X35.out.trans X5.out) ((HPV.out.ext X45.out).ext X5.out))
      clear h5 HW1' HW2
      go_wp2_with fail
      refine HW3.out.mono ?_
      rintro e w6 ⟨y0,y1,y2,y3,rfl,h6⟩
      have X56:=Lib.hid (X5.out.trans h6.out.2.2.2.2)
      have HBX6:=Lib.hid ((h6.out.2.2.2.2.block (ltB HBX.out)).trans HBX.out)
      have I2:=Lib.hid h6.out.1
      have T2:=Lib.hid h6.out.2.1
      have G2:=Lib.hid h6.out.2.2.1
      have B2:=Lib.hid h6.out.2.2.2.1
      obtain ⟨e0,d0,rfl,_⟩:=h6.out.1
      obtain ⟨⟨e1,d1,rfl,_⟩,_⟩:=h6.out.2.1
      obtain ⟨⟨e2,d2,rfl,_⟩,_⟩:=h6.out.2.2.1
      obtain ⟨⟨e3,d3,rfl,_⟩,_⟩:=h6.out.2.2.2.1
      have HBY:=Lib.hid (block_alloc_new w6 (.cells #[.slice e0 SX.items.length d0,.slice e1 SX.temps.length d1,.slice e2 SX.ign.length d2,.slice e3 SX.bad.length d3] 67 (0,0)))
      have X67:=Lib.hid ((Ext.refl w6).alloc (.cells #[.slice e0 SX.items.length d0,.slice e1 SX.temps.length d1,.slice e2 SX.ign.length d2,.slice e3 SX.bad.length d3] 67 (0,0)))
      have HBX7:=Lib.hid ((X67.out.block (ltB HBX6.out)).trans HBX6.out)
      have HL:=Lib.hid (fun w' (x:Ext w6 w')=>rlist06_same ((I1.out.ext X56.out).ext x) (I2.out.ext x) HLX.out)
      have HS1:=Lib.hid (fun w' (x:Ext w6 w')=>same17_true SX.temps a1 e1 c1 d1 w' ((T1.out.ext X56.out).ext x) (T2.out.ext x) t1 t2)
      have HS2:=Lib.hid (fun w' (x:Ext w6 w')=>same17_true SX.ign a2 e2 c2 d2 w' ((G1.out.ext X56.out).ext x) (G2.out.ext x) g1' g2)
      have HS3:=Lib.hid (fun w' (x:Ext w6 w')=>same17_true SX.bad a3 e3 c3 d3 w' ((B1.out.ext X56.out).ext x) (B2.out.ext x) b1 b2)
      have hrr:(re != re)=false:=by simp
      clear h6 HW3 t1 t2 g1' g2 b1 b2
      have f0:=HBX7.out
      have f1:(w6.alloc (.cells #[.slice e0 SX.items.length d0,.slice e1 SX.temps.length d1,.slice e2 SX.ign.length d2,.slice e3 SX.bad.length d3] 67 (0,0))).cell? ⟨w5.heap.size,0,none⟩=some (.slice a0 SX.items.length c0):=cellB HBX7.out
      have f2:(w6.alloc (.cells #[.slice e0 SX.items.length d0,.slice e1 SX.temps.length d1,.slice e2 SX.ign.length d2,.slice e3 SX.bad.length d3] 67 (0,0))).cell? ⟨w6.heap.size,0,none⟩=some (.slice e0 SX.items.length d0):=cellB HBY.out
      clear f0
      go_wp2_with fail
      refine (HL.out _ X67.out).mono ?_
      rintro e w8 ⟨rfl,x8⟩
      have X8:=Lib.hid (X67.out.trans x8)
      have Y8:=Lib.hid x8
      clear x8 f1 f2
      have f1:w8.cell? ⟨w5.heap.size,1,none⟩=some (.slice a1 SX.temps.length c1):=cellB ((Y8.out.block (ltB HBX7.out)).trans HBX7.out)
      have f2:w8.cell? ⟨w6.heap.size,1,none⟩=some (.slice e1 SX.temps.length d1):=cellB ((Y8.out.block (ltB HBY.out)).trans HBY.out)
      go_wp2_with fail
      refine (HS1.out _ X8.out).mono ?_
      rintro e w9 ⟨rfl,x9⟩
      have X9:=Lib.hid (X8.out.trans x9)
      have Y9:=Lib.hid (Y8.out.trans x9)
      clear x9 f1 f2
      have f1:w9.cell? ⟨w5.heap.size,2,none⟩=some (.slice a2 SX.ign.length c2):=cellB ((Y9.out.block (ltB HBX7.out)).trans HBX7.out)
      have f2:w9.cell? ⟨w6.heap.size,2,none⟩=some (.slice e2 SX.ign.length d2):=cellB ((Y9.out.block (ltB HBY.out)).trans HBY.out)
      go_wp2_with fail
      refine (HS2.out _ X9.out).mono ?_
      rintro e w10 ⟨rfl,x10⟩
      have X10:=Lib.hid (X9.out.trans x10)
      have Y10:=Lib.hid (Y9.out.trans x10)
      clear x10 f1 f2
      have f1:w10.cell? ⟨w5.heap.size,3,none⟩=some (.slice a3 SX.bad.length c3):=cellB ((Y10.out.block (ltB HBX7.out)).trans HBX7.out)
      have f2:w10.cell? ⟨w6.heap.size,3,none⟩=some (.slice e3 SX.bad.length d3):=cellB ((Y10.out.block (ltB HBY.out)).trans HBY.out)
      go_wp2_with fail
      refine (HS3.out _ X10.out).mono ?_
      rintro e w11 ⟨rfl,x11⟩
      have X11:=Lib.hid (((X35.out.trans X56.out).trans X10.out).trans x11)
      clear x11 f1 f2
      have X3E:=Lib.hid (HX3.out.trans X11.out)
      have hT:=(HT2.out.ext H3.out.1).ext X11.out
      have HU1:=Lib.hid (fun (z:After w11)=>used_many (A:=[]) (B:=[.ref r D]) (hT.ext z.x))
      have HPn:=Lib.hid (fun (z:After w11)=>pending_many (A:=[]) (B:=[.ref r D]) (hT.ext z.x) (HR.out.run.fit (by decide)))
      have HAw2:=Lib.hid (fun (z:After w11)=>HAw.out _ (X3E.out.trans z.x))
      have hlen:=HLV.out
      have hused:usedL D.live≤1048576:=by have:=HR.out.run.ok.live.used;have:=HR.out.run.ok.r2;omega
      have hnl:=HR.out.run.len
      obtain ⟨M,I,hd,_⟩:=Things.opened (A:=[.disk d D]) (B:=[]) hT
      obtain ⟨lt,ls,lv',sv,lg,h,-,-⟩:=hd
      obtain ⟨res,hres,hlog⟩:=h.log
      obtain ⟨oa,ocap,rfl⟩:=row7_shape hlog
      have HU2:=Lib.hid (fun (z:After w11)=>rused_any lt lv' D.live D.room z.v (h.live.ext z.x) (by omega) (by omega))
      have b0:∀ z:After w11,z.v.cell? ⟨r,0,none⟩=some (.pointer (some ⟨lt,0,none⟩)):=fun z=>After.at h.blk z
      have b2:∀ z:After w11,z.v.cell? ⟨r,2,none⟩=some (.slice oa D.log.length ocap):=fun z=>After.at h.blk z
      clear h hlog hres hT
      generalize usedL D.live=U at *
      generalize D.log.length=nl at *
      go_wp2_with fail
      refine wp_region_after (by kernel_rfl) (by kernel_rfl) ?_
      repeat (go_big_quiet_step (first
        | (go_at_call 32;exact After.same (HU1.out _))
        | (go_at_call 33;exact After.same (HU2.out _))
        | (go_at_call 34;exact After.same (HPn.out _))
        | exact After.of (HAw2.out _)))
      refine wpQuiet_nil ?_
      rintro _ ⟨z,rfl⟩
      have HZx:=Lib.hid z.x
      clear b0 b2
      go_wp2_with fail
      go_ret
      exact ⟨rfl,X3E.out.trans HZx.out⟩

-- BEGUN
set_option maxRecDepth 100000 in
theorem begun {H:Type} {enc:TypeId×Value→H} (W:World) (args:Array Value) (ds:List (DataW H)) (p:List MemPlace) (st:Start enc Rows.walkFindsRow.laid Tryz.f6 W args ds p) :
    Calls Tryz.prog 6 args W fun e W'=>e=.returned (.bool true)∧Below W.heap.size W W':=by
  obtain ⟨⟨base,hval⟩,hA,hfit,hl,hsh⟩:=st
  rw [Tryz.params6] at hA hval hfit
  obtain ⟨v0,v1,v2,d0,d1,d2,p0,p1,p2,rfl,rfl,rfl,h0,h1,h2⟩:=trodAll_three hA
  have hfit:((DataW.weightsEach Tryz.prog [22,9,23] [d0,d1,d2]).all (·≤reachBytes))=true:=hfit
  simp only [DataW.weightsEach,List.append_nil,List.all_append,Bool.and_eq_true] at hfit
  obtain ⟨l,hl2⟩:=open_puts (hval 0 22 v0 rfl rfl) h0 hfit.1
  obtain ⟨fs,hF,hfs⟩:=open_files2 (hval 2 23 v2 rfl rfl) h2 hfit.2.2
  obtain ⟨b,rfl,hb⟩:=open_root (hval 1 9 v1 rfl rfl) h1 hfit.2.1
  exact walk v0 v2 b l fs W hl2 hF hfs hb (env_of hsh) (sha_of hl 1 2 rfl rfl)

set_option maxRecDepth 100000 in
theorem said:Rows.WalkFindsSaid :=
  OpenClaim.holds_of_wide 6 Tryz.f6 rfl rfl rfl rfl rfl rfl rfl ⟨rfl,rfl,rfl,rfl,rfl⟩ rfl rfl rfl rfl rfl named Tryz.func6 facts
    (of_decide_eq_true (by kernel_rfl)) (by unfold Func.isWrapper;first | (rw [if_pos (by decide +kernel)];kernel_rfl) | (rw [if_neg (by decide +kernel)];exact ⟨rfl,rfl⟩))
    (fun os started H enc _=>lifted Rows.walkFindsRow.laid (by kernel_rfl) 6 Tryz.f6 Tryz.func6 Rows.walkFindsSpec rfl (by kernel_rfl) (by kernel_rfl)
      (by rw [Tryz.params6]
          have hall:([22,9,23].all fun t=>Tryz.prog.readableRec t&&decide (t<Tryz.prog.types.size))=true:=by kernel_rfl
          intro t ht
          have:=List.all_eq_true.1 hall t ht
          simpa using this)
      (by intro H ts ds h hl;rw [Tryz.params6] at h;subst h
          match ds,hl with
          | [d1,d2,d3],_=>rfl)
      Rows.walkFindsRow.domain os started H enc #[.slice none 0 0,.string ⟨#[]⟩,.slice none 0 0] (by kernel_rfl) (by kernel_rfl) (by kernel_rfl)
      (World.shaped_of_ZipB (by kernel_rfl) (by kernel_rfl)) (laidMet_laidAll _ (by kernel_rfl) (by kernel_rfl))
      begun)

theorem card:Rows.WalkFindsCardSaid :=
  Claim7.holds_tied_plain_at .later [] Rows.walkFindsCard.laidKinds true Rows.walkFindsCard.stood.harness Rows.walkFindsCard.stood.looks said (fun _ h=>by cases h) card1 (fun _ h=>by cases h) walkFinds_row_tie rfl ⟨rfl,rfl⟩ card2 rfl
    (fun f fn hf hfn=>by
      obtain rfl:f=6:=Option.some.inj (named.symm.trans hf) |>.symm
      obtain rfl:fn=Tryz.f6:=(Option.some.inj (Tryz.func6.symm.trans hfn)).symm
      exact ⟨card3,fun j t ht=>by
        rw [Tryz.params6] at ht
        have hm:t∈[22,9,23]:=by simpa using Array.mem_of_getElem? ht
        have hall:=card4
        exact (show Tryz.pinned.checked.prog.wantsStandIn t=false by simpa using List.all_eq_true.1 hall t hm)⟩)
    card5
#print axioms card
end Go.Proofs.YtodickpibbbiiaaGreatDoor.lawWalkFinds
