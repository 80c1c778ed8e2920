/- WalkKnown: the examples of the chapter: the statement WalkKnownCardSaid, with no condition of its own. -/
import Derived.Lib.SlBytesConst
import Derived.Test.YtodickpibbbiiaaGreatDoorWkA1
import Derived.Test.YtodickpibbbiiaaGreatDoorWkB1
import Derived.Test.YtodickpibbbiiaaGreatDoorWkF4
import Derived.Test.YtodickpibbbiiaaGreatDoorWkF3

import Derived.Test.YtodickpibbbiiaaGreatDoorWalkKnownF
import Derived.Test.YtodickpibbbiiaaGreatDoorWalkKnownG
namespace Go.Proofs.YtodickpibbbiiaaGreatDoor.lawWalkKnown
open Go.ChangeShapes Go.WideShapes Go.ChangeAt Go.RowKit
open Go.ChangeMaps (open_string)

attribute [local go_sem] Oper.semAt_some
section
variable {P:Program} {ops:Array Oper} {Q:Exit→Act→World→Prop} {md:Region.Mode} {S:World→Prop} {a:Act}
theorem wpAnyH_ops2 {i j:Nat} {oi oj:Oper} {ri rj:List Oper} {vi vj:Value} {fuel:Nat} {listed:Array Bool} {w wi wj:World} (hr:Region.ready md ops listed=[i,j]) (hi:ops.toList.drop i=oi::ri) (hj:ops.toList.drop j=oj::rj) (gi:oi.guard=none) (gj:oj.guard=none)
    (hri:(execOp a.eval oi).run P w=.ok (.value vi) wi) (hrj:(execOp a.eval oj).run P w=.ok (.value vj) wj) (hSi:S wi) (hSj:S wj)
    (h1:wpAnyH P md ops Q S fuel (listed.setIfInBounds i true) (a.put oi.dst vi) wi) (h2:wpAnyH P md ops Q S fuel (listed.setIfInBounds j true) (a.put oj.dst vj) wj):wpAnyH P md ops Q S (fuel+1) listed a w :=
  wpAnyH_all hr (by simp) fun k hk=>by
    rcases List.mem_cons.1 hk with rfl | hk
    · unfold wpOp
      simp only [ops_get hi]
      rw [if_pos (by simp only [Region.wanted,gi])]
      left
      unfold Oper.wp
      rw [hri]
      exact ⟨hSi,h1⟩
    · obtain rfl:=List.mem_singleton.1 hk
      unfold wpOp
      simp only [ops_get hj]
      rw [if_pos (by simp only [Region.wanted,gj])]
      left
      unfold Oper.wp
      rw [hrj]
      exact ⟨hSj,h2⟩
end
theorem wp_calm {P:Program} {c:Code} {Q:Exit→Act→World→Prop} {a:Act} {w:World} (h:c.wp P (fun x a w=>x=.normal∧Q x a w) a w):c.wp P Q a w:=Code.wp_mono (fun _ _ _ k=>k.2) h
set_option maxRecDepth 100000 in
set_option maxHeartbeats 16000000 in
theorem walk (w:World) (E:Env w) (T:ShaTabs w):Calls Tryz.prog 4 #[] w fun e w'=>e=.returned (.bool true)∧Below w.heap.size w w':=by
  have HX0:=Lib.hid ((Ext.refl w).alloc (.cells #[.bool false] 4 (0,0)))
  have HB0:=Lib.hid (block_alloc_new w (.cells #[.bool false] 4 (0,0)))
  have HAw:=Lib.hid (fun w1 (x:Ext w w1)=>awake17_any w1 (E.ext x) (T.ext x))
  have kc:∀ (w:World) (X:Obj) (C:Array Value) (n c:Nat),(convert 52 52 (.slice (some ⟨w.heap.size+1,0,none⟩) n c)).run Tryz.prog ((w.alloc X).alloc (.cells C 5))=.ok (.slice (some ⟨w.heap.size+1,0,none⟩) n c) ((w.alloc X).alloc (.cells C 5 (C.size,C.size+1))):=fun w X C n c=>by
    have:=Lib.run_convert_bytes_const (P:=Tryz.prog) (w.alloc X) 52 5 C n c Tryz.underlying52 Tryz.underlying5
    simp only [size_alloc] at this
    exact this
  have HE:=Lib.hid E
  have HT:=Lib.hid T
  have HN1:=Lib.hid (show nF1=⟨#[102,49]⟩ from rfl)
  have HG:=Lib.hid (given_any _ (E.ext HX0.out))
  clear E T
  refine callsIn_wide.1 (callsIn_of_wp_marks (n:=4) Tryz.func4 rfl trivial ?_ rfl)
  simp only [Tryz.ntmps4,List.size_toArray,List.length_nil,Nat.reduceSub,Array.replicate_succ,Array.replicate_zero,List.push_toArray,List.append_toArray,List.nil_append,List.cons_append]
  refine wpIn_wide.2 ?_
  go_wp2_with fail
  refine HG.out.mono ?_
  rintro e w1 ⟨d,rfl,h1⟩
  have H1:=h1
  have X1:=Lib.hid (HX0.out.trans h1.out.is_ext)
  have hl0:w.heap.size<w1.heap.size:=Nat.lt_of_lt_of_le (ltB HB0.out) h1.out.is_ext.size
  have HC0:=Lib.hid ((h1.out.is_ext.block (ltB HB0.out)).trans HB0.out)
  clear h1 HG
  generalize w.alloc (.cells #[.bool false] 4 (0,0))=w0 at *
  go_wp2_with fail
  refine (list_any w1 (HE.out.ext X1.out)).mono ?_
  rintro e w2 ⟨ll,rfl,h2⟩
  have H2:=h2
  have X12:=Lib.hid h2.out.2
  have X2:=Lib.hid (X1.out.trans h2.out.2)
  have HW:=Lib.hid (aw_call (A:=[]) (B:=[]) (H1.out.ext H2.out.2) (HE.out.ext X2.out) (HT.out.ext X2.out) H2.out.1)
  rw [HN1.out] at HW
  clear h2
  go_wp2_with fail
  refine HW.out.mono ?_
  rintro e w3 ⟨v0,v1,v2,v3,rfl,h3⟩
  have H3:=Lib.hid h3.out.1
  have X13:=Lib.hid (X12.out.trans h3.out.2.2.2.2)
  obtain ⟨a0,c0,rfl,hq1,hq2,hq3⟩:=h3.out.1
  obtain ⟨g,ra,rfl,hha,hca⟩:=hq3 0 _ rfl
  obtain ⟨g1,rd,eg1,_,hcd⟩:=hq3 1 _ rfl
  obtain ⟨g2,rz,eg2,hhz,hcz⟩:=hq3 2 _ rfl
  obtain rfl:g=g1:=congrArg Addr.block (Option.some.inj eg1)
  obtain rfl:g=g2:=congrArg Addr.block (Option.some.inj eg2)
  clear eg1 eg2
  rcases hhz with ⟨_,rfl⟩ | ⟨hz1,_⟩
  case inr=>exact absurd hz1 (by decide)
  rcases hha with ⟨ha1,_⟩ | ⟨_,_,hao,_⟩
  case inl=>exact absurd rfl ha1
  have HAO:=Lib.hid hao
  have hao2:w3.ownsRow 0 54 32 ra 1 (hrow [shaL [97,98,99]]):=by
    have h5:=hao
    rw [show (tAbc.toList)=[97,98,99] from by rw [Lib.toList_data];rfl] at h5
    exact h5
  obtain ⟨ga,ca,rfl,hag⟩:=hash_row hao2 (shaL_len _)
  clear hao2
  have HAS:=Lib.hid (show Value.oneCell' (.slice (some ⟨ga,0,none⟩) 1 ca)=true from rfl)
  have HRA:=Lib.hid (fun w' (y:Ext w3 w')=>(fun j u hj=>by
    have:=hca j u hj
    exact (y.cell (lt_of_cell this)).trans this:w'.rangeAt g (0*27) (itemC ⟨#[97]⟩ ⟨1,tAbc,emp,5⟩ 3 16 (.slice (some ⟨ga,0,none⟩) 1 ca)).toList))
  have HRZ:=Lib.hid (fun w' (y:Ext w3 w')=>(fun j u hj=>by
    have:=hcz j u hj
    exact (y.cell (lt_of_cell this)).trans this:w'.rangeAt g (2*27) (itemC ⟨#[122]⟩ ⟨3,emp,⟨#[97]⟩,6⟩ 0 0 (.slice none 0 0)).toList))
  have HRD:=Lib.hid (show w3.cell? ⟨g,1*27+1,none⟩=some (.int .i64 2) from hcd 1 _ rfl)
  clear hao hca hcz hcd hq3
  have hal:aItems.length=3:=rfl
  rw [hal] at hq1 ⊢
  obtain ⟨⟨a1,c1,rfl,_⟩,_⟩:=h3.out.2.1
  obtain ⟨⟨a2,c2,rfl,_⟩,_⟩:=h3.out.2.2.1
  obtain ⟨⟨a3,c3,rfl,_⟩,_⟩:=h3.out.2.2.2.1
  clear h3 HW
  have X4:=Lib.hid ((Ext.refl w3).alloc (.cells #[.slice (some ⟨g,0,none⟩) 3 c0,.slice a1 1 c1,.slice a2 1 c2,.slice a3 0 c3] 37 (0,0)))
  have HB4:=Lib.hid (block_alloc_new w3 (.cells #[.slice (some ⟨g,0,none⟩) 3 c0,.slice a1 1 c1,.slice a2 1 c2,.slice a3 0 c3] 37 (0,0)))
  go_wp2_with fail
  obtain ⟨w4,hw4⟩:∃ w4,w4=w3.alloc (.cells #[.slice (some ⟨g,0,none⟩) 3 c0,.slice a1 1 c1,.slice a2 1 c2,.slice a3 0 c3] 37 (0,0)):=⟨_,rfl⟩
  rw [←hw4] at HB4 X4 ⊢
  have hs4:w4.heap.size=w3.heap.size+1:=by rw [hw4];simp only [size_alloc]
  clear hw4 kc
  rw [←hs4]
  have HBy:=Lib.hid (block_alloc_new w4 (.cells #[.int .u8 97,.int .u8 98,.int .u8 99] 5 (3,4)))
  have X5:=Lib.hid ((Ext.refl w4).alloc (.cells #[.int .u8 97,.int .u8 98,.int .u8 99] 5 (3,4)))
  have hs5:(w4.alloc (.cells #[.int .u8 97,.int .u8 98,.int .u8 99] 5 (3,4))).heap.size=w4.heap.size+1:=by simp only [size_alloc]
  generalize w4.alloc (.cells #[.int .u8 97,.int .u8 98,.int .u8 99] 5 (3,4))=w5 at *
  have X15:=Lib.hid ((X13.out.trans X4.out).trans X5.out)
  have X05:=Lib.hid (X1.out.trans X15.out)
  have HBL:=Lib.hid (blist_any [97,98,99] (.slice (some ⟨w4.heap.size,0,none⟩) 3 3) w5 (HT.out.ext X05.out) ⟨_,3,rfl,by decide,by decide,fun _=>⟨w4.heap.size,0,rfl,by omega,by omega,fun j x hj=>by
    rw [Nat.zero_add]
    refine (cellB HBy.out).trans ?_
    have hj3:j<3:=(List.getElem?_eq_some_iff.1 hj).1
    have e2:j=0∨j=1∨j=2:=by omega
    rcases e2 with rfl | rfl | rfl <;> cases hj <;> rfl⟩⟩ (by decide))
  refine HBL.out.mono ?_
  rintro e w6 ⟨u,rfl,h6⟩
  have HU:=Lib.hid h6.out.1
  have X6:=Lib.hid (X15.out.trans h6.out.2)
  have X46:=Lib.hid (X5.out.trans h6.out.2)
  have hcn:countN ([97,98,99]:List UInt8).length=1:=by decide
  have hab:hashesL [97,98,99]=[shaL [97,98,99]]:=rfl
  obtain ⟨gu,uc,rfl,hug⟩:=hash_row (h:=shaL [97,98,99]) (by have:=h6.out.1;rw [hcn,hab] at this;exact this) (shaL_len _)
  clear hcn hab
  clear h6 HBL
  go_wp2_with fail
  refine (HAw.out _ (X1.out.trans X6.out)).mono ?_
  rintro e w7 ⟨rfl,x7⟩
  have X7:=Lib.hid (X6.out.trans x7)
  have HB7:=Lib.hid (((X46.out.trans x7).block (ltB HB4.out)).trans HB4.out)
  have k0:w7.cell? ⟨w3.heap.size,0,none⟩=some (.slice (some ⟨g,0,none⟩) 3 c0):=cellB HB7.out
  have H67:=Lib.hid x7
  clear x7
  have X37:=Lib.hid (X4.out.trans (X46.out.trans H67.out))
  go_upto_region 6 with (fail)
  refine wp_calm ?_
  refine wp_region_held (S:=fun w'=>Ext w7 w') (by kernel_rfl) ?_
  change wpAnyH _ _ _ _ _ _ _ _ (World.drew _)
  have SD:=(Ext.refl w7).drew
  generalize w7.drew=wd at *
  refine wpAnyH_takeL (i:=0) (v:=.pointer (some ⟨w3.heap.size,0,none⟩)) rfl (by kernel_rfl) (by kernel_rfl) (by kernel_rfl) (fun _ _ _ h=>nomatch h.1) (Or.inl ⟨rfl,fun w' _=>by go_simp⟩) SD ?_
  go_frame
  refine wpAnyH_takeL (i:=1) (v:=.slice (some ⟨g,0,none⟩) 3 c0) rfl (by kernel_rfl) (by kernel_rfl) (by kernel_rfl) (fun _ _ _ h=>nomatch h.1) (Or.inl ⟨rfl,fun w' h=>by have:=(h.cell (lt_of_cell k0)).trans k0;go_simp⟩) SD ?_
  go_frame
  refine wpAnyH_takeL (i:=2) (v:=.pointer (some ⟨g,0*27,none⟩)) rfl (by kernel_rfl) (by kernel_rfl) (by kernel_rfl) (fun _ _ _ h=>nomatch h.1) (Or.inl ⟨rfl,fun w' _=>by go_simp⟩) SD ?_
  go_frame
  refine wpAnyH_takeL (i:=3) (v:=.agg (itemC ⟨#[97]⟩ ⟨1,tAbc,emp,5⟩ 3 16 (.slice (some ⟨ga,0,none⟩) 1 ca))) rfl (by kernel_rfl) (by kernel_rfl) (by kernel_rfl) (fun _ _ _ h=>nomatch h.1) (yieldsIf_load_at rfl 45 _ rfl g (0*27) rfl _ _ (fun w' h=>HRA.out w' (X37.out.trans h)) Tryz.underlying45 rfl (by kernel_rfl)) SD ?_
  go_frame
  refine wpAnyH_takeL (i:=4) (v:=.pointer (some ⟨w3.heap.size,0,none⟩)) rfl (by kernel_rfl) (by kernel_rfl) (by kernel_rfl) (fun _ _ _ h=>nomatch h.1) (Or.inl ⟨rfl,fun w' _=>by go_simp⟩) SD ?_
  go_frame
  refine wpAnyH_takeL (i:=5) (v:=.slice (some ⟨g,0,none⟩) 3 c0) rfl (by kernel_rfl) (by kernel_rfl) (by kernel_rfl) (fun _ _ _ h=>nomatch h.1) (Or.inl ⟨rfl,fun w' h=>by have:=(h.cell (lt_of_cell k0)).trans k0;go_simp⟩) SD ?_
  go_frame
  refine wpAnyH_takeL (i:=6) (v:=.pointer (some ⟨g,2*27,none⟩)) rfl (by kernel_rfl) (by kernel_rfl) (by kernel_rfl) (fun _ _ _ h=>nomatch h.1) (Or.inl ⟨rfl,fun w' _=>by go_simp⟩) SD ?_
  go_frame
  refine wpAnyH_takeL (i:=7) (v:=.agg (itemC ⟨#[122]⟩ ⟨3,emp,⟨#[97]⟩,6⟩ 0 0 (.slice none 0 0))) rfl (by kernel_rfl) (by kernel_rfl) (by kernel_rfl) (fun _ _ _ h=>nomatch h.1) (yieldsIf_load_at rfl 45 _ rfl g (2*27) rfl _ _ (fun w' h=>HRZ.out w' (X37.out.trans h)) Tryz.underlying45 rfl (by kernel_rfl)) SD ?_
  go_frame
  have HAL:=fun {o:Oper} {a:Act} (ho:o.op=.alloc 45) w=>run_allocOp (P:=Tryz.prog) (o:=o) (a:=a) 45 ho w rec0 _ rfl (by kernel_rfl)
  refine wpAnyH_ops2 (i:=8) (j:=9) (vi:=.pointer (some ⟨wd.heap.size,0,none⟩)) (vj:=.pointer (some ⟨wd.heap.size,0,none⟩)) (wi:=wd.alloc (.cells rec0 45)) (wj:=wd.alloc (.cells rec0 45)) (by kernel_rfl) rfl rfl rfl rfl (HAL rfl wd) (HAL rfl wd) (SD.alloc _) (SD.alloc _) ?arm1 ?arm2
  case' arm1 =>
    go_frame
    refine wpAnyH_one (i:=9) (v:=.pointer (some ⟨wd.heap.size+1,0,none⟩)) (by kernel_rfl) rfl rfl (by rw [←size_alloc wd (.cells rec0 45)];exact HAL rfl _) ((SD.alloc _).alloc _) ?_
    go_frame
    obtain ⟨W,hW⟩:∃ W,W=(wd.alloc (.cells rec0 45)).alloc (.cells rec0 45):=⟨_,rfl⟩
    have hB6:W.heap[wd.heap.size]?=some (.cells rec0 45 (0,0)):=by rw [hW];exact (block_alloc_old (by simp only [size_alloc];omega)).trans (block_alloc_new _ _)
    have hB7:W.heap[wd.heap.size+1]?=some (.cells rec0 45 (0,0)):=by rw [hW];have:=block_alloc_new (wd.alloc (.cells rec0 45)) (.cells rec0 45 (0,0));rwa [size_alloc] at this
    have SW:Ext w7 W:=by rw [hW];exact (SD.alloc _).alloc _
    rw [←hW]
    clear hW
    have hbd:w7.heap.size≤wd.heap.size:=SD.size
    obtain ⟨b6,e6⟩:∃ b,b=wd.heap.size:=⟨_,rfl⟩
    obtain ⟨b7,e7⟩:∃ b,b=wd.heap.size+1:=⟨_,rfl⟩
    rw [←e7] at hB7 ⊢
    rw [←e6] at hB6 hbd ⊢
    have hne:b6≠b7:=by omega
    have h6:w7.heap.size≤b6:=hbd
    have h7:w7.heap.size≤b7:=by omega
    clear e6 e7 hbd HAL SD
    have HQ:=fun C=>(show (itemC ⟨#[97]⟩ ⟨1,tAbc,emp,5⟩ 3 16 C).size=27 from rfl)
    refine wpAnyH_storeT (i:=10) (by kernel_rfl) rfl rfl 45 _ _ rfl b6 (itemC ⟨#[97]⟩ ⟨1,tAbc,emp,5⟩ 3 16 (.slice (some ⟨ga,0,none⟩) 1 ca)) rfl rfl 45 rec0 hB6 (by kernel_rfl) rfl (by simp [itemC,Value.oneCell']) fun y1 hb1 ht1=>?_
    refine ⟨ht1.fresh SW h6,?_⟩
    go_frame
    have h71:=(ht1.block b7 (ltB hB7) (fun e=>hne (Option.some.inj e).symm)).trans hB7
    refine wpAnyH_storeT (i:=11) (by kernel_rfl) rfl rfl 45 _ _ rfl b7 (itemC ⟨#[122]⟩ ⟨3,emp,⟨#[97]⟩,6⟩ 0 0 (.slice none 0 0)) rfl rfl 45 rec0 h71 (by kernel_rfl) rfl (by kernel_rfl) fun y2 hb2 ht2=>?_
    refine ⟨ht2.fresh (ht1.fresh SW h6) h7,?_⟩
    have hb1:=(ht2.block b6 (ltB hb1) (fun e=>hne (Option.some.inj e))).trans hb1
    have SX:=ht2.fresh (ht1.fresh SW h6) h7
    clear ht1 ht2 h71 hB6 hB7 SW
    go_frame
    refine wpAnyH_done (by kernel_rfl) ?_ _
    refine And.intro rfl ?_
  case' arm2 =>
    go_frame
    refine wpAnyH_one (i:=8) (v:=.pointer (some ⟨wd.heap.size+1,0,none⟩)) (by kernel_rfl) rfl rfl (by rw [←size_alloc wd (.cells rec0 45)];exact HAL rfl _) ((SD.alloc _).alloc _) ?_
    go_frame
    obtain ⟨W,hW⟩:∃ W,W=(wd.alloc (.cells rec0 45)).alloc (.cells rec0 45):=⟨_,rfl⟩
    have hB7:W.heap[wd.heap.size]?=some (.cells rec0 45 (0,0)):=by rw [hW];exact (block_alloc_old (by simp only [size_alloc];omega)).trans (block_alloc_new _ _)
    have hB6:W.heap[wd.heap.size+1]?=some (.cells rec0 45 (0,0)):=by rw [hW];have:=block_alloc_new (wd.alloc (.cells rec0 45)) (.cells rec0 45 (0,0));rwa [size_alloc] at this
    have SW:Ext w7 W:=by rw [hW];exact (SD.alloc _).alloc _
    rw [←hW]
    clear hW
    have hbd:w7.heap.size≤wd.heap.size:=SD.size
    obtain ⟨b6,e6⟩:∃ b,b=wd.heap.size+1:=⟨_,rfl⟩
    obtain ⟨b7,e7⟩:∃ b,b=wd.heap.size:=⟨_,rfl⟩
    rw [←e6] at hB6 ⊢
    rw [←e7] at hB7 hbd ⊢
    have hne:b6≠b7:=by omega
    have h6:w7.heap.size≤b6:=by omega
    have h7:w7.heap.size≤b7:=hbd
    clear e6 e7 hbd HAL SD
    have HQ:=fun C=>(show (itemC ⟨#[97]⟩ ⟨1,tAbc,emp,5⟩ 3 16 C).size=27 from rfl)
    refine wpAnyH_storeT (i:=10) (by kernel_rfl) rfl rfl 45 _ _ rfl b6 (itemC ⟨#[97]⟩ ⟨1,tAbc,emp,5⟩ 3 16 (.slice (some ⟨ga,0,none⟩) 1 ca)) rfl rfl 45 rec0 hB6 (by kernel_rfl) rfl (by simp [itemC,Value.oneCell']) fun y1 hb1 ht1=>?_
    refine ⟨ht1.fresh SW h6,?_⟩
    go_frame
    have h71:=(ht1.block b7 (ltB hB7) (fun e=>hne (Option.some.inj e).symm)).trans hB7
    refine wpAnyH_storeT (i:=11) (by kernel_rfl) rfl rfl 45 _ _ rfl b7 (itemC ⟨#[122]⟩ ⟨3,emp,⟨#[97]⟩,6⟩ 0 0 (.slice none 0 0)) rfl rfl 45 rec0 h71 (by kernel_rfl) rfl (by kernel_rfl) fun y2 hb2 ht2=>?_
    refine ⟨ht2.fresh (ht1.fresh SW h6) h7,?_⟩
    have hb1:=(ht2.block b6 (ltB hb1) (fun e=>hne (Option.some.inj e))).trans hb1
    have SX:=ht2.fresh (ht1.fresh SW h6) h7
    clear ht1 ht2 h71 hB6 hB7 SW
    go_frame
    refine wpAnyH_done (by kernel_rfl) ?_ _
    refine And.intro rfl ?_
  all_goals (
    have XY1:=Lib.hid (X7.out.trans SX)
    have XY3:=Lib.hid (X37.out.trans SX)
    have XY6:=Lib.hid (H67.out.trans SX)
    have kb:∀ z:After y2,z.v.heap[b6]?=some (.cells (itemC ⟨#[97]⟩ ⟨1,tAbc,emp,5⟩ 3 16 (.slice (some ⟨ga,0,none⟩) 1 ca)) 45 (0,0)):=fun z=>(z.x.block (ltB hb1)).trans hb1
    have kd:∀ z:After y2,z.v.heap[b7]?=some (.cells (itemC ⟨#[122]⟩ ⟨3,emp,⟨#[97]⟩,6⟩ 0 0 (.slice none 0 0)) 45 (0,0)):=fun z=>(z.x.block (ltB hb2)).trans hb2
    have c1:∀ z:After y2,z.v.cell? ⟨b6,1,none⟩=some (.int .i64 1):=fun z=>cellB (kb z)
    have c3:∀ z:After y2,z.v.cell? ⟨b6,3,none⟩=some (.int .i64 3):=fun z=>cellB (kb z)
    have c4:∀ z:After y2,z.v.cell? ⟨b6,4,none⟩=some (.int .i64 5):=fun z=>cellB (kb z)
    have c22:∀ z:After y2,z.v.cell? ⟨b6,22,none⟩=some (.int .i64 16):=fun z=>cellB (kb z)
    have c23:∀ z:After y2,z.v.cell? ⟨b6,23,none⟩=some (.slice (some ⟨ga,0,none⟩) 1 ca):=fun z=>cellB (kb z)
    have d1:∀ z:After y2,z.v.cell? ⟨b7,1,none⟩=some (.int .i64 3):=fun z=>cellB (kd z)
    have d4:∀ z:After y2,z.v.cell? ⟨b7,4,none⟩=some (.int .i64 6):=fun z=>cellB (kd z)
    have d24:∀ z:After y2,z.v.cell? ⟨b7,24,none⟩=some (.string ⟨#[97]⟩):=fun z=>cellB (kd z)
    have i0:∀ z:After y2,z.v.cell? ⟨w3.heap.size,0,none⟩=some (.slice (some ⟨g,0,none⟩) 3 c0):=fun z=>((SX.trans z.x).cell (lt_of_cell k0)).trans k0
    have i1:∀ z:After y2,z.v.cell? ⟨g,1*27+1,none⟩=some (.int .i64 2):=fun z=>((XY3.out.trans z.x).cell (lt_of_cell HRD.out)).trans HRD.out
    have RA:=Lib.hid (show ∀ w',(∃ z:After y2,w'=z.v)→w'.rangeAt ga 0 (hArr (shaL [97,98,99]) 32).toList from by
      rintro _ ⟨z,rfl⟩
      exact hag.out _ (XY3.out.trans z.x))
    have RU:=Lib.hid (show ∀ w',(∃ z:After y2,w'=z.v)→w'.rangeAt gu 0 (hArr (shaL [97,98,99]) 32).toList from by
      rintro _ ⟨z,rfl⟩
      exact hug.out _ (XY6.out.trans z.x))
    have heq:=fun w=>(eq_hash (shaL [97,98,99]) (shaL [97,98,99]) (shaL_len _) (shaL_len _) w).trans (by rw [decide_eq_true rfl])
    have HZh:=Lib.hid (show (Tryz.prog.info? 54).map (·.size)=some (hArr (shaL [97,98,99]) 32).size from by rw [hArr_size _ _ (shaL_len _) (by omega)];kernel_rfl)
    generalize hArr (shaL [97,98,99]) 32=Ah at *
    clear kb kd
    go_upto_region 7 with (fail)
    refine wp_region_after (by kernel_rfl) (by kernel_rfl) ?_
    iterate 28 go_big_quiet_step (fail)
    refine wpQuiet_load_ag rfl _ _ rfl ga 0 rfl Ah _ RA.out Tryz.underlying54 rfl HZh.out ?_
    go_frame
    iterate 2 go_big_quiet_step (fail)
    refine wpQuiet_load_ag rfl _ _ rfl gu 0 rfl Ah _ RU.out Tryz.underlying54 rfl HZh.out ?_
    go_frame
    iterate 25 go_big_quiet_step (fail)
    refine wpQuiet_nil ?_
    rintro _ ⟨z,rfl⟩
    have HZ1:=Lib.hid (XY1.out.trans z.x)
    have HK9:=Lib.hid (kn_call (A:=[]) (B:=[]) (H1.out.ext HZ1.out) (HE.out.ext (X1.out.trans HZ1.out)) (HT.out.ext (X1.out.trans HZ1.out)))
    rw [HN1.out] at HK9
    clear c1 c3 c4 c22 c23 d1 d4 d24 i0 i1 RA RU heq HZh
    go_wp2_with fail
    refine HK9.out.mono ?_
    rintro e w9 ⟨v0,v1,v2,v3,rfl,h9⟩
    have X9:=Lib.hid (HZ1.out.trans h9.out.2.2.2.2)
    have H9:=h9
    obtain ⟨p0,q0,rfl,_⟩:=h9.out.1
    obtain ⟨⟨p1,q1,rfl,_⟩,_⟩:=h9.out.2.1
    obtain ⟨⟨p2,q2,rfl,_⟩,_⟩:=h9.out.2.2.1
    obtain ⟨⟨p3,q3,rfl,_⟩,_⟩:=h9.out.2.2.2.1
    clear h9 HK9
    have Xa:=Lib.hid ((Ext.refl w9).alloc (.cells #[.slice p0 knItems.length q0,.slice p1 1 q1,.slice p2 0 q2,.slice p3 1 q3] 37 (0,0)))
    have HBa:=Lib.hid (block_alloc_new w9 (.cells #[.slice p0 knItems.length q0,.slice p1 1 q1,.slice p2 0 q2,.slice p3 1 q3] 37 (0,0)))
    go_upto_region 10 with (fail)
    generalize w9.alloc (.cells #[.slice p0 knItems.length q0,.slice p1 1 q1,.slice p2 0 q2,.slice p3 1 q3] 37 (0,0))=wa at *
    have f2:wa.cell? ⟨w9.heap.size,2,none⟩=some (.slice p2 0 q2):=cellB HBa.out
    have f3:wa.cell? ⟨w9.heap.size,3,none⟩=some (.slice p3 1 q3):=cellB HBa.out
    have HJ:=Lib.hid (join_one (H9.out.2.2.2.1.ext Xa.out) ⟨#[32]⟩ (by decide))
    go_wp2_with fail
    refine HJ.out.mono ?_
    rintro e wj ⟨rfl,xj⟩
    have f0:wj.cell? ⟨w9.heap.size,0,none⟩=some (.slice p0 knItems.length q0):=cellB ((xj.block (ltB HBa.out)).trans HBa.out)
    have HP:=Lib.hid (by
      have:=paths_any (H9.out.1.ext (Xa.out.trans xj)) (by decide) (fun x hx=>by
        simp only [knItems,List.mem_cons,List.not_mem_nil,or_false] at hx
        rcases hx with rfl | rfl | rfl | rfl <;> decide)
      rw [kn_paths] at this
      exact this:Calls Tryz.prog 23 #[.slice p0 knItems.length q0] wj fun e w'=>e=.returned (.string ⟨#[97,32,100,32,100,47,101,32,122,32]⟩)∧Ext wj w')
    have Xj:=Lib.hid xj
    clear xj f2 f3 HJ
    go_wp2_with fail
    refine HP.out.mono ?_
    rintro e wk ⟨rfl,xk⟩
    have Xc0:=Lib.hid (X9.out.trans (Xa.out.trans (Xj.out.trans xk)))
    clear xk f0 HP
    have HI:=Lib.hid (kn_item (A:=[]) (B:=[]) (H1.out.ext Xc0.out) (HE.out.ext (X1.out.trans Xc0.out)) (HT.out.ext (X1.out.trans Xc0.out)) ⟨#[100,47,101,47,121]⟩ (by decide) 3 kn_y)
    rw [HN1.out] at HI
    go_wp2_with fail
    refine HI.out.mono ?_
    rintro e v12 ⟨C,rfl,hC⟩
    have HZc:=Lib.hid (block_alloc_new v12 (.cells rec0 45 (0,0)))
    have HXc:=Lib.hid ((Ext.refl v12).alloc (.cells rec0 45 (0,0)))
    rw [rec0_is] at HZc HXc
    have HAi:=Lib.hid (show (Tryz.prog.info? 45).map (·.size)=some C.size from by rw [hC.out.1];kernel_rfl)
    have HAo:=Lib.hid (show rec0.size=C.size from by rw [hC.out.1];rfl)
    go_wp2_with (refine wpList_storeT rfl _ _ _ rfl v12.heap.size C rfl rfl 45 _ HZc.out HAi.out HAo.out hC.out.2.1 ?_;intro u12 hb12 ht12;have Xt12:=Lib.hid (ht12.fresh HXc.out (Nat.le_refl _));clear hb12 ht12;go_frame)
    have Xc1:=Lib.hid (Xc0.out.trans (hC.out.2.2.trans Xt12.out))
    clear HI HZc HXc HAi HAo hC Xt12
    have HI:=Lib.hid (kn_item (A:=[]) (B:=[]) (H1.out.ext Xc1.out) (HE.out.ext (X1.out.trans Xc1.out)) (HT.out.ext (X1.out.trans Xc1.out)) ⟨#[98]⟩ (by decide) 5 kn_b)
    rw [HN1.out] at HI
    go_wp2_with fail
    refine HI.out.mono ?_
    rintro e v13 ⟨C,rfl,hC⟩
    have HZc:=Lib.hid (block_alloc_new v13 (.cells rec0 45 (0,0)))
    have HXc:=Lib.hid ((Ext.refl v13).alloc (.cells rec0 45 (0,0)))
    rw [rec0_is] at HZc HXc
    have HAi:=Lib.hid (show (Tryz.prog.info? 45).map (·.size)=some C.size from by rw [hC.out.1];kernel_rfl)
    have HAo:=Lib.hid (show rec0.size=C.size from by rw [hC.out.1];rfl)
    go_wp2_with (refine wpList_storeT rfl _ _ _ rfl v13.heap.size C rfl rfl 45 _ HZc.out HAi.out HAo.out hC.out.2.1 ?_;intro u13 hb13 ht13;have Xt13:=Lib.hid (ht13.fresh HXc.out (Nat.le_refl _));clear hb13 ht13;go_frame)
    have Xc2:=Lib.hid (Xc1.out.trans (hC.out.2.2.trans Xt13.out))
    clear HI HZc HXc HAi HAo hC Xt13
    have HI:=Lib.hid (kn_item (A:=[]) (B:=[]) (H1.out.ext Xc2.out) (HE.out.ext (X1.out.trans Xc2.out)) (HT.out.ext (X1.out.trans Xc2.out)) ⟨#[47]⟩ (by decide) 10 kn_s)
    rw [HN1.out] at HI
    go_wp2_with fail
    refine HI.out.mono ?_
    rintro e v14 ⟨C,rfl,hC⟩
    have HZc:=Lib.hid (block_alloc_new v14 (.cells rec0 45 (0,0)))
    have HXc:=Lib.hid ((Ext.refl v14).alloc (.cells rec0 45 (0,0)))
    rw [rec0_is] at HZc HXc
    have HAi:=Lib.hid (show (Tryz.prog.info? 45).map (·.size)=some C.size from by rw [hC.out.1];kernel_rfl)
    have HAo:=Lib.hid (show rec0.size=C.size from by rw [hC.out.1];rfl)
    go_wp2_with (refine wpList_storeT rfl _ _ _ rfl v14.heap.size C rfl rfl 45 _ HZc.out HAi.out HAo.out hC.out.2.1 ?_;intro u14 hb14 ht14;have Xt14:=Lib.hid (ht14.fresh HXc.out (Nat.le_refl _));clear hb14 ht14;go_frame)
    have Xc3:=Lib.hid (Xc2.out.trans (hC.out.2.2.trans Xt14.out))
    clear HI HZc HXc HAi HAo hC Xt14
    have HI:=Lib.hid (kn_bad (A:=[]) (B:=[]) (H1.out.ext Xc3.out) (HE.out.ext (X1.out.trans Xc3.out)) (HT.out.ext (X1.out.trans Xc3.out)) ⟨#[102,50]⟩ 5 (by decide) kn_r2)
    go_wp2_with fail
    refine HI.out.mono ?_
    rintro e v15 ⟨a0,n0,d0,a1,n1,d1,a2,n2,d2,a3,n3,d3,rfl,hx⟩
    have Xc4:=Lib.hid (Xc3.out.trans (hx.out.alloc (.cells #[.slice a0 n0 d0,.slice a1 n1 d1,.slice a2 n2 d2,.slice a3 n3 d3] 37 (0,0))))
    clear HI hx
    go_wp2_with fail
    generalize v15.alloc (.cells #[.slice a0 n0 d0,.slice a1 n1 d1,.slice a2 n2 d2,.slice a3 n3 d3] 37 (0,0))=u15 at *
    have HI:=Lib.hid (kn_bad (A:=[]) (B:=[]) (H1.out.ext Xc4.out) (HE.out.ext (X1.out.trans Xc4.out)) (HT.out.ext (X1.out.trans Xc4.out)) ⟨#[102,49,47,97]⟩ 12 (by decide) kn_ra)
    go_wp2_with fail
    refine HI.out.mono ?_
    rintro e v16 ⟨a0,n0,d0,a1,n1,d1,a2,n2,d2,a3,n3,d3,rfl,hx⟩
    have Xc5:=Lib.hid (Xc4.out.trans (hx.out.alloc (.cells #[.slice a0 n0 d0,.slice a1 n1 d1,.slice a2 n2 d2,.slice a3 n3 d3] 37 (0,0))))
    clear HI hx
    go_wp2_with fail
    generalize v16.alloc (.cells #[.slice a0 n0 d0,.slice a1 n1 d1,.slice a2 n2 d2,.slice a3 n3 d3] 37 (0,0))=u16 at *
    have HI:=Lib.hid (kn_bad (A:=[]) (B:=[]) (H1.out.ext Xc5.out) (HE.out.ext (X1.out.trans Xc5.out)) (HT.out.ext (X1.out.trans Xc5.out)) ⟨#[]⟩ 10 (by decide) kn_r0)
    go_wp2_with fail
    refine HI.out.mono ?_
    rintro e v17 ⟨a0,n0,d0,a1,n1,d1,a2,n2,d2,a3,n3,d3,rfl,hx⟩
    have Xc6:=Lib.hid (Xc5.out.trans (hx.out.alloc (.cells #[.slice a0 n0 d0,.slice a1 n1 d1,.slice a2 n2 d2,.slice a3 n3 d3] 37 (0,0))))
    clear HI hx
    go_wp2_with fail
    generalize v17.alloc (.cells #[.slice a0 n0 d0,.slice a1 n1 d1,.slice a2 n2 d2,.slice a3 n3 d3] 37 (0,0))=u17 at *
    have HI:=Lib.hid (walk_none ⟨#[102,49]⟩ none u17)
    unfold found0 at HI
    refine HI.out.mono ?_
    rintro e v18 ⟨rfl,hx⟩
    have Xc7:=Lib.hid (Xc6.out.trans (hx.alloc (.cells #[.slice none 0 0,.slice none 0 0,.slice none 0 0,.slice none 0 0] 37 (0,0))))
    clear HI hx
    go_wp2_with fail
    generalize v18.alloc (.cells #[.slice none 0 0,.slice none 0 0,.slice none 0 0,.slice none 0 0] 37 (0,0))=u18 at *
    have HI:=Lib.hid (kn_none u18)
    go_wp2_with fail
    refine HI.out.mono ?_
    rintro e v19 ⟨C,rfl,hC⟩
    have HZc:=Lib.hid (block_alloc_new v19 (.cells rec0 45 (0,0)))
    have HXc:=Lib.hid ((Ext.refl v19).alloc (.cells rec0 45 (0,0)))
    rw [rec0_is] at HZc HXc
    have HAi:=Lib.hid (show (Tryz.prog.info? 45).map (·.size)=some C.size from by rw [hC.out.1];kernel_rfl)
    have HAo:=Lib.hid (show rec0.size=C.size from by rw [hC.out.1];rfl)
    go_wp2_with (refine wpList_storeT rfl _ _ _ rfl v19.heap.size C rfl rfl 45 _ HZc.out HAi.out HAo.out hC.out.2.1 ?_;intro u19 hb19 ht19;have Xt19:=Lib.hid (ht19.fresh HXc.out (Nat.le_refl _));clear hb19 ht19;go_frame)
    have Xc8:=Lib.hid (Xc7.out.trans (hC.out.2.2.trans Xt19.out))
    clear HI HZc HXc HAi HAo hC Xt19
    refine (each_any none ⟨#[102,49]⟩ _).mono ?_
    rintro e wF ⟨rfl,hwF⟩
    have XF:=Lib.hid (show Ext u19 wF from by rw [hwF];exact ((Ext.refl u19).alloc _).alloc _)
    have HBd:=Lib.hid (show wF.heap[u19.heap.size]?=some (.cells #[.pointer none] 26 (0,0)) from by
      rw [hwF]
      exact (block_alloc_old (by simp only [size_alloc];omega)).trans (block_alloc_new u19 (.cells #[.pointer none] 26 (0,0))))
    have HBr:=Lib.hid (show wF.heap[u19.heap.size+1]?=some (.cells #[.string ⟨#[102,49]⟩] 9 (0,0)) from by
      rw [hwF]
      have h1:=block_alloc_new (u19.alloc (.cells #[.pointer none] 26 (0,0))) (.cells #[.string ⟨#[102,49]⟩] 9 (0,0))
      rw [size_alloc] at h1
      exact h1)
    clear hwF
    go_wp2_with fail
    refine (wpIn_wide (n:=4)).1 ?_
    refine wpIn_rangeFunc_ownH rfl (by decide) (gf:=79) (lb:=#[.pointer (some ⟨u19.heap.size,0,none⟩),.pointer (some ⟨u19.heap.size+1,0,none⟩)]) rfl trivial (enters_of Tryz.func79 (by kernel_rfl) rfl)
      (each_none 3 (by decide) (w0:=wF) (root:=⟨#[102,49]⟩) (cellB HBd.out) (cellB HBr.out))
      (fun _ _=>trivial) (fun _ _ _ _ _ _ _ _=>trivial) (Below.refl _ _) (fun _=>rfl)
      (fun _ W=>Hid (Ext u19 W)) (fun _ _ _=>False) ?own (fun c s W W' row hs _ _=>hs) (Lib.hid XF.out) (fun _ _ _=>True) ?ax ?assign ?body ?done ?stop
    case own =>
      rintro pre W W' row hx hg hr
      exact Lib.hid (hx.out.grown hg hx.out.size fun k e=>by have:=(hr k e).1;have:=XF.out.size;omega)
    case ax=>exact fun x a' _ W W' row h _ _=>h
    case assign =>
      rintro l pre x W K hx hK
      have HKk:=Lib.hid hK
      clear hK
      unfold encW
      gi_wp2
      exact HKk.out _ _ (KeepsFrom.refl _ _) trivial hx trivial
    case body =>
      rintro lr pre x a' W hl hlr hx _ hlen
      exact absurd hlen (Nat.not_lt_zero _)
    case stop =>
      rintro Dd c pre W hDd hSp hx _
      exact hSp.elim
    case done =>
      rintro Dd xs W hDd hS hx hK
      have HKd:=Lib.hid hK
      have XW:=Lib.hid (Xc8.out.trans hx.out)
      have HBG:=Lib.hid ((XW.out.block (ltB HC0.out)).trans HC0.out)
      have hDge:=hDd
      have hsz:=Nat.le_trans (Nat.le_trans Xc8.out.size XF.out.size) hDd
      have hlt:=ltB HC0.out
      clear hx hK hDd
      go_wp2_with (refine wpList_storeB rfl _ _ _ rfl w.heap.size (.bool true) (.bool false) rfl rfl (by kernel_rfl) rfl _ HBG.out ?_;intro w9' hb9 ht9;have HB9:=Lib.hid hb9;have HT9:=Lib.hid ht9;clear hb9 ht9;go_frame)
      have hDne:Dd≠w.heap.size:=by omega
      have hK9:w9'.heap[Dd]?=some (.deferred (some [])):=(HT9.out.block Dd (ltB HKd.out) (fun e=>hDne (Option.some.inj e))).trans HKd.out
      have hB10:(w9'.putObj Dd (.deferred none)).heap[w.heap.size]?=some (.cells #[.bool true] 4 (0,0)):=(World.putObj_heap_other (fun e=>hDne e.symm)).trans HB9.out
      refine ⟨by simp,.inl ⟨_,_,rfl,run_takeDeferred hK9,?_⟩⟩
      have x9:=HT9.out.fresh (X1.out.trans XW.out) (Nat.le_refl _)
      exact ⟨_,results_bool rfl _ _ _ _ _ _ rfl hB10,rfl,x9.grown (grownBy_putObj' w9' Dd _) x9.size fun k e=>by
        have:=Option.some.inj e
        omega⟩)

-- BEGUN
set_option maxRecDepth 100000 in
theorem begun {H:Type} {enc:TypeId×Value→H} (W:World) (args:Array Value) (ds:List (DataW H)) (p:List MemPlace) (st:Start enc Rows.walkKnownRow.laid Tryz.f4 W args ds p) :
    Calls Tryz.prog 4 args W fun e W'=>e=.returned (.bool true)∧Below W.heap.size W W':=by
  obtain ⟨⟨base,hval⟩,hA,hfit,hl,hsh⟩:=st
  rw [Tryz.params4] at hA hval hfit
  have hn:args=#[]:=by
    cases h:args.toList with
    | nil=>simpa using h
    | cons a l=>rw [h] at hA;cases ds <;> simp [DataW.TrodAll] at hA
  subst hn
  exact walk W (env_of hsh) (sha_of hl 1 2 rfl rfl)

set_option maxRecDepth 100000 in
theorem said:Rows.WalkKnownSaid :=
  OpenClaim.holds_of_wide 4 Tryz.f4 rfl rfl rfl rfl rfl rfl rfl ⟨rfl,rfl,rfl,rfl,rfl⟩ rfl rfl rfl rfl rfl named Tryz.func4 facts
    (of_decide_eq_true (by kernel_rfl)) (by unfold Func.isWrapper;first | (rw [if_pos (by decide +kernel)];kernel_rfl) | (rw [if_neg (by decide +kernel)];exact ⟨rfl,rfl⟩))
    (fun os started H enc _=>lifted Rows.walkKnownRow.laid (by kernel_rfl) 4 Tryz.f4 Tryz.func4 Rows.walkKnownSpec rfl (by kernel_rfl) (by kernel_rfl)
      (by rw [Tryz.params4]
          have hall:([].all fun t=>Tryz.prog.readableRec t&&decide (t<Tryz.prog.types.size))=true:=by kernel_rfl
          intro t ht
          have:=List.all_eq_true.1 hall t ht
          simpa using this)
      (by intro H ts ds h hl;rw [Tryz.params4] at h;subst h
          match ds,hl with
          | [],_=>rfl)
      Rows.walkKnownRow.domain os started H enc #[] (by kernel_rfl) (by kernel_rfl) (by kernel_rfl)
      (World.shaped_of_ZipB (by kernel_rfl) (by kernel_rfl)) (laidMet_laidAll _ (by kernel_rfl) (by kernel_rfl))
      begun)

theorem card:Rows.WalkKnownCardSaid :=
  Claim7.holds_tied_plain_at .later [] Rows.walkKnownCard.laidKinds true Rows.walkKnownCard.stood.harness Rows.walkKnownCard.stood.looks said (fun _ h=>by cases h) card1 (fun _ h=>by cases h) walkKnown_row_tie rfl ⟨rfl,rfl⟩ card2 rfl
    (fun f fn hf hfn=>by
      obtain rfl:f=4:=Option.some.inj (named.symm.trans hf) |>.symm
      obtain rfl:fn=Tryz.f4:=(Option.some.inj (Tryz.func4.symm.trans hfn)).symm
      exact ⟨card3,fun j t ht=>by
        rw [Tryz.params4] at ht
        have hm:t∈[]:=by simpa using Array.mem_of_getElem? ht
        have hall:=card4
        exact (show Tryz.pinned.checked.prog.wantsStandIn t=false by simpa using List.all_eq_true.1 hall t hm)⟩)
    card5
#print axioms card
end Go.Proofs.YtodickpibbbiiaaGreatDoor.lawWalkKnown
