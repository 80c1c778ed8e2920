/- ArchiveBack: what was archived is read back, and other entries are as they were: whatever path, file, times: the statement ArchiveBackCardSaid, with no condition of its own. -/
import Derived.Test.YtodickpibbbiiaaGreatDoorAbG1
import Derived.Test.YtodickpibbbiiaaGreatDoorAbG2
import Derived.Test.YtodickpibbbiiaaGreatDoorArchiveBackF
import Derived.Test.YtodickpibbbiiaaGreatDoorArchiveBackG
namespace Go.Proofs.YtodickpibbbiiaaGreatDoor.lawArchiveBack
open Go.ChangeShapes Go.WideShapes Go.ChangeAt Go.RowKit
open Go.ChangeMaps (open_string)

attribute [local go_sem] Oper.semAt_some
theorem openX (p s:ByteArray) (tm:Int) (hp:mayB p=true):openB ⟨1,prefB p++s,emp,tm⟩=true∧openP ⟨1,prefB p++s,emp,tm⟩=p∧openD ⟨1,prefB p++s,emp,tm⟩=s:=open_pref p s emp tm hp
set_option maxRecDepth 100000 in
set_option maxHeartbeats 16000000 in
theorem walk (p s:ByteArray) (tm now:Int) (w:World) (hp:p.size≤maxLen) (hs:s.size≤maxLen) (E:EnvA w) :
    Calls Tryz.prog 11 #[.string p,.string s,.int .i64 tm,.int .i64 now] w fun e w'=>e=.returned (.bool true)∧Below w.heap.size w w':=by
  have HAw:=Lib.hid (fun w1 (x:Ext w w1)=>awake19 w1 (E.ext x))
  unfold maxLen at hp hs
  by_cases h1:s.size≤3000
  case neg =>
    have g1:decide ((3000:Int)<(s.size:Int))=true:=decide_eq_true (by omega)
    go_enter Tryz.func11,Tryz.ntmps11
    go_wp2_with fail
    refine (HAw.out _ (Ext.refl w)).mono ?_
    rintro e w1 ⟨rfl,x1⟩
    go_wp2
    go_ret
    exact ⟨rfl,x1⟩
  have g1:decide ((3000:Int)<(s.size:Int))=false:=decide_eq_false (by omega)
  by_cases h2:p.size≤400
  case neg =>
    have g2:decide ((400:Int)<(p.size:Int))=true:=decide_eq_true (by omega)
    go_enter Tryz.func11,Tryz.ntmps11
    go_wp2_with fail
    refine (HAw.out _ (Ext.refl w)).mono ?_
    rintro e w1 ⟨rfl,x1⟩
    go_wp2
    go_ret
    exact ⟨rfl,x1⟩
  have g2:decide ((400:Int)<(p.size:Int))=false:=decide_eq_false (by omega)
  have H0:=Lib.hid (two_many (Things.start (Ext.refl w)) E)
  have HE:=Lib.hid E
  have HF:=Lib.hid (fun s1 t1 w1=>file19 s1 t1 w1)
  go_enter Tryz.func11,Tryz.ntmps11
  go_wp2_with fail
  refine H0.out.mono ?_
  rintro e w1 ⟨d,rfl,t1⟩
  have T1:=Lib.hid (show Things w w1 [.disk d a3] from t1.out)
  clear t1 H0
  go_wp2_with fail
  refine (HF.out _ _ _).mono ?_
  rintro e w2 ⟨rfl,x2⟩
  have T2:=Lib.hid (T1.out.ext x2)
  have HA:=Lib.hid (back_add T2.out E p s tm now h1 h2)
  clear x2 T1 E
  go_wp2_with fail
  refine HA.out.mono ?_
  rintro e w3 ⟨q,r,D',rfl,hh⟩
  obtain ⟨t3,hd⟩:=hh.out
  have T3:=Lib.hid t3
  clear hh HA t3 T2
  by_cases hr:r=0
  · subst hr
    obtain ⟨c1,c2,c3,c4,c5,c6,c7,c8,c9⟩:=done_list hd
    obtain ⟨o1,o2,o3⟩:=openX p s tm c5
    have HRd:=Lib.hid (fun w4 (x:Ext w3 w4)=>aread_at (A:=[]) (B:=[]) (T3.out.ext x) (HE.out.ext (T3.out.is_ext.trans x)) bV1 q _ mb1 c7 c8 (by show (prefB p++s).size≤_;rw [ByteArray.size_append,prefB_size];omega) o1)
    have HR2:=Lib.hid (fun w4 (x:Ext w3 w4)=>aread_at (A:=[]) (B:=[]) (T3.out.ext x) (HE.out.ext (T3.out.is_ext.trans x)) bV1 (nameA 7 1) nXY mb1 (by kernel_rfl) c9 (of_decide_eq_true (by kernel_rfl)) (by kernel_rfl))
    rw [if_pos c6,o2,o3] at HRd
    rw [if_pos (by kernel_rfl:namedN (nameA 7 1)=true),an1,show openP nXY=⟨#[97,47,98]⟩ from by kernel_rfl,show openD nXY=⟨#[120,121]⟩ from by kernel_rfl] at HR2
    have HLs:=Lib.hid (fun w4 (x:Ext w3 w4)=>alist_many (A:=[]) (B:=[]) (T3.out.ext x) c4.ok (HE.out.ext (T3.out.is_ext.trans x)) bV1 mb1 c2 (by omega))
    rw [c1] at HLs
    have X3:=Lib.hid T3.out.is_ext
    unfold nodeC bV1 at HRd HR2
    unfold bV1 at HLs
    simp only [emp] at HRd
    simp only [nXY,emp] at HR2
    clear hd c1 c2 c3 c4 c6 c7 c8 c9 o1 o2 o3 T3 HE
    go_wp2_with fail
    refine (HRd.out _ (Ext.refl _)).mono ?_
    rintro e w4 ⟨rfl,x4⟩
    have X4:=Lib.hid x4
    have HN4:=Lib.hid (block_alloc_new w4 (.cells #[.int .i64 1,.string s,.string ⟨#[]⟩,.int .i64 tm] 84 (0,0)))
    have X5:=Lib.hid (X4.out.alloc (.cells #[.int .i64 1,.string s,.string ⟨#[]⟩,.int .i64 tm] 84 (0,0)))
    clear x4 HRd
    go_wp2_with fail
    refine (HLs.out _ X5.out).mono ?_
    rintro e w6 ⟨v,rfl,h6⟩
    obtain ⟨o6,x6⟩:=h6.out
    obtain ⟨va,vc,rfl⟩:=rowk_shape o6
    have X6:=Lib.hid (X5.out.trans x6)
    have HB6:=Lib.hid ((x6.block (ltB HN4.out)).trans HN4.out)
    have hsz:w.heap.size≤w4.heap.size:=Nat.le_trans X3.out.size X4.out.size
    clear h6 o6 x6 HLs HN4 X5 X4
    have he:=Lib.hid (fun w'=>eq_nodeA ⟨1,s,⟨#[]⟩,tm⟩ ⟨1,s,⟨#[]⟩,tm⟩ w')
    simp only [decide_true,nodeA] at he
    have he1:=he.out
    go_upto_region 12 with (fail)
    have r6:=Lib.hid (fun z:After w6=>(fun j u hj=>by
      rw [Nat.zero_add]
      exact (cellB ((z.x.block (ltB HB6.out)).trans HB6.out)).trans (by simpa using hj):z.v.rangeAt w4.heap.size 0 [.int .i64 1,.string s,.string ⟨#[]⟩,.int .i64 tm]))
    refine wp_region_after (by kernel_rfl) (by kernel_rfl) ?_
    iterate 4 go_big_quiet_step (fail)
    refine wpQuiet_load_ag rfl _ _ rfl w4.heap.size 0 rfl #[.int .i64 1,.string s,.string ⟨#[]⟩,.int .i64 tm] _ (by rintro _ ⟨z,rfl⟩;exact r6.out z) Tryz.underlying84 rfl (by kernel_rfl) ?_
    go_frame
    iterate 2 go_big_quiet_step (fail)
    go_big_quiet_step (exact After.of (HF.out _ _ _))
    iterate 15 go_big_quiet_step (fail)
    refine wpQuiet_nil ?_
    rintro _ ⟨z,rfl⟩
    have X7:=Lib.hid (X6.out.trans z.x)
    have HB7:=Lib.hid ((z.x.block (ltB HB6.out)).trans HB6.out)
    clear r6 he he1 HB6 X6
    go_wp2_with fail
    refine (HR2.out _ X7.out).mono ?_
    rintro e w8 ⟨rfl,x8⟩
    have X8:=Lib.hid (X7.out.trans x8)
    have HB8:=Lib.hid ((x8.block (ltB HB7.out)).trans HB7.out)
    clear x8 HR2 HB7 X7
    have XW:=Lib.hid (X3.out.trans X8.out)
    go_upto_region 15 with (refine wpList_storeT rfl _ _ _ rfl w4.heap.size #[.int .i64 1,.string ⟨#[120,121]⟩,.string ⟨#[]⟩,.int .i64 3] rfl rfl 84 _ HB8.out (by kernel_rfl) rfl (by simp [Value.oneCell']) ?_;intro w9 hb9 ht9;have HB9:=Lib.hid hb9;have HT9:=Lib.hid ht9;clear hb9 ht9;go_frame)
    have X9:=Lib.hid (HT9.out.fresh XW.out hsz)
    have he2:∀ w',(Go.Op.equalIn 10000 84 (.agg #[.int .i64 1,.string ⟨#[120,121]⟩,.string ⟨#[]⟩,.int .i64 3]) (.agg #[.int .i64 1,.string ⟨#[120,121]⟩,.string ⟨#[]⟩,.int .i64 3])).run Tryz.prog w'=.ok true w':=fun w'=>by
      have:=eq_nodeA ⟨1,⟨#[120,121]⟩,⟨#[]⟩,3⟩ ⟨1,⟨#[120,121]⟩,⟨#[]⟩,3⟩ w'
      simpa only [decide_true,nodeA] using this
    have r9:=Lib.hid (fun z:After w9=>(fun j u hj=>by
      rw [Nat.zero_add]
      exact (cellB ((z.x.block (ltB HB9.out)).trans HB9.out)).trans (by simpa using hj):z.v.rangeAt w4.heap.size 0 [.int .i64 1,.string ⟨#[120,121]⟩,.string ⟨#[]⟩,.int .i64 3]))
    refine wp_region_after (by kernel_rfl) (by kernel_rfl) ?_
    iterate 3 go_big_quiet_step (fail)
    refine wpQuiet_load_ag rfl _ _ rfl w4.heap.size 0 rfl #[.int .i64 1,.string ⟨#[120,121]⟩,.string ⟨#[]⟩,.int .i64 3] _ (by rintro _ ⟨z,rfl⟩;exact r9.out z) Tryz.underlying84 rfl (by kernel_rfl) ?_
    go_frame
    go_big_quiet_step (exact After.of (HF.out _ _ _))
    iterate 7 go_big_quiet_step (fail)
    go_big_quiet_step (exact After.of (HAw.out _ (X9.out.trans (After.x _))))
    iterate 2 go_big_quiet_step (fail)
    refine wpQuiet_nil ?_
    rintro _ ⟨z,rfl⟩
    have XZ:=Lib.hid (X9.out.trans z.x)
    go_wp2
    go_ret
    exact ⟨rfl,XZ.out⟩
  · have g3:(r != 0)=true:=by simpa using hr
    rcases hd with ⟨_,rfl,rfl⟩ | ⟨h,_⟩
    case inr=>exact absurd h hr
    have HLs:=Lib.hid (alist_many (A:=[]) (B:=[]) T3.out ar3.ok (HE.out.ext T3.out.is_ext) bV1 mb1 al4 (of_decide_eq_true al5))
    rw [al3] at HLs
    rw [show lTwo.length=2 from rfl] at HLs
    unfold bV1 at HLs
    have X3:=Lib.hid T3.out.is_ext
    clear T3 HE
    go_wp2_with fail
    refine HLs.out.mono ?_
    rintro e w4 ⟨v,rfl,h4⟩
    obtain ⟨o4,x4⟩:=h4.out
    obtain ⟨va,vc,rfl⟩:=rowk_shape o4
    have X4:=Lib.hid (X3.out.trans x4)
    clear h4 o4 x4 HLs
    go_wp2_with fail
    refine (HAw.out _ X4.out).mono ?_
    rintro e w5 ⟨rfl,x5⟩
    have X5:=Lib.hid (X4.out.trans x5)
    clear x5
    go_wp2
    go_ret
    exact ⟨rfl,X5.out⟩

-- BEGUN
set_option maxRecDepth 100000 in
theorem begun {H:Type} {enc:TypeId×Value→H} (W:World) (args:Array Value) (ds:List (DataW H)) (p:List MemPlace) (st:Start enc Rows.archiveBackRow.laid Tryz.f11 W args ds p) :
    Calls Tryz.prog 11 args W fun e W'=>e=.returned (.bool true)∧Below W.heap.size W W':=by
  obtain ⟨⟨base,hval⟩,hA,hfit,hl,hsh⟩:=st
  rw [Tryz.params11] at hA hval hfit
  obtain ⟨v0,v1,v2,v3,d0,d1,d2,d3,p0,p1,p2,p3,rfl,rfl,rfl,h0,h1,h2,h3⟩:=trodAll_four hA
  obtain ⟨a,rfl,rfl,rfl,ha⟩:=open_string Tryz.underlying9 (hval 0 9 v0 rfl rfl) h0
  obtain ⟨b,rfl,rfl,rfl,hb⟩:=open_string Tryz.underlying9 (hval 1 9 v1 rfl rfl) h1
  obtain ⟨c,rfl,rfl,rfl,hc⟩:=open_int (show Tryz.prog.underlying 2=some (.int .i64) by kernel_rfl) (hval 2 2 v2 rfl rfl) h2
  obtain ⟨d,rfl,rfl,rfl,hd⟩:=open_int (show Tryz.prog.underlying 2=some (.int .i64) by kernel_rfl) (hval 3 2 v3 rfl rfl) h3
  exact walk a b c d W ha hb (enva_of hl hsh 2 rfl)

set_option maxRecDepth 100000 in
theorem said:Rows.ArchiveBackSaid :=
  OpenClaim.holds_of_wide 11 Tryz.f11 rfl rfl rfl rfl rfl rfl rfl ⟨rfl,rfl,rfl,rfl,rfl⟩ rfl rfl rfl rfl rfl named Tryz.func11 facts
    (of_decide_eq_true (by kernel_rfl)) (by unfold Func.isWrapper;first | (rw [if_pos (by decide +kernel)];kernel_rfl) | (rw [if_neg (by decide +kernel)];exact ⟨rfl,rfl⟩))
    (fun os started H enc _=>lifted Rows.archiveBackRow.laid (by kernel_rfl) 11 Tryz.f11 Tryz.func11 Rows.archiveBackSpec rfl (by kernel_rfl) (by kernel_rfl)
      (by rw [Tryz.params11]
          have hall:([9,9,2,2].all fun t=>Tryz.prog.readableRec t&&decide (t<Tryz.prog.types.size))=true:=by kernel_rfl
          intro t ht
          have:=List.all_eq_true.1 hall t ht
          simpa using this)
      (by intro H ts ds h hl;rw [Tryz.params11] at h;subst h
          match ds,hl with
          | [d1,d2,d3,d4],_=>rfl)
      Rows.archiveBackRow.domain os started H enc #[.string ⟨#[]⟩,.string ⟨#[]⟩,.int .i64 0,.int .i64 0] (by kernel_rfl) (by kernel_rfl) (by kernel_rfl)
      (World.shaped_of_ZipB (by kernel_rfl) (by kernel_rfl)) (laidMet_laidAll _ (by kernel_rfl) (by kernel_rfl))
      begun)

theorem card:Rows.ArchiveBackCardSaid :=
  Claim7.holds_tied_plain_at .later [] Rows.archiveBackCard.laidKinds true Rows.archiveBackCard.stood.harness Rows.archiveBackCard.stood.looks said (fun _ h=>by cases h) card1 (fun _ h=>by cases h) archiveBack_row_tie rfl ⟨rfl,rfl⟩ card2 rfl
    (fun f fn hf hfn=>by
      obtain rfl:f=11:=Option.some.inj (named.symm.trans hf) |>.symm
      obtain rfl:fn=Tryz.f11:=(Option.some.inj (Tryz.func11.symm.trans hfn)).symm
      exact ⟨card3,fun j t ht=>by
        rw [Tryz.params11] at ht
        have hm:t∈[9,9,2,2]:=by simpa using Array.mem_of_getElem? ht
        have hall:=card4
        exact (show Tryz.pinned.checked.prog.wantsStandIn t=false by simpa using List.all_eq_true.1 hall t hm)⟩)
    card5
#print axioms card
end Go.Proofs.YtodickpibbbiiaaGreatDoor.lawArchiveBack
