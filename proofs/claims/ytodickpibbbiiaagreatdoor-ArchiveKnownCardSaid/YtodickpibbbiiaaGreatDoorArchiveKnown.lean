/- ArchiveKnown: the examples of the chapter: the statement ArchiveKnownCardSaid, with no condition of its own. -/
import Derived.Test.YtodickpibbbiiaaGreatDoorAbG1
import Derived.Test.YtodickpibbbiiaaGreatDoorAbG2
import Derived.Test.YtodickpibbbiiaaGreatDoorArchiveKnownF
import Derived.Test.YtodickpibbbiiaaGreatDoorArchiveKnownG
namespace Go.Proofs.YtodickpibbbiiaaGreatDoor.lawArchiveKnown
open Go.ChangeShapes Go.WideShapes Go.ChangeAt Go.RowKit
open Go.ChangeMaps (open_string)

attribute [local go_sem] Oper.semAt_some
theorem raw1:readE a3.live (⟨#[118,49,47]⟩++⟨#[48,48,48,48,48,48,48,48,48,55,45,48,48,48,49]⟩)=(⟨1,⟨#[0,3,97,47,98,120,121]⟩,emp,3⟩,0):=by kernel_rfl
theorem bad0:mayB ⟨#[47]⟩=false:=by kernel_rfl
theorem may0:mayB ⟨#[97]⟩=true:=by kernel_rfl
theorem clk0:clockB (-1)=false:=by kernel_rfl
theorem pol0:okP ⟨0,0,0⟩=false:=by kernel_rfl
theorem pol1:okP ⟨1,0,1⟩=true:=by kernel_rfl
theorem pol2:okP ⟨1,0,2⟩=true:=by kernel_rfl
theorem pol3:okP ⟨3,0,0⟩=true:=by kernel_rfl
theorem pol4:okP ⟨2,0,0⟩=false:=by kernel_rfl
set_option maxRecDepth 100000 in
set_option maxHeartbeats 16000000 in
theorem walk (w:World) (E:EnvA w):Calls Tryz.prog 12 #[] w fun e w'=>e=.returned (.bool true)∧Below w.heap.size w w':=by
  have HAw:=Lib.hid (fun w1 (x:Ext w w1)=>awake19 w1 (E.ext x))
  have H0:=Lib.hid (two_many (Things.start (Ext.refl w)) E)
  have HE:=Lib.hid E
  have HF:=Lib.hid (fun s1 t1 w1=>file19 s1 t1 w1)
  clear E
  go_enter Tryz.func12,Tryz.ntmps12
  go_wp2_with fail
  refine H0.out.mono ?_
  rintro e w1 ⟨d,rfl,t1⟩
  have T1:=Lib.hid (show Things w w1 [.disk d a3] from t1.out)
  have HL:=Lib.hid (alist_many (A:=[]) (B:=[]) T1.out ar3.ok (HE.out.ext T1.out.is_ext) bV1 mb1 al4 (of_decide_eq_true al5))
  rw [al3] at HL
  unfold bV1 at HL
  clear t1 H0
  go_wp2_with fail
  refine HL.out.mono ?_
  rintro e w2 ⟨v,rfl,h2⟩
  obtain ⟨ho2,hx2⟩:=h2.out
  obtain ⟨hq,_⟩:=row_ents (l:=lTwo) ho2 rfl (row_nonil ho2 (by decide))
  rcases ho2.2 with ⟨_,h0⟩ | ⟨g,cap,cur,rfl,hbg,hh,hc1,hc2,hc3,hc4⟩
  case inl=>exact absurd h0 (by decide)
  rw [show lTwo.length=2 from rfl] at hq hc1 ⊢
  have HQ:=Lib.hid hq
  have T2:=Lib.hid (show Things w w2 (.disk d a3::[.obj g (.cells cur 93 (0,0))]) from T1.out.objb hx2 hh hbg)
  have hcur:∀ (j:Nat) u,(entsV lTwo)[j]?=some u→cur[j]?=some u:=fun j u hj=>by
    rw [←hc4,List.getElem?_take] at hj
    split at hj
    · rw [←Array.getElem?_toList]
      exact hj
    · cases hj
  have HCu:=Lib.hid (show cur[4]?=some (.string ⟨#[48,48,48,48,48,48,48,48,48,55,45,48,48,48,49]⟩) from by rw [←an1];exact hcur 4 _ rfl)
  have c0:w2.cell? ⟨g,0,none⟩=some (.string ⟨#[48,48,48,48,48,48,48,48,48,55,45,48,48,48,48]⟩):=(cellB hh).trans (by rw [←an0];exact hcur 0 _ rfl)
  clear h2 ho2 hx2 HL hq hh hc1 hc2 hc3 hc4 hbg hcur T1
  have X2:=Lib.hid T2.out.is_ext
  have G0:=Lib.hid (fun z:After w2=>HAw.out z.v (X2.out.trans z.x))
  have G1:=Lib.hid (fun z:After w2=>goes1 (HQ.out.ext z.x) rt1 rfl (by simp [lTwo]) pt1 (by decide) ⟨1,0,1⟩ pol1 9 gk1 (by decide) (fun s hs=>by rw [List.mem_singleton.1 hs,nameA_size];decide))
  have G2:=Lib.hid (fun z:After w2=>goes1 (HQ.out.ext z.x) rt1 rfl (by simp [lTwo]) pt1 (by decide) ⟨1,0,2⟩ pol2 9 gk2 (by decide) (fun s hs=>by cases hs))
  have G3:=Lib.hid (fun z:After w2=>goes1 (HQ.out.ext z.x) rt1 rfl (by simp [lTwo]) pt1 (by decide) ⟨3,0,0⟩ pol3 9 gk3 (by decide) (fun s hs=>by cases hs))
  have G4:=Lib.hid (fun z:After w2=>goes19_no z.v (some ⟨g,0,none⟩) 2 cap ⟨0,0,0⟩ pol0 9)
  rw [an0] at G1
  unfold polV at G1 G2 G3 G4
  dsimp only [List.headD_cons,List.headD_nil] at G1 G2 G3 G4
  have cz:=fun z:After w2=>(z.x.cell (lt_of_cell c0)).trans c0
  clear c0
  go_upto_region 3 with (fail)
  refine wp_region_after (by kernel_rfl) (by kernel_rfl) ?_
  go_big_quiet_step (exact After.of (G0.out _))
  iterate 4 go_big_quiet_step (fail)
  go_big_quiet_step (exact After.of (G1.out _))
  iterate 9 go_big_quiet_step (fail)
  go_big_quiet_step (exact After.of (G2.out _))
  iterate 5 go_big_quiet_step (fail)
  go_big_quiet_step (exact After.of (G3.out _))
  iterate 5 go_big_quiet_step (fail)
  go_big_quiet_step (exact After.of (G4.out _))
  iterate 2 go_big_quiet_step (fail)
  refine wpQuiet_nil ?_
  rintro _ ⟨z,rfl⟩
  clear cz G0 G1 G2 G3 G4 HQ X2
  obtain ⟨w3,hw3⟩:∃ w3,w3=z.v:=⟨_,rfl⟩
  have T3:=Lib.hid (show Things w w3 (.disk d a3::[.obj g (.cells cur 93 (0,0))]) from by rw [hw3];exact T2.out.ext z.x)
  rw [←hw3]
  clear hw3 T2
  have c4:w3.cell? ⟨g,4,none⟩=some (.string ⟨#[48,48,48,48,48,48,48,48,48,55,45,48,48,48,49]⟩):=(cellB (obj_in (A:=[]) (B:=[]) T3.out)).trans HCu.out
  have HR1:=Lib.hid (aread_at (A:=[]) T3.out (HE.out.ext T3.out.is_ext) bV1 (nameA 7 1) _ mb1 bl6 bl7 (of_decide_eq_true (by kernel_rfl)) bl8)
  rw [if_pos bl13,an1,bl9,bl10] at HR1
  unfold nodeC bV1 at HR1
  simp only [emp] at HR1
  go_wp2_with fail
  refine HR1.out.mono ?_
  rintro e w4 ⟨rfl,x4⟩
  have T4:=Lib.hid ((T3.out.ext x4).ext ((Ext.refl w4).alloc (.cells #[.int .i64 1,.string ⟨#[120,121]⟩,.string ⟨#[]⟩,.int .i64 3] 84 (0,0))))
  have HN5:=Lib.hid (block_alloc_new w4 (.cells #[.int .i64 1,.string ⟨#[120,121]⟩,.string ⟨#[]⟩,.int .i64 3] 84 (0,0)))
  have c5:(w4.alloc (.cells #[.int .i64 1,.string ⟨#[120,121]⟩,.string ⟨#[]⟩,.int .i64 3] 84 (0,0))).cell? ⟨g,4,none⟩=some (.string ⟨#[48,48,48,48,48,48,48,48,48,55,45,48,48,48,49]⟩):=(cellB (obj_in (A:=[]) (B:=[]) T4.out)).trans HCu.out
  have HR6:=Lib.hid (read_many (A:=[]) T4.out (HE.out.env.ext T4.out.is_ext) (⟨#[118,49,47]⟩++⟨#[48,48,48,48,48,48,48,48,48,55,45,48,48,48,49]⟩) (by decide))
  rw [raw1] at HR6
  unfold nv at HR6
  simp only [emp] at HR6
  clear HR1 x4 c4 T3
  go_wp2_with fail
  refine HR6.out.mono ?_
  rintro e w6 ⟨rfl,x6⟩
  have T6:=Lib.hid ((T4.out.ext x6).ext ((Ext.refl w6).alloc (.cells #[.int .i64 1,.string ⟨#[0,3,97,47,98,120,121]⟩,.string ⟨#[]⟩,.int .i64 3] 84 (0,0))))
  have HN6:=Lib.hid ((((Ext.refl w6).alloc (.cells #[.int .i64 1,.string ⟨#[0,3,97,47,98,120,121]⟩,.string ⟨#[]⟩,.int .i64 3] 84 (0,0))).block (by have:=ltB HN5.out;have:=x6.size;omega)).trans ((x6.block (ltB HN5.out)).trans HN5.out))
  have HN7:=Lib.hid (block_alloc_new w6 (.cells #[.int .i64 1,.string ⟨#[0,3,97,47,98,120,121]⟩,.string ⟨#[]⟩,.int .i64 3] 84 (0,0)))
  clear HR6 x6 c5 T4 HN5
  have he1:∀ w',(Go.Op.equalIn 10000 84 (.agg #[.int .i64 1,.string ⟨#[120,121]⟩,.string ⟨#[]⟩,.int .i64 3]) (.agg #[.int .i64 1,.string ⟨#[120,121]⟩,.string ⟨#[]⟩,.int .i64 3])).run Tryz.prog w'=.ok true w':=fun w'=>by
    have:=eq_nodeA ⟨1,⟨#[120,121]⟩,⟨#[]⟩,3⟩ ⟨1,⟨#[120,121]⟩,⟨#[]⟩,3⟩ w'
    simpa only [decide_true,nodeA] using this
  have he2:∀ w',(Go.Op.equalIn 10000 84 (.agg #[.int .i64 1,.string ⟨#[0,3,97,47,98,120,121]⟩,.string ⟨#[]⟩,.int .i64 3]) (.agg #[.int .i64 1,.string ⟨#[0,3,97,47,98,120,121]⟩,.string ⟨#[]⟩,.int .i64 3])).run Tryz.prog w'=.ok true w':=fun w'=>by
    have:=eq_nodeA ⟨1,⟨#[0,3,97,47,98,120,121]⟩,⟨#[]⟩,3⟩ ⟨1,⟨#[0,3,97,47,98,120,121]⟩,⟨#[]⟩,3⟩ w'
    simpa only [decide_true,nodeA] using this
  go_upto_region 7 with (fail)
  generalize w6.alloc (.cells #[.int .i64 1,.string ⟨#[0,3,97,47,98,120,121]⟩,.string ⟨#[]⟩,.int .i64 3] 84 (0,0))=w7 at *
  have r5:=Lib.hid (fun z:After w7=>(fun j u hj=>by
    rw [Nat.zero_add]
    exact (cellB ((z.x.block (ltB HN6.out)).trans HN6.out)).trans (by simpa using hj):z.v.rangeAt w4.heap.size 0 [.int .i64 1,.string ⟨#[120,121]⟩,.string ⟨#[]⟩,.int .i64 3]))
  have r7:=Lib.hid (fun z:After w7=>(fun j u hj=>by
    rw [Nat.zero_add]
    exact (cellB ((z.x.block (ltB HN7.out)).trans HN7.out)).trans (by simpa using hj):z.v.rangeAt w6.heap.size 0 [.int .i64 1,.string ⟨#[0,3,97,47,98,120,121]⟩,.string ⟨#[]⟩,.int .i64 3]))
  refine wp_region_after (by kernel_rfl) (by kernel_rfl) ?_
  iterate 3 go_big_quiet_step (fail)
  refine wpQuiet_load_ag rfl _ _ rfl w4.heap.size 0 rfl #[.int .i64 1,.string ⟨#[120,121]⟩,.string ⟨#[]⟩,.int .i64 3] _ (by rintro _ ⟨z,rfl⟩;exact r5.out z) Tryz.underlying84 rfl (by kernel_rfl) ?_
  go_frame
  go_big_quiet_step (exact After.of (HF.out _ _ _))
  iterate 7 go_big_quiet_step (fail)
  refine wpQuiet_load_ag rfl _ _ rfl w6.heap.size 0 rfl #[.int .i64 1,.string ⟨#[0,3,97,47,98,120,121]⟩,.string ⟨#[]⟩,.int .i64 3] _ (by rintro _ ⟨z,rfl⟩;exact r7.out z) Tryz.underlying84 rfl (by kernel_rfl) ?_
  go_frame
  go_big_quiet_step (exact After.of (HF.out _ _ _))
  iterate 2 go_big_quiet_step (fail)
  refine wpQuiet_nil ?_
  rintro _ ⟨z,rfl⟩
  have T8:=Lib.hid (show Things w z.v (.disk d a3::[.obj g (.cells cur 93 (0,0))]) from T6.out.ext z.x)
  clear he1 he2 r5 r7 HN6 HN7 T6
  have HX:=Lib.hid (fun w1 ad p dt gg kd tm now r (x:Ext w w1)=>aadd_bad (HE.out.env.ext x) ad p dt gg kd tm now r)
  go_wp2_with fail
  refine (HF.out _ _ _).mono ?_
  rintro e w9 ⟨rfl,x9⟩
  have T9:=Lib.hid (T8.out.ext x9)
  clear x9 T8
  go_wp2_with fail
  refine (HX.out _ _ _ _ _ _ _ _ 10 T9.out.is_ext (by decide) (.inr ⟨d,rfl,.inl ⟨bad0,rfl⟩⟩)).mono ?_
  rintro e w10 ⟨rfl,x10⟩
  have T10:=Lib.hid (T9.out.ext x10)
  clear x10 T9
  go_wp2_with fail
  refine (HX.out _ _ _ _ _ _ _ _ 11 T10.out.is_ext (by decide) (.inr ⟨d,rfl,.inr ⟨may0,.inl ⟨by decide,rfl⟩⟩⟩)).mono ?_
  rintro e w11 ⟨rfl,x11⟩
  have T11:=Lib.hid (T10.out.ext x11)
  clear x11 T10
  go_wp2_with fail
  refine (HF.out _ _ _).mono ?_
  rintro e w12 ⟨rfl,x12⟩
  have T12:=Lib.hid (T11.out.ext x12)
  clear x12 T11
  go_wp2_with fail
  refine (HX.out _ _ _ _ _ _ _ _ 2 T12.out.is_ext (by decide) (.inr ⟨d,rfl,.inr ⟨may0,.inr ⟨rfl,clk0,rfl⟩⟩⟩)).mono ?_
  rintro e w13 ⟨rfl,x13⟩
  have T13:=Lib.hid (T12.out.ext x13)
  clear x13 T12
  go_wp2_with fail
  refine (HF.out _ _ _).mono ?_
  rintro e w14 ⟨rfl,x14⟩
  have T14:=Lib.hid (T13.out.ext x14)
  clear x14 T13
  go_wp2_with fail
  refine (HX.out _ none _ _ _ _ _ _ 1 T14.out.is_ext (by decide) (.inl ⟨rfl,rfl⟩)).mono ?_
  rintro e w15 ⟨rfl,x15⟩
  have T15:=Lib.hid (T14.out.ext x15)
  clear x15 T14
  go_wp2_with fail
  refine (alist_nil _ _).mono ?_
  rintro e w16 ⟨rfl,x16⟩
  have T16:=Lib.hid (T15.out.ext x16)
  clear x16 T15
  go_wp2_with fail
  refine (aread_nil _ _ _).mono ?_
  rintro e w17 ⟨rfl,x17⟩
  have T17:=Lib.hid ((T16.out.ext x17).ext ((Ext.refl w17).alloc (.cells #[.int .i64 0,.string ⟨#[]⟩,.string ⟨#[]⟩,.int .i64 0] 84 (0,0))))
  clear x17 T16 HX
  have HC:=Lib.hid (aclean3 T17.out HE.out)
  go_wp2_with fail
  refine HC.out.mono ?_
  rintro e w18 ⟨rfl,t18⟩
  have T18:=Lib.hid t18.out
  clear t18 HC T17
  have HC2:=Lib.hid (fun w1=>aclean_bad w1 (some ⟨d,0,none⟩) ⟨#[118,49]⟩ ⟨2,0,0⟩ pol4 9)
  unfold polV at HC2
  dsimp only at HC2
  go_wp2_with fail
  refine (HC2.out _).mono ?_
  rintro e w19 ⟨rfl,x19⟩
  have T19:=Lib.hid (T18.out.ext x19)
  have HW:=Lib.hid (write_many (A:=[]) T19.out (ar4.fit (by decide)) (HE.out.env.ext T19.out.is_ext) bX ⟨#[]⟩ 1 (by decide) (by decide) ax5)
  unfold bX at HW
  clear x19 T18 HC2
  go_wp2_with fail
  refine HW.out.mono ?_
  rintro e w20 ⟨rfl,t20⟩
  have T20:=Lib.hid t20
  have HW2:=Lib.hid (write_many (A:=[]) T20.out (ar5.fit (by decide)) (HE.out.env.ext T20.out.is_ext) bOne ⟨#[0,1,47,98]⟩ 1 (by decide) (by decide) ax6)
  unfold bOne at HW2
  clear t20 HW T19
  go_wp2_with fail
  refine HW2.out.mono ?_
  rintro e w21 ⟨rfl,t21⟩
  have T21:=Lib.hid t21
  have HRx:=Lib.hid (aread_no (A:=[]) T21.out (HE.out.ext T21.out.is_ext) bV1 ⟨#[120]⟩ _ mb1 bl5 bl4 (by decide) bl11 bl12)
  unfold bV1 at HRx
  clear t21 HW2 T20
  go_wp2_with fail
  refine HRx.out.mono ?_
  rintro e w22 ⟨rfl,x22⟩
  have T22:=Lib.hid ((T21.out.ext x22).ext ((Ext.refl w22).alloc (.cells #[.int .i64 0,.string ⟨#[]⟩,.string ⟨#[]⟩,.int .i64 0] 84 (0,0))))
  have HL2:=Lib.hid (alist_many (A:=[]) T22.out ar6.ok (HE.out.ext T22.out.is_ext) bV1 mb1 bl2 (of_decide_eq_true bl3))
  rw [bl1,an1] at HL2
  unfold bV1 at HL2
  clear x22 HRx T21
  go_wp2_with fail
  refine HL2.out.mono ?_
  rintro e w23 ⟨v3,rfl,h3⟩
  obtain ⟨ho3,hx3⟩:=h3.out
  have T23:=Lib.hid (T22.out.ext hx3)
  rcases ho3.2 with ⟨_,h0⟩ | ⟨g3,cap3,cur3,rfl,_,hh3,hd1,hd2,_,hd4⟩
  case inl=>exact absurd h0 (by simp)
  have k0:w23.cell? ⟨g3,0,none⟩=some (.string ⟨#[48,48,48,48,48,48,48,48,48,55,45,48,48,48,49]⟩):=(cellB hh3).trans (by
    have:(cur3.toList.take (1*4))[0]?=some (.string ⟨#[48,48,48,48,48,48,48,48,48,55,45,48,48,48,49]⟩):=(congrArg (·[0]?) hd4).trans rfl
    rw [List.getElem?_take] at this
    simpa using this)
  have k4:w23.cell? ⟨g,4,none⟩=some (.string ⟨#[48,48,48,48,48,48,48,48,48,55,45,48,48,48,49]⟩):=(cellB (obj_in (A:=[]) (B:=[]) T23.out)).trans HCu.out
  have kz:=fun z:After w23=>(z.x.cell (lt_of_cell k0)).trans k0
  have ky:=fun z:After w23=>(z.x.cell (lt_of_cell k4)).trans k4
  clear k0 k4 h3 ho3 hx3 HL2 T22 hh3 hd4
  go_upto_region 21 with (fail)
  refine wp_region_after (by kernel_rfl) (by kernel_rfl) ?_
  iterate 55 go_big_quiet_step (fail)
  refine wpQuiet_nil ?_
  rintro _ ⟨z,rfl⟩
  have XZ:=Lib.hid (T23.out.is_ext.trans z.x)
  go_wp2
  go_ret
  exact ⟨rfl,XZ.out⟩

-- BEGUN
set_option maxRecDepth 100000 in
theorem begun {H:Type} {enc:TypeId×Value→H} (W:World) (args:Array Value) (ds:List (DataW H)) (p:List MemPlace) (st:Start enc Rows.archiveKnownRow.laid Tryz.f12 W args ds p) :
    Calls Tryz.prog 12 args W fun e W'=>e=.returned (.bool true)∧Below W.heap.size W W':=by
  obtain ⟨⟨base,hval⟩,hA,hfit,hl,hsh⟩:=st
  rw [Tryz.params12] at hA hval hfit
  have hn:args=#[]:=by
    cases h:args.toList with
    | nil=>simpa using h
    | cons a l=>rw [h] at hA;cases ds <;> simp [DataW.TrodAll] at hA
  subst hn
  exact walk W (enva_of hl hsh 2 rfl)

set_option maxRecDepth 100000 in
theorem said:Rows.ArchiveKnownSaid :=
  OpenClaim.holds_of_wide 12 Tryz.f12 rfl rfl rfl rfl rfl rfl rfl ⟨rfl,rfl,rfl,rfl,rfl⟩ rfl rfl rfl rfl rfl named Tryz.func12 facts
    (of_decide_eq_true (by kernel_rfl)) (by unfold Func.isWrapper;first | (rw [if_pos (by decide +kernel)];kernel_rfl) | (rw [if_neg (by decide +kernel)];exact ⟨rfl,rfl⟩))
    (fun os started H enc _=>lifted Rows.archiveKnownRow.laid (by kernel_rfl) 12 Tryz.f12 Tryz.func12 Rows.archiveKnownSpec rfl (by kernel_rfl) (by kernel_rfl)
      (by rw [Tryz.params12]
          have hall:([].all fun t=>Tryz.prog.readableRec t&&decide (t<Tryz.prog.types.size))=true:=by kernel_rfl
          intro t ht
          have:=List.all_eq_true.1 hall t ht
          simpa using this)
      (by intro H ts ds h hl;rw [Tryz.params12] at h;subst h
          match ds,hl with
          | [],_=>rfl)
      Rows.archiveKnownRow.domain os started H enc #[] (by kernel_rfl) (by kernel_rfl) (by kernel_rfl)
      (World.shaped_of_ZipB (by kernel_rfl) (by kernel_rfl)) (laidMet_laidAll _ (by kernel_rfl) (by kernel_rfl))
      begun)

theorem card:Rows.ArchiveKnownCardSaid :=
  Claim7.holds_tied_plain_at .later [] Rows.archiveKnownCard.laidKinds true Rows.archiveKnownCard.stood.harness Rows.archiveKnownCard.stood.looks said (fun _ h=>by cases h) card1 (fun _ h=>by cases h) archiveKnown_row_tie rfl ⟨rfl,rfl⟩ card2 rfl
    (fun f fn hf hfn=>by
      obtain rfl:f=12:=Option.some.inj (named.symm.trans hf) |>.symm
      obtain rfl:fn=Tryz.f12:=(Option.some.inj (Tryz.func12.symm.trans hfn)).symm
      exact ⟨card3,fun j t ht=>by
        rw [Tryz.params12] at ht
        have hm:t∈[]:=by simpa using Array.mem_of_getElem? ht
        have hall:=card4
        exact (show Tryz.pinned.checked.prog.wantsStandIn t=false by simpa using List.all_eq_true.1 hall t hm)⟩)
    card5
#print axioms card
end Go.Proofs.YtodickpibbbiiaaGreatDoor.lawArchiveKnown
