/- ArchiveTurn: archives that are put one behind the other, at times that do not fall, have names that rise, and are listed in that order: the statement ArchiveTurnCardSaid, with no condition of its own. -/
import Derived.Test.YtodickpibbbiiaaGreatDoorAtG1
import Derived.Test.YtodickpibbbiiaaGreatDoorAtG2
import Derived.Test.YtodickpibbbiiaaGreatDoorArchiveTurnF
import Derived.Test.YtodickpibbbiiaaGreatDoorArchiveTurnG
namespace Go.Proofs.YtodickpibbbiiaaGreatDoor.lawArchiveTurn
open Go.ChangeShapes Go.WideShapes Go.ChangeAt Go.RowKit
open Go.ChangeMaps (open_string)

attribute [local go_sem] Oper.semAt_some
set_option maxRecDepth 100000 in
set_option maxHeartbeats 16000000 in
theorem walk (v:Value) (zs:List Nat) (w:World) (hv:StepsIn w v zs) (E:EnvA w):Calls Tryz.prog 10 #[v] w fun e w'=>e=.returned (.bool true)∧Below w.heap.size w w':=by
  have HAw:=Lib.hid (fun w1 (x:Ext w w1)=>awake19 w1 (E.ext x))
  have H0:=Lib.hid (new_many (Things.start (Ext.refl w)) 16384 (by decide) (by decide))
  have HE:=Lib.hid E
  have HF:=Lib.hid (fun s1 t1 w1=>file19 s1 t1 w1)
  obtain ⟨va,vc,rfl,hv1,hv2,hv3⟩:=hv
  have HV:=Lib.hid hv3
  obtain ⟨n,hn⟩:∃ n,n=zs.length:=⟨_,rfl⟩
  have HN:=Lib.hid hn
  rw [←hn] at hv1 ⊢
  clear E hv3 hn
  go_enter Tryz.func10,Tryz.ntmps10
  go_wp2_with fail
  refine H0.out.mono ?_
  rintro e w1 ⟨d,rfl,t1⟩
  have T1:=Lib.hid (show Things w w1 [.disk d a0] from t1)
  clear t1 H0
  by_cases h30:n≤30
  case neg =>
    have g1:decide ((30:Int)<(n:Int))=true:=decide_eq_true (by omega)
    go_wp2_with fail
    refine (HAw.out _ T1.out.is_ext).mono ?_
    rintro e w2 ⟨rfl,x2⟩
    have X2:=Lib.hid (T1.out.is_ext.trans x2)
    go_wp2
    go_ret
    exact ⟨rfl,X2.out⟩
  have g1:decide ((30:Int)<(n:Int))=false:=decide_eq_false (by omega)
  have TS:=Lib.hid (show Things w w1 (.disk d a0::[.gen (ownG (.slice none 0 0) 0 [])]) from (T1.out.empty))
  go_wp2_with fail
  go_loopw [5,6,7] (fun cv nv iv wr=>Hid (∃ (i now:Nat) (D:Dk) (ns:List (Nat×Nat)),i≤n∧iv=.int .i64 i∧cv=.int .i64 now∧now≤65536*i∧TurnS i now D ns∧Things w wr (.disk d D::[.gen (ownG nv i ((ns.map fun x=>nameA x.1 x.2).map Value.string))]))) (fun _ _ iv _=>n - (intOf iv).toNat)
  case atStart=>exact ⟨0,0,a0,[],Nat.zero_le _,rfl,rfl,Nat.zero_le _,TurnS.start,TS.out⟩
  case round =>
    obtain ⟨i,now,D,ns,hi,rfl,rfl,hnow,hs,ht⟩:=hrel.out
    clear hrel TS T1
    have HS:=Lib.hid hs
    have HT:=Lib.hid ht
    by_cases hlt:i<n
    · obtain ⟨s,hsk⟩:∃ s,zs[i]?=some s:=⟨_,List.getElem?_eq_getElem (by have:=HN.out;omega)⟩
      obtain ⟨hs6,b,o,rfl,hcs⟩:=HV.out i s hsk
      have c1:wr.cell? ⟨b,o+i,none⟩=some (.int .u16 s):=(HT.out.is_ext.cell (lt_of_cell hcs)).trans hcs
      have q1:IntKind.i64.wrap ((now:Int)+(s:Int))=((now+s:Nat):Int):=by rw [IntWalk.i64_in _ (by omega)];omega
      have hi31:i<31:=by omega
      have hns:now+s≤4294967295:=by omega
      obtain ⟨m,hm⟩:∃ m,m=i % 3:=⟨_,rfl⟩
      have hm3:m<3:=by omega
      have q2:(i:Int).tmod 3=(m:Int):=by rw [hm,Int.ofNat_tmod];rfl
      have HM:=Lib.hid hm
      clear hm
      clear hs ht hsk hcs
      obtain ⟨na,nc,hnv⟩:=rowk_shape (own_many (A:=[.disk d D]) (B:=[]) HT.out)
      subst hnv
      go_upto_region 10 with (fail)
      have HT0:=Lib.hid (HT.out.ext (Ext.refl wr).drew)
      have HPn:=Lib.hid (show pthN i=⟨#[UInt8.ofNat (97+m)]⟩ from by unfold pthN;rw [HM.out])
      obtain ⟨x,hx⟩:∃ x:UInt8,x=UInt8.ofNat (97+m):=⟨_,rfl⟩
      have HX:=Lib.hid hx
      have HXT:=Lib.hid (show x.toNat=97+m from by rw [hx,UInt8.toNat_ofNat'];omega)
      clear hx
      have q3:IntKind.i64.wrap (97+(m:Int))=97+(m:Int):=IntWalk.i64_in _ (by omega)
      have q4:IntKind.u8.wrap (97+(m:Int))=(x.toNat:Int):=by rw [HXT.out,IntWalk.u8_in _ (by omega)];rfl
      have HBx:=Lib.hid (fun w1:World=>block_alloc_new w1 (.cells #[.int .u8 x.toNat] 5 (0,0)))
      refine wp_region_held (S:=fun _=>True) (by kernel_rfl) ?_
      change wpAnyH _ _ _ _ _ _ _ _ (World.drew _)
      refine wpAnyH_takeL (i:=0) (v:=.pointer (some ⟨d,0,none⟩)) rfl (by kernel_rfl) (by kernel_rfl) (by kernel_rfl) (fun _ _ _ h=>h) (yieldsIf_move rfl _ rfl rfl) trivial ?_
      go_frame
      refine wpAnyH_takeL (i:=1) (v:=.int .i64 i) rfl (by kernel_rfl) (by kernel_rfl) (by kernel_rfl) (fun _ _ _ h=>h) (yieldsIf_move rfl _ rfl rfl) trivial ?_
      go_frame
      refine wpAnyH_takeL (i:=2) (v:=.int .i64 (m:Int)) rfl (by kernel_rfl) (by kernel_rfl) (by kernel_rfl) (fun _ _ _ h=>h) (Or.inl ⟨rfl,fun w' _=>by go_simp⟩) trivial ?_
      go_frame
      refine wpAnyH_takeL (i:=3) (v:=.int .i64 (97+(m:Int))) rfl (by kernel_rfl) (by kernel_rfl) (by kernel_rfl) (fun _ _ _ h=>h) (Or.inl ⟨rfl,fun w' _=>by go_simp⟩) trivial ?_
      go_frame
      refine wpAnyH_takeL (i:=4) (v:=.int .u8 (x.toNat:Int)) rfl (by kernel_rfl) (by kernel_rfl) (by kernel_rfl) (fun _ _ _ h=>h) (Or.inl ⟨rfl,fun w' _=>by go_simp⟩) trivial ?_
      go_frame
      refine wpAnyH_takeL (i:=8) (v:=.int .i64 ((now+s:Nat):Int)) rfl (by kernel_rfl) (by kernel_rfl) (by kernel_rfl) (fun _ _ _ h=>h) (yieldsIf_move rfl _ rfl rfl) trivial ?_
      go_frame
      refine wpAnyH_op_call (i:=5) (j:=7) (F:=49) (args:=#[.string ⟨#[120]⟩,.int .i64 1]) (v:=.slice (some ⟨wr.drew.heap.size,0,none⟩) 1 1) (w2:=wr.drew.alloc (.cells #[.int .u8 x.toNat] 5 (0,0))) (by kernel_rfl) rfl rfl rfl rfl (by go_simp) trivial (by go_simp) ?_ ?_
      · go_frame
        have b5:=HBx.out wr.drew
        have T5:=Lib.hid (HT0.out.ext ((Ext.refl wr.drew).alloc (.cells #[.int .u8 x.toNat] 5 (0,0))))
        refine wpAnyH_op_call (i:=6) (j:=7) (F:=49) (args:=#[.string ⟨#[120]⟩,.int .i64 1]) (v:=.string ⟨#[x]⟩) (w2:=wr.drew.alloc (.cells #[.int .u8 x.toNat] 5 (0,0))) (by kernel_rfl) rfl rfl rfl rfl (run_convOp _ _ _ rfl rfl (conv_byte1 b5)) trivial (by go_simp) ?_ ?_
        · go_frame
          refine wpAnyH_call (i:=7) (F:=49) (args:=#[.string ⟨#[120]⟩,.int .i64 1]) (by kernel_rfl) rfl rfl (by go_simp) ?_
          refine (HF.out _ _ _).mono ?_
          rintro e w7 ⟨rfl,x7⟩
          have T7:=Lib.hid (T5.out.ext x7)
          refine ⟨_,rfl,trivial,?_⟩
          go_frame
          have hT:=T7.out
          have hS:=HS.out
          have HA:=Lib.hid (turn_add hT HE.out hS hi31 (Nat.le_add_right now s) hns)
          rw [HPn.out,←HX.out] at HA
          refine wpAnyH_call (i:=9) (F:=48) (args:=#[.pointer (some ⟨d,0,none⟩),.string ⟨#[118,49]⟩,.string ⟨#[x]⟩,.agg #[.int .i64 1,.string ⟨#[120]⟩,.string ⟨#[]⟩,.int .i64 1],.int .i64 ((now+s:Nat):Int)]) (by kernel_rfl) rfl rfl (by go_simp) ?_
          refine HA.out.mono ?_
          rintro e w9 ⟨k,D',rfl,hh⟩
          obtain ⟨t9,hs9,hk9,hu9⟩:=hh.out
          have T9:=Lib.hid t9
          have S9:=Lib.hid hs9
          clear hh HA t9 hs9
          refine ⟨_,rfl,trivial,?_⟩
          go_frame
          refine wpAnyH_takeL (i:=10) (v:=.tuple #[.string (nameA (now+s) k),.int .i64 0]) rfl (by kernel_rfl) (by kernel_rfl) (by kernel_rfl) (fun _ _ _ h=>h) (yieldsIf_move rfl _ rfl rfl) trivial ?_
          go_frame
          refine wpAnyH_takeL (i:=11) (v:=.string (nameA (now+s) k)) rfl (by kernel_rfl) (by kernel_rfl) (by kernel_rfl) (fun _ _ _ h=>h) (Or.inl ⟨rfl,fun w' _=>by go_simp⟩) trivial ?_
          go_frame
          refine wpAnyH_takeL (i:=12) (v:=.int .i64 0) rfl (by kernel_rfl) (by kernel_rfl) (by kernel_rfl) (fun _ _ _ h=>h) (Or.inl ⟨rfl,fun w' _=>by go_simp⟩) trivial ?_
          go_frame
          refine wpAnyH_takeL (i:=13) (v:=.string (nameA (now+s) k)) rfl (by kernel_rfl) (by kernel_rfl) (by kernel_rfl) (fun _ _ _ h=>h) (yieldsIf_assign rfl _ rfl rfl) trivial ?_
          go_frame
          refine wpAnyH_takeL (i:=14) (v:=.int .i64 0) rfl (by kernel_rfl) (by kernel_rfl) (by kernel_rfl) (fun _ _ _ h=>h) (yieldsIf_assign rfl _ rfl rfl) trivial ?_
          go_frame
          refine wpAnyH_done (by kernel_rfl) ?_ _
          have hMap9:∀ k:Nat,((ns++[(now+s,k)]).map fun x=>nameA x.1 x.2).map Value.string=(ns.map fun x=>nameA x.1 x.2).map Value.string++[.string (nameA (now+s) k)]:=fun k=>by rw [List.map_append,List.map_append];rfl
          have own9:=Lib.hid (own_many (A:=[.disk d D']) (B:=[]) T9.out)
          have HNL:=Lib.hid hS.len
          clear hT hS HS HT HT0 HBx q2 q3 q4 HXT HPn HX HM hm3 T7
          by_cases i0:i=0
          · have gi:decide ((0:Int)<(i:Int))=false:=decide_eq_false (by omega)
            go_wp2_with (at_builtin;refine append_kw elText 0 (.slice na i nc) i _ (owns_ext own9.out ((Ext.refl _).alloc (.cells #[.string (nameA (now+s) k)] 9 (0,0)))) w9.heap.size [.string (nameA (now+s) k)] rfl (.tmp 75) (.tmp 77) rfl rfl rfl rfl (fun j u hj=>(cellB (block_alloc_new _ _)).trans (by simpa using hj)) (by simp [Value.oneCell']) (by omega) (Nat.zero_le _) ?_;intro v7 w7 ho7 hg7 hi7 hv7;have HO7:=Lib.hid ho7;have HG7:=Lib.hid hg7;have HV7:=Lib.hid hv7;clear ho7 hg7 hi7 hv7;go_frame)
            have TX:=Lib.hid (T9.out.ext ((Ext.refl w9).alloc (.cells #[.string (nameA (now+s) k)] 9 (0,0))))
            have hO8:=HO7.out
            rw [←hMap9 k] at hO8
            have TF:=Lib.hid (TX.out.grow (A:=[.disk d D']) (B:=[]) hO8  HG7.out HV7.out)
            go_roundw
            case rel=>exact ⟨i+1,now+s,D',ns++[(now+s,k)],by omega,by go_num,by go_num,by omega,S9.out,TF.out⟩
            case measure=>simp [intOf] <;> omega
          · have gi:decide ((0:Int)<(i:Int))=true:=decide_eq_true (by omega)
            obtain ⟨y,hy⟩:∃ y,ns[i - 1]?=some y:=⟨_,List.getElem?_eq_getElem (by have:=HNL.out;omega)⟩
            obtain ⟨l1,l2,l3⟩:=name_less19 (hu9 y (List.mem_of_getElem? hy)) (by omega) hk9
            obtain ⟨_,_,e1,_,_,_,hat⟩:=row_slice own9.out
            cases e1
            obtain ⟨g,rfl,_,_,c9⟩:=hat (i - 1) (.string (nameA y.1 y.2)) (by rw [List.getElem?_map,List.getElem?_map,hy];rfl)
            have q5:IntKind.i64.wrap ((i:Int) - 1)=((i - 1:Nat):Int):=by rw [IntWalk.i64_in _ (by omega)];omega
            clear hat hy hu9
            go_wp2_with (at_builtin;refine append_kw elText 0 (.slice (some ⟨g,0,none⟩) i nc) i _ (owns_ext own9.out ((Ext.refl _).alloc (.cells #[.string (nameA (now+s) k)] 9 (0,0)))) w9.heap.size [.string (nameA (now+s) k)] rfl (.tmp 75) (.tmp 77) rfl rfl rfl rfl (fun j u hj=>(cellB (block_alloc_new _ _)).trans (by simpa using hj)) (by simp [Value.oneCell']) (by omega) (Nat.zero_le _) ?_;intro v7 w7 ho7 hg7 hi7 hv7;have HO7:=Lib.hid ho7;have HG7:=Lib.hid hg7;have HV7:=Lib.hid hv7;clear ho7 hg7 hi7 hv7;go_frame)
            have TX:=Lib.hid (T9.out.ext ((Ext.refl w9).alloc (.cells #[.string (nameA (now+s) k)] 9 (0,0))))
            have hO8:=HO7.out
            rw [←hMap9 k] at hO8
            have TF:=Lib.hid (TX.out.grow (A:=[.disk d D']) (B:=[]) hO8  HG7.out HV7.out)
            go_roundw
            case rel=>exact ⟨i+1,now+s,D',ns++[(now+s,k)],by omega,by go_num,by go_num,by omega,S9.out,TF.out⟩
            case measure=>simp [intOf] <;> omega
        · refine (HF.out _ _ _).mono ?_
          rintro e w7 ⟨rfl,x7⟩
          have T7:=Lib.hid (T5.out.ext x7)
          have b7:=(x7.block (ltB b5)).trans b5
          refine ⟨_,rfl,trivial,?_⟩
          go_frame
          refine wpAnyH_one (i:=6) (v:=.string ⟨#[x]⟩) (by kernel_rfl) rfl rfl (run_convOp _ _ _ rfl rfl (conv_byte1 b7)) trivial ?_
          go_frame
          have hT:=T7.out
          have hS:=HS.out
          have HA:=Lib.hid (turn_add hT HE.out hS hi31 (Nat.le_add_right now s) hns)
          rw [HPn.out,←HX.out] at HA
          refine wpAnyH_call (i:=9) (F:=48) (args:=#[.pointer (some ⟨d,0,none⟩),.string ⟨#[118,49]⟩,.string ⟨#[x]⟩,.agg #[.int .i64 1,.string ⟨#[120]⟩,.string ⟨#[]⟩,.int .i64 1],.int .i64 ((now+s:Nat):Int)]) (by kernel_rfl) rfl rfl (by go_simp) ?_
          refine HA.out.mono ?_
          rintro e w9 ⟨k,D',rfl,hh⟩
          obtain ⟨t9,hs9,hk9,hu9⟩:=hh.out
          have T9:=Lib.hid t9
          have S9:=Lib.hid hs9
          clear hh HA t9 hs9
          refine ⟨_,rfl,trivial,?_⟩
          go_frame
          refine wpAnyH_takeL (i:=10) (v:=.tuple #[.string (nameA (now+s) k),.int .i64 0]) rfl (by kernel_rfl) (by kernel_rfl) (by kernel_rfl) (fun _ _ _ h=>h) (yieldsIf_move rfl _ rfl rfl) trivial ?_
          go_frame
          refine wpAnyH_takeL (i:=11) (v:=.string (nameA (now+s) k)) rfl (by kernel_rfl) (by kernel_rfl) (by kernel_rfl) (fun _ _ _ h=>h) (Or.inl ⟨rfl,fun w' _=>by go_simp⟩) trivial ?_
          go_frame
          refine wpAnyH_takeL (i:=12) (v:=.int .i64 0) rfl (by kernel_rfl) (by kernel_rfl) (by kernel_rfl) (fun _ _ _ h=>h) (Or.inl ⟨rfl,fun w' _=>by go_simp⟩) trivial ?_
          go_frame
          refine wpAnyH_takeL (i:=13) (v:=.string (nameA (now+s) k)) rfl (by kernel_rfl) (by kernel_rfl) (by kernel_rfl) (fun _ _ _ h=>h) (yieldsIf_assign rfl _ rfl rfl) trivial ?_
          go_frame
          refine wpAnyH_takeL (i:=14) (v:=.int .i64 0) rfl (by kernel_rfl) (by kernel_rfl) (by kernel_rfl) (fun _ _ _ h=>h) (yieldsIf_assign rfl _ rfl rfl) trivial ?_
          go_frame
          refine wpAnyH_done (by kernel_rfl) ?_ _
          have hMap9:∀ k:Nat,((ns++[(now+s,k)]).map fun x=>nameA x.1 x.2).map Value.string=(ns.map fun x=>nameA x.1 x.2).map Value.string++[.string (nameA (now+s) k)]:=fun k=>by rw [List.map_append,List.map_append];rfl
          have own9:=Lib.hid (own_many (A:=[.disk d D']) (B:=[]) T9.out)
          have HNL:=Lib.hid hS.len
          clear hT hS HS HT HT0 HBx q2 q3 q4 HXT HPn HX HM hm3 T7
          by_cases i0:i=0
          · have gi:decide ((0:Int)<(i:Int))=false:=decide_eq_false (by omega)
            go_wp2_with (at_builtin;refine append_kw elText 0 (.slice na i nc) i _ (owns_ext own9.out ((Ext.refl _).alloc (.cells #[.string (nameA (now+s) k)] 9 (0,0)))) w9.heap.size [.string (nameA (now+s) k)] rfl (.tmp 75) (.tmp 77) rfl rfl rfl rfl (fun j u hj=>(cellB (block_alloc_new _ _)).trans (by simpa using hj)) (by simp [Value.oneCell']) (by omega) (Nat.zero_le _) ?_;intro v7 w7 ho7 hg7 hi7 hv7;have HO7:=Lib.hid ho7;have HG7:=Lib.hid hg7;have HV7:=Lib.hid hv7;clear ho7 hg7 hi7 hv7;go_frame)
            have TX:=Lib.hid (T9.out.ext ((Ext.refl w9).alloc (.cells #[.string (nameA (now+s) k)] 9 (0,0))))
            have hO8:=HO7.out
            rw [←hMap9 k] at hO8
            have TF:=Lib.hid (TX.out.grow (A:=[.disk d D']) (B:=[]) hO8  HG7.out HV7.out)
            go_roundw
            case rel=>exact ⟨i+1,now+s,D',ns++[(now+s,k)],by omega,by go_num,by go_num,by omega,S9.out,TF.out⟩
            case measure=>simp [intOf] <;> omega
          · have gi:decide ((0:Int)<(i:Int))=true:=decide_eq_true (by omega)
            obtain ⟨y,hy⟩:∃ y,ns[i - 1]?=some y:=⟨_,List.getElem?_eq_getElem (by have:=HNL.out;omega)⟩
            obtain ⟨l1,l2,l3⟩:=name_less19 (hu9 y (List.mem_of_getElem? hy)) (by omega) hk9
            obtain ⟨_,_,e1,_,_,_,hat⟩:=row_slice own9.out
            cases e1
            obtain ⟨g,rfl,_,_,c9⟩:=hat (i - 1) (.string (nameA y.1 y.2)) (by rw [List.getElem?_map,List.getElem?_map,hy];rfl)
            have q5:IntKind.i64.wrap ((i:Int) - 1)=((i - 1:Nat):Int):=by rw [IntWalk.i64_in _ (by omega)];omega
            clear hat hy hu9
            go_wp2_with (at_builtin;refine append_kw elText 0 (.slice (some ⟨g,0,none⟩) i nc) i _ (owns_ext own9.out ((Ext.refl _).alloc (.cells #[.string (nameA (now+s) k)] 9 (0,0)))) w9.heap.size [.string (nameA (now+s) k)] rfl (.tmp 75) (.tmp 77) rfl rfl rfl rfl (fun j u hj=>(cellB (block_alloc_new _ _)).trans (by simpa using hj)) (by simp [Value.oneCell']) (by omega) (Nat.zero_le _) ?_;intro v7 w7 ho7 hg7 hi7 hv7;have HO7:=Lib.hid ho7;have HG7:=Lib.hid hg7;have HV7:=Lib.hid hv7;clear ho7 hg7 hi7 hv7;go_frame)
            have TX:=Lib.hid (T9.out.ext ((Ext.refl w9).alloc (.cells #[.string (nameA (now+s) k)] 9 (0,0))))
            have hO8:=HO7.out
            rw [←hMap9 k] at hO8
            have TF:=Lib.hid (TX.out.grow (A:=[.disk d D']) (B:=[]) hO8  HG7.out HV7.out)
            go_roundw
            case rel=>exact ⟨i+1,now+s,D',ns++[(now+s,k)],by omega,by go_num,by go_num,by omega,S9.out,TF.out⟩
            case measure=>simp [intOf] <;> omega
      · refine (HF.out _ _ _).mono ?_
        rintro e w7 ⟨rfl,x7⟩
        have T7:=Lib.hid ((HT0.out.ext x7).ext ((Ext.refl w7).alloc (.cells #[.int .u8 x.toNat] 5 (0,0))))
        have b7:=HBx.out w7
        refine ⟨_,rfl,trivial,?_⟩
        go_frame
        refine wpAnyH_one (i:=5) (v:=.slice (some ⟨w7.heap.size,0,none⟩) 1 1) (w':=w7.alloc (.cells #[.int .u8 x.toNat] 5 (0,0))) (by kernel_rfl) rfl rfl (by go_simp) trivial ?_
        go_frame
        refine wpAnyH_one (i:=6) (v:=.string ⟨#[x]⟩) (by kernel_rfl) rfl rfl (run_convOp _ _ _ rfl rfl (conv_byte1 b7)) trivial ?_
        go_frame
        have hT:=T7.out
        have hS:=HS.out
        have HA:=Lib.hid (turn_add hT HE.out hS hi31 (Nat.le_add_right now s) hns)
        rw [HPn.out,←HX.out] at HA
        refine wpAnyH_call (i:=9) (F:=48) (args:=#[.pointer (some ⟨d,0,none⟩),.string ⟨#[118,49]⟩,.string ⟨#[x]⟩,.agg #[.int .i64 1,.string ⟨#[120]⟩,.string ⟨#[]⟩,.int .i64 1],.int .i64 ((now+s:Nat):Int)]) (by kernel_rfl) rfl rfl (by go_simp) ?_
        refine HA.out.mono ?_
        rintro e w9 ⟨k,D',rfl,hh⟩
        obtain ⟨t9,hs9,hk9,hu9⟩:=hh.out
        have T9:=Lib.hid t9
        have S9:=Lib.hid hs9
        clear hh HA t9 hs9
        refine ⟨_,rfl,trivial,?_⟩
        go_frame
        refine wpAnyH_takeL (i:=10) (v:=.tuple #[.string (nameA (now+s) k),.int .i64 0]) rfl (by kernel_rfl) (by kernel_rfl) (by kernel_rfl) (fun _ _ _ h=>h) (yieldsIf_move rfl _ rfl rfl) trivial ?_
        go_frame
        refine wpAnyH_takeL (i:=11) (v:=.string (nameA (now+s) k)) rfl (by kernel_rfl) (by kernel_rfl) (by kernel_rfl) (fun _ _ _ h=>h) (Or.inl ⟨rfl,fun w' _=>by go_simp⟩) trivial ?_
        go_frame
        refine wpAnyH_takeL (i:=12) (v:=.int .i64 0) rfl (by kernel_rfl) (by kernel_rfl) (by kernel_rfl) (fun _ _ _ h=>h) (Or.inl ⟨rfl,fun w' _=>by go_simp⟩) trivial ?_
        go_frame
        refine wpAnyH_takeL (i:=13) (v:=.string (nameA (now+s) k)) rfl (by kernel_rfl) (by kernel_rfl) (by kernel_rfl) (fun _ _ _ h=>h) (yieldsIf_assign rfl _ rfl rfl) trivial ?_
        go_frame
        refine wpAnyH_takeL (i:=14) (v:=.int .i64 0) rfl (by kernel_rfl) (by kernel_rfl) (by kernel_rfl) (fun _ _ _ h=>h) (yieldsIf_assign rfl _ rfl rfl) trivial ?_
        go_frame
        refine wpAnyH_done (by kernel_rfl) ?_ _
        have hMap9:∀ k:Nat,((ns++[(now+s,k)]).map fun x=>nameA x.1 x.2).map Value.string=(ns.map fun x=>nameA x.1 x.2).map Value.string++[.string (nameA (now+s) k)]:=fun k=>by rw [List.map_append,List.map_append];rfl
        have own9:=Lib.hid (own_many (A:=[.disk d D']) (B:=[]) T9.out)
        have HNL:=Lib.hid hS.len
        clear hT hS HS HT HT0 HBx q2 q3 q4 HXT HPn HX HM hm3 T7
        by_cases i0:i=0
        · have gi:decide ((0:Int)<(i:Int))=false:=decide_eq_false (by omega)
          go_wp2_with (at_builtin;refine append_kw elText 0 (.slice na i nc) i _ (owns_ext own9.out ((Ext.refl _).alloc (.cells #[.string (nameA (now+s) k)] 9 (0,0)))) w9.heap.size [.string (nameA (now+s) k)] rfl (.tmp 75) (.tmp 77) rfl rfl rfl rfl (fun j u hj=>(cellB (block_alloc_new _ _)).trans (by simpa using hj)) (by simp [Value.oneCell']) (by omega) (Nat.zero_le _) ?_;intro v7 w7 ho7 hg7 hi7 hv7;have HO7:=Lib.hid ho7;have HG7:=Lib.hid hg7;have HV7:=Lib.hid hv7;clear ho7 hg7 hi7 hv7;go_frame)
          have TX:=Lib.hid (T9.out.ext ((Ext.refl w9).alloc (.cells #[.string (nameA (now+s) k)] 9 (0,0))))
          have hO8:=HO7.out
          rw [←hMap9 k] at hO8
          have TF:=Lib.hid (TX.out.grow (A:=[.disk d D']) (B:=[]) hO8  HG7.out HV7.out)
          go_roundw
          case rel=>exact ⟨i+1,now+s,D',ns++[(now+s,k)],by omega,by go_num,by go_num,by omega,S9.out,TF.out⟩
          case measure=>simp [intOf] <;> omega
        · have gi:decide ((0:Int)<(i:Int))=true:=decide_eq_true (by omega)
          obtain ⟨y,hy⟩:∃ y,ns[i - 1]?=some y:=⟨_,List.getElem?_eq_getElem (by have:=HNL.out;omega)⟩
          obtain ⟨l1,l2,l3⟩:=name_less19 (hu9 y (List.mem_of_getElem? hy)) (by omega) hk9
          obtain ⟨_,_,e1,_,_,_,hat⟩:=row_slice own9.out
          cases e1
          obtain ⟨g,rfl,_,_,c9⟩:=hat (i - 1) (.string (nameA y.1 y.2)) (by rw [List.getElem?_map,List.getElem?_map,hy];rfl)
          have q5:IntKind.i64.wrap ((i:Int) - 1)=((i - 1:Nat):Int):=by rw [IntWalk.i64_in _ (by omega)];omega
          clear hat hy hu9
          go_wp2_with (at_builtin;refine append_kw elText 0 (.slice (some ⟨g,0,none⟩) i nc) i _ (owns_ext own9.out ((Ext.refl _).alloc (.cells #[.string (nameA (now+s) k)] 9 (0,0)))) w9.heap.size [.string (nameA (now+s) k)] rfl (.tmp 75) (.tmp 77) rfl rfl rfl rfl (fun j u hj=>(cellB (block_alloc_new _ _)).trans (by simpa using hj)) (by simp [Value.oneCell']) (by omega) (Nat.zero_le _) ?_;intro v7 w7 ho7 hg7 hi7 hv7;have HO7:=Lib.hid ho7;have HG7:=Lib.hid hg7;have HV7:=Lib.hid hv7;clear ho7 hg7 hi7 hv7;go_frame)
          have TX:=Lib.hid (T9.out.ext ((Ext.refl w9).alloc (.cells #[.string (nameA (now+s) k)] 9 (0,0))))
          have hO8:=HO7.out
          rw [←hMap9 k] at hO8
          have TF:=Lib.hid (TX.out.grow (A:=[.disk d D']) (B:=[]) hO8  HG7.out HV7.out)
          go_roundw
          case rel=>exact ⟨i+1,now+s,D',ns++[(now+s,k)],by omega,by go_num,by go_num,by omega,S9.out,TF.out⟩
          case measure=>simp [intOf] <;> omega
    · obtain rfl:i=n:=by omega
      have HNL:=Lib.hid hs.len
      rcases hs.base with ⟨rfl,rfl⟩ | ⟨h0,hb⟩
      · have HL:=Lib.hid (alist_no_many (A:=[]) HT.out ar0.ok (HE.out.ext HT.out.is_ext) bV1 mb1 (by rw [dir0];decide))
        rw [dir0] at HL
        unfold bV1 at HL
        obtain ⟨na,nc,hnv⟩:=rowk_shape (own_many (A:=[.disk d a0]) (B:=[]) HT.out)
        subst hnv
        have X0:=Lib.hid HT.out.is_ext
        clear hs ht HS HT
        go_wp2_with fail
        refine HL.out.mono ?_
        rintro e w5 ⟨rfl,x5⟩
        have X5:=Lib.hid (X0.out.trans x5)
        clear x5
        go_wp2_with fail
        go_loopw [12] (fun iv wr=>Hid (iv=.int .i64 0∧wr=w5)) (fun _ _=>0)
        case atStart=>exact ⟨rfl,rfl⟩
        case round =>
          obtain ⟨rfl,rfl⟩:=hrel.out
          clear hrel
          go_wp2_with fail
          refine (HAw.out _ X5.out).mono ?_
          rintro e w6 ⟨rfl,x6⟩
          have X6:=Lib.hid (X5.out.trans x6)
          go_wp2
          go_ret
          exact ⟨rfl,X6.out⟩
      · have hes:=hb.ents fun x hx=>by have:=(hs.le x hx).1;omega
        have hlen:(entsL D.live bV1).length=i:=by rw [hes,List.length_mapIdx];exact hs.len
        have hll:D.live.length≤20000:=by
          rw [hb.live]
          unfold ndsN
          rw [List.length_cons,List.length_mapIdx,hs.len]
          omega
        have HL:=Lib.hid (alist_many (A:=[]) HT.out hs.run.ok (HE.out.ext HT.out.is_ext) bV1 mb1 hb.dir.2 hll)
        rw [hlen] at HL
        have HES:=Lib.hid (fun k x (hx:ns[k]?=some x)=>(by rw [hes,List.getElem?_mapIdx,hx];rfl:(entsL D.live bV1)[k]?=some (Ent.mk (nameA x.1 x.2) (pthN k) ((x.1:Nat):Int) 1)))
        have hOwn:=own_many (A:=[.disk d D]) (B:=[]) HT.out
        obtain ⟨na,nc,hnv,_,hc1,hc2,hat⟩:=row_slice hOwn
        subst hnv
        have HAt:=Lib.hid hat
        unfold bV1 at HL
        have X0:=Lib.hid HT.out.is_ext
        clear hs ht HS HT hes hll hOwn hat hb
        go_wp2_with fail
        refine HL.out.mono ?_
        rintro e w5 ⟨lv,rfl,h5⟩
        obtain ⟨o5,x5⟩:=h5.out
        obtain ⟨hq,_⟩:=row_ents (l:=entsL D.live bV1) o5 hlen.symm (row_nonil o5 (by omega))
        obtain ⟨g5,of5,cap5,hlv,hd1,hd2,hd3⟩:=hq
        rw [hlen] at hlv hd1
        subst hlv
        have HD3:=Lib.hid hd3
        have X5:=Lib.hid (X0.out.trans x5)
        have x5':=Lib.hid x5
        clear h5 o5 x5 HL hd3 hlen
        go_wp2_with fail
        go_loopw [12] (fun iv wr=>Hid (∃ k:Nat,k≤i∧iv=.int .i64 k∧Ext w5 wr)) (fun iv _=>i - (intOf iv).toNat)
        case atStart=>exact ⟨0,Nat.zero_le _,rfl,Ext.refl _⟩
        case round =>
          obtain ⟨k,hk,rfl,hx⟩:=hrel.out
          clear hrel
          have XK:=Lib.hid hx
          by_cases hlt2:k<i
          · obtain ⟨x,hxk⟩:∃ x,ns[k]?=some x:=⟨_,List.getElem?_eq_getElem (by have:=HNL.out;omega)⟩
            have hcell:=HD3.out (k*4+0) (.string (nameA x.1 x.2)) (by rw [ents_get (HES.out k x hxk) (by decide)];rfl)
            obtain ⟨g2,rfl,_,_,hc9⟩:=HAt.out k (.string (nameA x.1 x.2)) (by rw [List.getElem?_map,List.getElem?_map,hxk];rfl)
            have hcr:wr.cell? ⟨g5,of5+k*4,none⟩=some (.string (nameA x.1 x.2)):=(hx.cell (lt_of_cell hcell)).trans hcell
            have hcn:wr.cell? ⟨g2,k,none⟩=some (.string (nameA x.1 x.2)):=((x5'.out.trans hx).cell (lt_of_cell hc9)).trans hc9
            have kz:=fun z:After wr=>(z.x.cell (lt_of_cell hcr)).trans hcr
            have ky:=fun z:After wr=>(z.x.cell (lt_of_cell hcn)).trans hcn
            clear hcell hc9 hcr hcn hx hxk
            generalize nameA x.1 x.2=nm at *
            go_upto_region 20 with (fail)
            refine wp_region_after (by kernel_rfl) (by kernel_rfl) ?_
            iterate 10 go_big_quiet_step (fail)
            refine wpQuiet_nil ?_
            rintro _ ⟨z,rfl⟩
            have XZ:=Lib.hid (XK.out.trans z.x)
            go_wp2_with fail
            go_roundw
            case rel=>exact ⟨k+1,by omega,by go_num,XZ.out⟩
            case measure=>simp [intOf] <;> omega
          · obtain rfl:k=i:=by omega
            go_wp2_with fail
            refine (HAw.out _ (X5.out.trans XK.out)).mono ?_
            rintro e w6 ⟨rfl,x6⟩
            have X6:=Lib.hid ((X5.out.trans XK.out).trans x6)
            go_wp2
            go_ret
            exact ⟨rfl,X6.out⟩

-- BEGUN
set_option maxRecDepth 100000 in
theorem begun {H:Type} {enc:TypeId×Value→H} (W:World) (args:Array Value) (ds:List (DataW H)) (p:List MemPlace) (st:Start enc Rows.archiveTurnRow.laid Tryz.f10 W args ds p) :
    Calls Tryz.prog 10 args W fun e W'=>e=.returned (.bool true)∧Below W.heap.size W W':=by
  obtain ⟨⟨base,hval⟩,hA,hfit,hl,hsh⟩:=st
  rw [Tryz.params10] at hA hval hfit
  obtain ⟨v0,d0,rfl,rfl,h0⟩:=trodAll_one hA
  obtain ⟨o,len,cap,rfl⟩:=okWide_slice (show Tryz.prog.underlying 100=some (.slice 101) by kernel_rfl) (hval 0 100 v0 rfl rfl)
  obtain ⟨fuel,hf⟩:=h0
  obtain ⟨zs,hz⟩:=open_steps hf
  exact walk _ zs W hz (enva_of hl hsh 2 rfl)

set_option maxRecDepth 100000 in
theorem said:Rows.ArchiveTurnSaid :=
  OpenClaim.holds_of_wide 10 Tryz.f10 rfl rfl rfl rfl rfl rfl rfl ⟨rfl,rfl,rfl,rfl,rfl⟩ rfl rfl rfl rfl rfl named Tryz.func10 facts
    (of_decide_eq_true (by kernel_rfl)) (by unfold Func.isWrapper;first | (rw [if_pos (by decide +kernel)];kernel_rfl) | (rw [if_neg (by decide +kernel)];exact ⟨rfl,rfl⟩))
    (fun os started H enc _=>lifted Rows.archiveTurnRow.laid (by kernel_rfl) 10 Tryz.f10 Tryz.func10 Rows.archiveTurnSpec rfl (by kernel_rfl) (by kernel_rfl)
      (by rw [Tryz.params10]
          have hall:([100].all fun t=>Tryz.prog.readableRec t&&decide (t<Tryz.prog.types.size))=true:=by kernel_rfl
          intro t ht
          have:=List.all_eq_true.1 hall t ht
          simpa using this)
      (by intro H ts ds h hl;rw [Tryz.params10] at h;subst h
          match ds,hl with
          | [d1],_=>rfl)
      Rows.archiveTurnRow.domain os started H enc #[.slice none 0 0] (by kernel_rfl) (by kernel_rfl) (by kernel_rfl)
      (World.shaped_of_ZipB (by kernel_rfl) (by kernel_rfl)) (laidMet_laidAll _ (by kernel_rfl) (by kernel_rfl))
      begun)

theorem card:Rows.ArchiveTurnCardSaid :=
  Claim7.holds_tied_plain_at .later [] Rows.archiveTurnCard.laidKinds true Rows.archiveTurnCard.stood.harness Rows.archiveTurnCard.stood.looks said (fun _ h=>by cases h) card1 (fun _ h=>by cases h) archiveTurn_row_tie rfl ⟨rfl,rfl⟩ card2 rfl
    (fun f fn hf hfn=>by
      obtain rfl:f=10:=Option.some.inj (named.symm.trans hf) |>.symm
      obtain rfl:fn=Tryz.f10:=(Option.some.inj (Tryz.func10.symm.trans hfn)).symm
      exact ⟨card3,fun j t ht=>by
        rw [Tryz.params10] at ht
        have hm:t∈[100]:=by simpa using Array.mem_of_getElem? ht
        have hall:=card4
        exact (show Tryz.pinned.checked.prog.wantsStandIn t=false by simpa using List.all_eq_true.1 hall t hm)⟩)
    card5
#print axioms card
end Go.Proofs.YtodickpibbbiiaaGreatDoor.lawArchiveTurn
