/- WalkItems: whatever is put on a disk, whatever root, path and number of steps: the item, and what Each tells up to there, are the document's: the statement WalkItemsCardSaid, with no condition of its own. -/
import Derived.Deep.CutRange
import Derived.Laws.StructEq
import Derived.Carry
import Derived.Test.YtodickpibbbiiaaGreatDoorWiA1
import Derived.Test.YtodickpibbbiiaaGreatDoorWiB1
import Derived.Test.YtodickpibbbiiaaGreatDoorWiF1

import Derived.Test.YtodickpibbbiiaaGreatDoorWiF2





import Derived.Test.YtodickpibbbiiaaGreatDoorWiF3

import Derived.Test.YtodickpibbbiiaaGreatDoorWalkItemsF
import Derived.Test.YtodickpibbbiiaaGreatDoorWalkItemsG
namespace Go.Proofs.YtodickpibbbiiaaGreatDoor.lawWalkItems
open Go.ChangeShapes Go.WideShapes Go.ChangeAt Go.RowKit
open Go.ChangeMaps (open_string)

attribute [local go_sem] Oper.semAt_some
/-- A node's cells. -/
def cellsN (n:Nd):Array Value:=#[.int .i64 n.kind,.string n.data,.string n.target,.int .i64 n.time]
theorem eq_node (x y:Nd) (w:World):(Go.Op.equalIn 10000 84 (.agg (cellsN x)) (.agg (cellsN y))).run Tryz.prog w=.ok (decide (x=y)) w:=by
  have u3:=Tryz.underlying3
  have a3:=Tryz.isAgg3
  have z3:=Tryz.sizeOf3
  have u9:=Tryz.underlying9
  have a9:=Tryz.isAgg9
  have z9:=Tryz.sizeOf9
  have hS:Tryz.prog.underlying 84=some (.struct (Tryz.prog.fieldsOf 84)):=by kernel_rfl
  have hp:Tryz.prog.stoodInHeld 84=false:=by kernel_rfl
  simp only [cellsN]
  rw [show (10000:Nat)=9999+1 from rfl,run_equalIn_agg w 9999 84 _ _ hS hp]
  simp only [Program.fieldsOf,Tryz.underlying84]
  go_simp
  have te:∀ a b:ByteArray,(a.toList=b.toList)=(a=b):=fun a b=>propext ⟨ba_ext,fun h=>h▸rfl⟩
  obtain ⟨k,d,t,m⟩:=x
  obtain ⟨k',d',t',m'⟩:=y
  by_cases h1:k=k' <;> by_cases h2:d=d' <;> by_cases h3:t=t' <;> by_cases h4:m=m' <;> simp [h1,h2,h3,h4,te]
/-- The box of the list: of n rows, m of which it shows. -/
def LBox (wx w7:World) (Lf:Nodes) (n m:Nat):Prop:=∃ (a15:Option Addr) (c15:Nat),wx.heap[w7.heap.size]?=some (.cells #[.slice a15 m c15] 80 (0,0))∧n≤c15∧c15≤9223372036854775807∧Ext w7 wx ∧
  ∀ k y,Lf[k]?=some y→∃ g,a15=some ⟨g,0,none⟩∧g<wx.heap.size∧g≠w7.heap.size∧wx.rangeAt g (k*5) (cells5 y)
/-- A struct that lies anywhere in a row, in a quiet walk under a fence. -/
theorem wpQuietIn_load_ag {F:Fence} {n:Nat} {P:Program} {ops:Array Oper} {C:World→Prop} {Q:Act→Prop} {a:Act} {o:Oper} {rest:List Oper} (hw:Region.wanted o (yielded ops a.tmps)=true) (ty:TypeId) (x:Operand) (ho:o.op=.load ty x)
    (b off:Nat) (hx:a.eval x=.pointer (some ⟨b,off,none⟩)) (cs:Array Value) (d:TypeDesc) (hc:∀ w,C w→w.rangeAt b off cs.toList)
    (hu:P.underlying ty=some d) (hd:d.isRow=true) (hi:(P.info? ty).map (·.size)=some cs.size)
    (h:wpQuietIn F n P ops C Q rest (a.put o.dst (.agg cs))):wpQuietIn F n P ops C Q (o::rest) a :=
  BigFrame.wpQuietIn_want (fun w _ f hf=>by unfold Oper.about at hf;rw [ho] at hf;cases hf) hw fun K hK=>⟨.agg cs,fun w hw=>by
    unfold Oper.quietAtIn execOp
    simp only [ho,hx,Instr.loadAt,Instr.sureAddr,Sem.run_bind,Sem.run_pure,Result.andThen_ok,run_loadVar_mid w b off ty cs.toList d (hc w hw) hu hd (by rw [hi];simp)]
    exact ⟨rfl,by simp⟩,hK _ h⟩
theorem files_none (w:World):FilesIn w (.slice none 0 0) []:=⟨none,0,rfl,Nat.le_refl _,by decide,fun j f hj=>by simp at hj⟩
set_option maxRecDepth 100000 in
set_option maxHeartbeats 8000000 in
theorem walk (v:Value) (root p:ByteArray) (steps:Int) (l:List PutR) (w:World) (hA:PutsIn w v l) (hroot:root.size≤reach) (hp:p.size≤reach) (hs1:-9223372036854775808≤steps) (hs2:steps≤9223372036854775807) (E:Env w) (T:ShaTabs w) :
    Calls Tryz.prog 7 #[v,.string root,.string p,.int .i64 steps] w fun e w'=>e=.returned (.bool true)∧Below w.heap.size w w':=by
  obtain ⟨w0,hw0⟩:∃ w0,w0=(w.alloc (.cells #[.int .i64 steps] 3 (0,0))).alloc (.cells #[.bool false] 4 (0,0)):=⟨_,rfl⟩
  have HX0:=Lib.hid (show Ext w w0 from hw0▸((Ext.refl w).alloc _).alloc _)
  have HBs:=Lib.hid (show w0.heap[w.heap.size]?=some (.cells #[.int .i64 steps] 3 (0,0)) from by rw [hw0];exact (block_alloc_old (by simp only [size_alloc];omega)).trans (block_alloc_new _ _))
  have HB0:=Lib.hid (show w0.heap[w.heap.size+1]?=some (.cells #[.bool false] 4 (0,0)) from by rw [hw0];have:=block_alloc_new (w.alloc (.cells #[.int .i64 steps] 3 (0,0))) (.cells #[.bool false] 4 (0,0));rwa [size_alloc] at this)
  have HLg:=Lib.hid (plarge_any (hA.ext HX0.out) (files_none w0) (fun f hf=>by cases hf))
  have HAw:=Lib.hid (fun w1 (x:Ext w0 w1)=>awake17_any w1 (E.ext (HX0.out.trans x)) (T.ext (HX0.out.trans x)))
  have HE0:=Lib.hid (E.ext HX0.out)
  have HT0:=Lib.hid (T.ext HX0.out)
  have HA0:=Lib.hid (hA.ext HX0.out)
  have HW0:=Lib.hid hw0
  obtain ⟨va,vc,rfl,_⟩:=hA.shape
  unfold reach at hroot hp
  have hs0:w.heap.size+1<w0.heap.size:=ltB HB0.out
  clear hA E T hw0
  refine callsIn_wide.1 (callsIn_of_wp_marks (n:=4) Tryz.func7 rfl trivial ?_ rfl)
  simp only [Tryz.ntmps7,List.size_toArray,List.length_cons,List.length_nil,Nat.reduceAdd,Nat.reduceSub,Array.replicate_succ,Array.replicate_zero,List.push_toArray,List.append_toArray,List.nil_append,List.cons_append]
  refine wpIn_wide.2 ?_
  go_wp2_with fail
  rw [←HW0.out]
  have qs:IntKind.i64.wrap ((root.size:Int)+(p.size:Int))=(root.size:Int)+(p.size:Int):=IntWalk.i64_in _ (by omega)
  cases hlg:largeP l []||decide (400<root.size+p.size) with
  | true =>
    cases hl1:largeP l [] with
    | true =>
      rw [hl1] at HLg
      refine (HLg.out).mono ?_
      rintro e w1 ⟨rfl,x1⟩
      have HX1:=Lib.hid x1
      clear x1
      go_wp2_with fail
      refine (HAw.out _ HX1.out).mono ?_
      rintro e w2 ⟨rfl,x2⟩
      have HX2:=Lib.hid (HX1.out.trans x2)
      clear x2
      have HB2:=Lib.hid ((HX2.out.block (ltB HB0.out)).trans HB0.out)
      go_wp2_with (refine wpList_storeB rfl _ _ _ rfl (w.heap.size+1) (.bool true) (.bool false) rfl rfl (by kernel_rfl) rfl _ HB2.out ?_;intro w9 hb9 ht9;have HB9:=Lib.hid hb9;have HT9:=Lib.hid ht9;clear hb9 ht9;go_frame)
      exact ⟨_,results_bool rfl _ _ _ _ _ _ rfl HB9.out,rfl,HT9.out.fresh (HX0.out.trans HX2.out) (Nat.le_succ _)⟩
    | false =>
      rw [hl1,Bool.false_or] at hlg
      have h400:=of_decide_eq_true hlg
      have g1:decide ((400:Int)<(root.size:Int)+(p.size:Int))=true:=by rw [decide_eq_true_eq];omega
      rw [hl1] at HLg
      refine (HLg.out).mono ?_
      rintro e w1 ⟨rfl,x1⟩
      have HX1:=Lib.hid x1
      clear x1
      go_wp2_with fail
      refine (HAw.out _ HX1.out).mono ?_
      rintro e w2 ⟨rfl,x2⟩
      have HX2:=Lib.hid (HX1.out.trans x2)
      clear x2
      have HB2:=Lib.hid ((HX2.out.block (ltB HB0.out)).trans HB0.out)
      go_wp2_with (refine wpList_storeB rfl _ _ _ rfl (w.heap.size+1) (.bool true) (.bool false) rfl rfl (by kernel_rfl) rfl _ HB2.out ?_;intro w9 hb9 ht9;have HB9:=Lib.hid hb9;have HT9:=Lib.hid ht9;clear hb9 ht9;go_frame)
      exact ⟨_,results_bool rfl _ _ _ _ _ _ rfl HB9.out,rfl,HT9.out.fresh (HX0.out.trans HX2.out) (Nat.le_succ _)⟩
  | false =>
    obtain ⟨hlg1,hlg2⟩:=Bool.or_eq_false_iff.1 hlg
    have h400:root.size+p.size≤400:=by have:=of_decide_eq_false hlg2;omega
    have g1:decide ((400:Int)<(root.size:Int)+(p.size:Int))=false:=by rw [decide_eq_false_iff_not];omega
    rw [hlg1] at HLg
    obtain ⟨hl40,_,hls,_⟩:=largeP_not hlg1
    have HR:=Lib.hid ((RunF.made l).mono (show l.length*201≤8040 by omega))
    have HM:=Lib.hid (fun w1 (x:Ext w0 w1)=>made_any (Things.start x) HE0.out HA0.out hl40 hls)
    obtain ⟨D,hD⟩:∃ D,D=madeD l:=⟨_,rfl⟩
    rw [←hD] at HM HR
    clear hD hlg hlg1 hlg2 hls hl40
    refine (HLg.out).mono ?_
    rintro e w1 ⟨rfl,x1⟩
    have HX1:=Lib.hid x1
    clear x1 HLg
    go_wp2_with fail
    refine (HM.out _ HX1.out).mono ?_
    rintro e w2 ⟨d,r,rfl,h2⟩
    have HT2:=Lib.hid (show Things w0 w2 [.disk d D,.ref r D] from h2.out)
    have HX2:=Lib.hid HT2.out.is_ext
    clear h2 HM HX1
    go_wp2_with fail
    refine (Item_many (A:=[]) (B:=[.ref r D]) HT2.out HR.out (HE0.out.ext HX2.out) (HT0.out.ext HX2.out) root p (by omega) (by omega)).mono ?_
    rintro e w3 ⟨C1,e1,rfl,h3⟩
    obtain ⟨hc1,hc2⟩:=one_shape h3.out.1
    have HC1:=Lib.hid (show (Tryz.prog.info? 45).map (·.size)=some C1.size from by rw [hc1];kernel_rfl)
    have HC2:=Lib.hid (show 27=C1.size from hc1.symm)
    have HC3:=Lib.hid hc2
    have H3:=Lib.hid h3.out.1
    have HX3:=Lib.hid (HX2.out.trans h3.out.2)
    have X23:=Lib.hid h3.out.2
    clear h3 hc1 hc2
    have HLV:=Lib.hid (live_few HR.out.run)
    go_wp2_with (refine wpList_storeT rfl _ _ _ rfl w3.heap.size C1 rfl rfl 45 _ (block_alloc_new w3 _) HC1.out HC2.out HC3.out ?_;intro w4 hb4 ht4;have HB4:=Lib.hid hb4;have X34:=Lib.hid (ht4.fresh ((Ext.refl w3).alloc _) (Nat.le_refl _));clear hb4 ht4;go_frame)
    have hT4:=HT2.out.ext (X23.out.trans X34.out)
    refine (ref_ext (A:=[.disk d D]) (B:=[]) hT4 fun M I hd=>rone17_any hd HR.out.run (Nat.le_trans HLV.out (by decide)) root p (by omega) (by omega)).mono ?_
    rintro e w5 ⟨C2,e2,rfl,h5⟩
    obtain ⟨hc1,hc2⟩:=one_shape h5.out.1
    have HD1:=Lib.hid (show (Tryz.prog.info? 45).map (·.size)=some C2.size from by rw [hc1];kernel_rfl)
    have HD2:=Lib.hid (show 27=C2.size from hc1.symm)
    have HD3:=Lib.hid hc2
    obtain ⟨hee,hsc⟩:=one_pair H3.out h5.out.1
    subst hee
    have X45:=Lib.hid h5.out.2
    have HSC:=Lib.hid (hsc.ext (X34.out.trans X45.out) (Ext.refl w5))
    clear h5 hc1 hc2 hsc hT4
    have HB5:=Lib.hid ((X45.out.block (ltB HB4.out)).trans HB4.out)
    have n0:(e1 != e1)=false:=by simp
    go_wp2_with (first
      | (refine wpList_storeT rfl _ _ _ rfl w5.heap.size C2 rfl rfl 45 _ (block_alloc_new w5 _) HD1.out HD2.out HD3.out ?_;intro w6 hb6 ht6;have HB6:=Lib.hid hb6;have X56:=Lib.hid (ht6.fresh ((Ext.refl w5).alloc _) (Nat.le_refl _));clear hb6 ht6;have HA6:=Lib.hid ((X56.out.block (ltB HB5.out)).trans HB5.out);go_frame)
      | (refine wpList_load_row_g ?_ 45 (.tmp 11) rfl w3.heap.size rfl 45 C1 (0,0) _ HA6.out Tryz.underlying45 rfl HC1.out ?_;(focus (simp [Region.wanted,yielded];done));go_frame)
      | (refine wpList_load_row_g ?_ 45 (.tmp 13) rfl w5.heap.size rfl 45 C2 (0,0) _ HB6.out Tryz.underlying45 rfl HD1.out ?_;(focus (simp [Region.wanted,yielded];done));go_frame))
    refine (whole_same (HSC.out.ext X56.out X56.out)).mono ?_
    rintro e w7 ⟨rfl,x67⟩
    have X47:=Lib.hid ((X45.out.trans X56.out).trans x67)
    have HX7:=Lib.hid ((HX3.out.trans X34.out).trans X47.out)
    have X27:=Lib.hid ((X23.out.trans X34.out).trans X47.out)
    clear x67 n0
    have hT7:=HT2.out.ext X27.out
    have HT7:=Lib.hid hT7
    have HRt:=Lib.hid (fun w8 (x:Ext w7 w8)=>ref_ext (A:=[.disk d D]) (B:=[]) (HT7.out.ext x) fun M I hd=>rroot17_any hd HR.out.run.ok root (by omega))
    have HNB:=Lib.hid (block_alloc_new w7 (.cells #[.slice none 0 0] 80 (0,0)))
    have XNB:=Lib.hid ((Ext.refl w7).alloc (.cells #[.slice none 0 0] 80 (0,0)))
    clear hT7
    go_wp2_with fail
    refine (HRt.out _ XNB.out).mono ?_
    rintro e w8 ⟨rfl,x8⟩
    have HNB8:=Lib.hid ((x8.block (ltB HNB.out)).trans HNB.out)
    have X78:=Lib.hid (XNB.out.trans x8)
    clear x8 HRt
    obtain ⟨Lf,hLf⟩:∃ L,L=eachL D root:=⟨_,rfl⟩
    have HLF:=Lib.hid hLf
    have HLn:=Lib.hid (show Lf.length≤16384 from by rw [hLf];exact Nat.le_trans (eachL_le D root) (Nat.le_trans HLV.out (by decide)))
    have HNd:=Lib.hid (fun (hre:rootE D.live root=0)=>ref_ext (A:=[.disk d D]) (B:=[]) (HT7.out.ext X78.out) fun M I hd=>rnodes17_any hd (Nat.le_trans HLV.out (by decide)) root (mayRoot hre) (mayB_size (mayRoot hre)) (fun x hx=>mayB_size (HR.out.run.ok.live.may x hx)))
    have hL1:rootE D.live root=0→inRoot root D.live=Lf:=fun hre=>by rw [hLf];unfold eachL;rw [if_pos hre]
    have hL0:rootE D.live root≠0→Lf=[]:=fun hre=>by rw [hLf];unfold eachL;rw [if_neg hre]
    have HL1:=Lib.hid hL1
    have HL0:=Lib.hid hL0
    obtain ⟨n,hn⟩:∃ n,n=Lf.length:=⟨_,rfl⟩
    have HN:=Lib.hid hn
    rw [←hn] at HLn
    clear hn hLf hL1 hL0
    obtain ⟨re,hre⟩:∃ re,re=rootE D.live root:=⟨_,rfl⟩
    rw [←hre] at HNd HL1 HL0 ⊢
    clear hre
    have hlt78:w7.heap.size<w8.heap.size:=ltB HNB8.out
    have hws:w.heap.size<w7.heap.size:=by have:=HX7.out.size;omega
    go_upto_if 63 with fail
    go_cut [] from 60 to 77 (fun wx=>LBox wx w7 Lf n n)
    case first =>
      by_cases hr0:re=0
      · have g63:decide (re=0)=true:=decide_eq_true hr0
        have HNe:=Lib.hid (HNd.out hr0)
        rw [HL1.out hr0,←HN.out] at HNe
        clear HNd HL1 HL0
        go_wp2_with fail
        refine HNe.out.mono ?_
        rintro e w9 ⟨v9,rfl,h9⟩
        obtain ⟨a15,c15,rfl,q1,q2,_,q4⟩:=row_cells h9.out.1
        have HC9:=Lib.hid (show ∀ k y,Lf[k]?=some y→∃ g,a15=some ⟨g,0,none⟩∧w8.heap.size≤g∧g<w9.heap.size∧w9.rangeAt g (k*5) (cells5 y) from fun k y hy=>by
          obtain ⟨g,e1,e2,e3,_⟩:=q4 (k*5+0) _ (rows5_get hy (by decide):_=(cells5 y)[0]?)
          refine ⟨g,e1,e2,e3,fun j u hj=>?_⟩
          have hj5:j<5:=(List.getElem?_eq_some_iff.1 hj).1
          obtain ⟨g2,e4,_,_,e5⟩:=q4 (k*5+j) u ((rows5_get hy hj5).trans hj)
          rw [e1] at e4
          cases e4
          exact e5)
        have HNB9:=Lib.hid ((h9.out.2.block (ltB HNB8.out)).trans HNB8.out)
        have X79:=Lib.hid (X78.out.trans h9.out.2)
        have hq1:n≤c15:=by omega
        clear h9 q4 HNe
        go_wp2_with (refine wpList_storeB rfl _ _ _ rfl w7.heap.size (.slice a15 n c15) (.slice none 0 0) rfl rfl (by kernel_rfl) rfl _ HNB9.out ?_;intro wq hbq htq;have HLB:=Lib.hid hbq;have HTQ:=Lib.hid htq;clear hbq htq;go_frame)
        go_meet
        case rel =>
          exact ⟨a15,c15,HLB.out,hq1,q2,HTQ.out.fresh X79.out (Nat.le_refl _),fun k y hy=>by
            obtain ⟨g,e1,e2,e3,e4⟩:=HC9.out k y hy
            exact ⟨g,e1,Nat.lt_of_lt_of_le e3 HTQ.out.size,by omega,fun j u hj=>(cellT HTQ.out (by omega) e3).trans (e4 j u hj)⟩⟩
      · have g63:decide (re=0)=false:=decide_eq_false hr0
        have hL:=HL0.out hr0
        have hn0:n=0:=by rw [HN.out,hL];rfl
        clear HNd HL1 HL0
        go_wp2_with fail
        go_meet
        case rel=>exact ⟨none,0,hn0▸HNB8.out,by omega,by decide,X78.out,fun k y hy=>by rw [hL] at hy;simp at hy⟩
    case rest =>
      have HLC:=Lib.hid hcut
      clear hcut HNd HL1 HL0 HNB8 X78
      obtain ⟨wA,rfl⟩:∃ x,x=wc:=⟨_,rfl⟩
      have hcase:steps<0∨(0≤steps∧steps<(n:Int))∨(0≤steps∧(n:Int)≤steps):=by omega
      obtain ⟨tb,htb⟩:∃ tb:Bool,(tb=true↔0≤steps∧steps<(n:Int)):=⟨decide (0≤steps∧steps<(n:Int)),by simp⟩
      have HTB:=Lib.hid htb
      have X7A:=Lib.hid (show Ext w7 wA from by obtain ⟨_,_,_,_,_,h,_⟩:=HLC.out;exact h)
      have HSB:=Lib.hid ((((HX7.out.trans X7A.out)).block (ltB HBs.out)).trans HBs.out)
      have f1:wA.cell? ⟨w.heap.size,0,none⟩=some (.int .i64 steps):=cellB HSB.out
      obtain ⟨a15,c15,h1,h2,h3,_,h5⟩:=HLC.out
      have HLB:=Lib.hid h1
      have HLr:=Lib.hid h5
      have f2:wA.cell? ⟨w7.heap.size,0,none⟩=some (.slice a15 n c15):=cellB h1
      clear h1 h5 htb
      go_upto_region 13 with fail
      go_cut [74] from 67 to 77 (fun s74 wx=>s74=.bool tb∧wx=wA)
      case first =>
        rcases hcase with hst | ⟨hst,hst2⟩ | ⟨hst,hst2⟩
        · have s1:decide ((0:Int)≤steps)=false:=by rw [decide_eq_false_iff_not];omega
          have htf:tb=false:=by cases tb with | false=>rfl | true=>exact absurd (HTB.out.1 rfl) (by omega)
          subst htf
          go_wp2_with fail
          go_meet
          case rel=>exact ⟨rfl,rfl⟩
        · have s1:decide ((0:Int)≤steps)=true:=by rw [decide_eq_true_eq];omega
          have s2:decide (steps<(n:Int))=true:=by rw [decide_eq_true_eq];omega
          have htf:tb=true:=HTB.out.2 ⟨hst,hst2⟩
          subst htf
          go_wp2_with fail
          go_meet
          case rel=>exact ⟨rfl,rfl⟩
        · have s1:decide ((0:Int)≤steps)=true:=by rw [decide_eq_true_eq];omega
          have s2:decide (steps<(n:Int))=false:=by rw [decide_eq_false_iff_not];omega
          have htf:tb=false:=by cases tb with | false=>rfl | true=>exact absurd (HTB.out.1 rfl) (by omega)
          subst htf
          go_wp2_with fail
          go_meet
          case rel=>exact ⟨rfl,rfl⟩
      case rest =>
        obtain ⟨rfl,rfl⟩:=hcut
        go_upto_if 74 with fail
        go_cut [] from 75 to 77 (fun wx=>Hid (∃ m:Nat,LBox wx w7 Lf n m∧m≤n∧(m<n→steps=(m:Int))))
        case first =>
          cases tb with
          | false =>
            have hnt:¬ (0≤steps∧steps<(n:Int)):=fun h=>by have:=HTB.out.2 h;cases this
            go_wp2_with fail
            go_meet
            case rel=>exact ⟨n,HLC.out,Nat.le_refl _,fun h=>absurd h (by omega)⟩
          | true =>
            obtain ⟨hst,hst2⟩:=HTB.out.1 rfl
            obtain ⟨sN,hsN⟩:∃ sN:Nat,sN=steps.toNat:=⟨_,rfl⟩
            have s4:steps.toNat=sN:=hsN.symm
            have hsn:sN<n:=by omega
            have s3:steps≤(c15:Int):=by omega
            have hSN:=Lib.hid (show steps=(sN:Int) from by omega)
            obtain ⟨y0,hy0⟩:∃ y,Lf[0]?=some y:=⟨_,List.getElem?_eq_getElem (by have:=HN.out;omega)⟩
            obtain ⟨g0,rfl,_⟩:=HLr.out 0 y0 hy0
            clear hy0 hsN
            go_wp2_with (refine wpList_storeB rfl _ _ _ rfl w7.heap.size (.slice (some ⟨g0,0,none⟩) sN c15) (.slice (some ⟨g0,0,none⟩) n c15) rfl rfl (by kernel_rfl) rfl _ HLB.out ?_;intro wq hbq htq;have HLQ:=Lib.hid hbq;have HTQ:=Lib.hid htq;clear hbq htq;go_frame)
            go_meet
            case rel =>
              exact ⟨sN,⟨_,c15,HLQ.out,h2,h3,HTQ.out.fresh X7A.out (Nat.le_refl _),fun k y hy=>by
                obtain ⟨g,e1,e2,e3,e4⟩:=HLr.out k y hy
                exact ⟨g,e1,Nat.lt_of_lt_of_le e2 HTQ.out.size,e3,fun j u hj=>(cellT HTQ.out e3 e2).trans (e4 j u hj)⟩⟩,Nat.le_of_lt hsn,fun _=>hSN.out⟩
        case rest =>
          obtain ⟨m,hLB,hmn,hms⟩:=hcut.out
          have HLM:=Lib.hid hLB
          have HMS:=Lib.hid hms
          clear hcut hLB hms HLC HLB HLr f1 f2 HSB X7A HTB hcase
          obtain ⟨wB,rfl⟩:∃ x,x=wc:=⟨_,rfl⟩
          obtain ⟨aL,cL,hb1,hb2,hb3,hb4,hb5⟩:=HLM.out
          have HLB:=Lib.hid hb1
          have X7B:=Lib.hid hb4
          have HRW:=Lib.hid hb5
          have HXB:=Lib.hid (HX7.out.trans hb4)
          have HSB:=Lib.hid ((HXB.out.block (ltB HBs.out)).trans HBs.out)
          have hltB:=ltB HLB.out
          clear hb1 hb4 hb5 HLM
          have HM0:=Lib.hid (block_alloc_new wB (.cells #[.int .i64 0] 3 (0,0)))
          go_wp2_with fail
          refine (each_any (some ⟨d,0,none⟩) root _).mono ?_
          rintro e wF ⟨rfl,hwF⟩
          have XF:=Lib.hid (show Ext wB wF from by rw [hwF];exact (((Ext.refl wB).alloc _).alloc _).alloc _)
          have HBd:=Lib.hid (show wF.heap[wB.heap.size+1]?=some (.cells #[.pointer (some ⟨d,0,none⟩)] 26 (0,0)) from by
            rw [hwF]
            have h1:=block_alloc_new (wB.alloc (.cells #[.int .i64 0] 3 (0,0))) (.cells #[.pointer (some ⟨d,0,none⟩)] 26 (0,0))
            rw [size_alloc] at h1
            exact (block_alloc_old (by simp only [size_alloc];omega)).trans h1)
          have HBr:=Lib.hid (show wF.heap[wB.heap.size+1+1]?=some (.cells #[.string root] 9 (0,0)) from by
            rw [hwF]
            have h1:=block_alloc_new ((wB.alloc (.cells #[.int .i64 0] 3 (0,0))).alloc (.cells #[.pointer (some ⟨d,0,none⟩)] 26 (0,0))) (.cells #[.string root] 9 (0,0))
            rw [size_alloc,size_alloc] at h1
            exact h1)
          have HBn:=Lib.hid (show wF.heap[wB.heap.size]?=some (.cells #[.int .i64 0] 3 (0,0)) from by
            rw [hwF]
            exact (block_alloc_old (by simp only [size_alloc];omega)).trans ((block_alloc_old (by simp only [size_alloc];omega)).trans HM0.out))
          have hsF:wF.heap.size=wB.heap.size+3:=by rw [hwF];simp only [size_alloc]
          clear hwF
          have hxr:=Lib.hid (X27.out.trans X7B.out)
          obtain ⟨M,I,hdk,_⟩:=Things.opened (A:=[]) (B:=[.ref r D]) (HT2.out.ext hxr.out)
          have HDK:=Lib.hid hdk
          clear hdk
          go_wp2_with fail
          refine (wpIn_wide (n:=4)).1 ?_
          refine wpIn_rangeFunc_ownH rfl (by decide) (gf:=79) (lb:=#[.pointer (some ⟨wB.heap.size+1,0,none⟩),.pointer (some ⟨wB.heap.size+1+1,0,none⟩)]) rfl trivial (enters_of Tryz.func79 (by kernel_rfl) rfl)
            (each_stops 3 (by decide) (wb:=wB) (w0:=wF) (K:=fun _=>[wB.heap.size]) (n0:=wB.heap.size+1) (D:=D) root (HE0.out.ext HXB.out) XF.out (fun _ _ _=>rfl) (by omega) (fun b hb=>?kl) (HDK.out.ext XF.out) HR.out.run (HR.out.run.fit (by decide)) (fun b hb hm=>?ki) (cellB HBd.out) (cellB HBr.out) (by simp;omega) (by omega))
            KpK.trans (fun W l o o' hl ho h1 h2=>KpK.turn (n0:=wB.heap.size+1) (fun _ _ _=>rfl) W l o o' (by omega) (by omega) ho h1 h2) (Below.refl _ _) (fun _=>rfl)
            (fun pre W=>Hid (Ext wB W∧W.heap[wB.heap.size]?=some (.cells #[.int .i64 (pre.length:Nat)] 3 (0,0))∧pre.length≤m))
            (fun c pre W=>Hid ((c=.exit 0∧Ext wB W∧W.heap[wB.heap.size]?=some (.cells #[.int .i64 (m:Nat)] 3 (0,0)))∨(c=.ret∧∃ p0 x,pre=p0++[x]∧(p0.length=n∨∃ y,Lf[p0.length]?=some y∧clipW x≠y)))) ?own ?ownx ⟨XF.out,HBn.out,Nat.zero_le _⟩
            (fun x a' W=>Hid (∃ bn,W.heap[bn]?=some (.cells (cellsN (clipW x).2) 84 (0,0))∧a'={ tmps:=#[.slice va l.length vc,.string root,.string p,.int .i64 steps,undef,undef,undef,.pointer (some ⟨w.heap.size,0,none⟩),.pointer (some ⟨w.heap.size+1,0,none⟩),.pointer (some ⟨d,0,none⟩),.pointer (some ⟨r,0,none⟩),.pointer (some ⟨w3.heap.size,0,none⟩),.int .i64 e1,.pointer (some ⟨w5.heap.size,0,none⟩),.int .i64 e1,.pointer (some ⟨w7.heap.size,0,none⟩),.pointer (some ⟨wB.heap.size,0,none⟩),.string (clipW x).1,.pointer (some ⟨bn,0,none⟩),.slice va l.length vc,.bool false,.bool false,.string root,.int .i64 root.size,.string p,.int .i64 p.size,.int .i64 (root.size+p.size),.bool false,.bool false,undef,.tuple #[.pointer (some ⟨d,0,none⟩),.pointer (some ⟨r,0,none⟩)],.slice va l.length vc,.tuple #[.pointer (some ⟨d,0,none⟩),.pointer (some ⟨r,0,none⟩)],.pointer (some ⟨d,0,none⟩),.pointer (some ⟨r,0,none⟩),.pointer (some ⟨d,0,none⟩),.bool false,.tuple #[.agg C1,.int .i64 e1],.pointer (some ⟨d,0,none⟩),.string root,.string p,.tuple #[.agg C1,.int .i64 e1],.agg C1,.int .i64 e1,.tuple #[.agg C2,.int .i64 e1],.pointer (some ⟨r,0,none⟩),.string root,.string p,.tuple #[.agg C2,.int .i64 e1],.agg C2,.int .i64 e1,.int .i64 e1,.int .i64 e1,.bool false,.bool false,.agg C1,.agg C2,.bool true,.bool false,.bool false,u60,u61,u62,u63,u64,u65,u66,u67,u68,u69,u70,u71,u72,u73,.bool tb,u75,u76,u77,.pointer (some ⟨d,0,none⟩),.string root,.func (.func 79) #[] #[.pointer (some ⟨wB.heap.size+1,0,none⟩),.pointer (some ⟨wB.heap.size+1+1,0,none⟩)],.string (clipW x).1,nv (clipW x).2,undef,undef,undef,undef,undef,undef,undef,undef,undef,undef,undef,undef,undef,undef,undef,undef,undef,undef,undef,undef,undef,undef,undef,undef,undef,undef,undef,undef,undef,undef,undef,undef],defers:=[] })) ?ax ?assign ?body ?done ?stop
          case kl =>
            simp only [List.mem_cons,List.not_mem_nil,or_false] at hb
            omega
          case ki =>
            simp only [List.mem_cons,List.not_mem_nil,or_false] at hm
            have:=HDK.out.lt.2 b hb
            omega
          case own =>
            rintro pre W W' row ⟨hx,hn,hm⟩ hg hr
            exact ⟨hx.grown hg hx.size fun k e=>by have:=(hr k e).1;omega,(hg.block _ (ltB hn) fun e=>by
              obtain ⟨_,o,ho,hc⟩:=hr _ e.symm
              rw [hn] at ho
              cases ho
              cases hc).trans hn,hm⟩
          case ownx =>
            rintro c pre W W' row (⟨hc,hx,hn⟩ | h) hg hr
            · exact .inl ⟨hc,hx.grown hg hx.size fun k e=>by have:=(hr k e).1;omega,(hg.block _ (ltB hn) fun e=>by
                obtain ⟨_,o,ho,hc⟩:=hr _ e.symm
                rw [hn] at ho
                cases ho
                cases hc).trans hn⟩
            · exact .inr h
          case ax =>
            rintro x a' _ W W' row ⟨bn,h2,h3⟩ hg hr
            exact ⟨bn,(hg.block _ (ltB h2) fun e=>by
              obtain ⟨_,o,ho,hc⟩:=hr _ e.symm
              rw [h2] at ho
              cases ho
              cases hc).trans h2,h3⟩
          case stop =>
            rintro Dd c pre W hDd ⟨q,hq⟩ (⟨rfl,hx,hn⟩ | ⟨_,p0,x,rfl,hbad⟩) hKd
            · have HXn:=Lib.hid hx
              have HNn:=Lib.hid hn
              have HKd:=Lib.hid hKd
              clear hx hn hKd hq
              refine wpIn_wide.2 ?_
              have HBW:=Lib.hid ((((HXB.out.trans HXn.out)).block (ltB HB0.out)).trans HB0.out)
              have HLW:=Lib.hid ((HXn.out.block (ltB HLB.out)).trans HLB.out)
              have b16:W.cell? ⟨wB.heap.size,0,none⟩=some (.int .i64 (m:Nat)):=cellB HNn.out
              have b15:W.cell? ⟨w7.heap.size,0,none⟩=some (.slice aL m cL):=cellB HLW.out
              go_wp2_with fail
              refine (HAw.out _ (HXB.out.trans HXn.out)).mono ?_
              rintro e wG ⟨rfl,xG⟩
              have HXG2:=Lib.hid (HXn.out.trans xG)
              have HBG:=Lib.hid (((HXB.out.trans HXG2.out).block (ltB HB0.out)).trans HB0.out)
              have HKG:=Lib.hid ((xG.block (ltB HKd.out)).trans HKd.out)
              clear xG b16 b15
              go_wp2_with (refine wpList_storeB rfl _ _ _ rfl (w.heap.size+1) (.bool true) (.bool false) rfl rfl (by kernel_rfl) rfl _ HBG.out ?_;intro w9 hb9 ht9;have HB9:=Lib.hid hb9;have HT9:=Lib.hid ht9;clear hb9 ht9;go_frame)
              have hDne:Dd≠w.heap.size+1:=by have:=XF.out.size;have:=HXB.out.size;omega
              have hK9:w9.heap[Dd]?=some (.deferred (some [])):=(HT9.out.block Dd (ltB HKG.out) (fun e=>hDne (Option.some.inj e))).trans HKG.out
              have hB10:(w9.putObj Dd (.deferred none)).heap[w.heap.size+1]?=some (.cells #[.bool true] 4 (0,0)):=(World.putObj_heap_other (fun e=>hDne e.symm)).trans HB9.out
              refine ⟨by simp,.inl ⟨_,_,rfl,run_takeDeferred hK9,?_⟩⟩
              have x9:=HT9.out.fresh (HX0.out.trans (HXB.out.trans HXG2.out)) (Nat.le_succ _)
              exact ⟨_,results_bool rfl _ _ _ _ _ _ rfl hB10,rfl,x9.grown (grownBy_putObj' w9 Dd _) x9.size fun k e=>by
                have:=Option.some.inj e
                have:=XF.out.size
                have:=HXB.out.size
                omega⟩
            · exfalso
              rw [←HLF.out] at hq
              rcases hbad with h1 | ⟨y,h1,h2⟩
              · have h3:=HN.out
                rw [←hq,List.length_append,List.length_append,List.length_cons] at h3
                omega
              · rw [←hq] at h1
                simp at h1
                subst h1
                exact h2 (clip_mem HR.out.run (by rw [←HLF.out,←hq];simp))
          case assign =>
            rintro l pre x W K ⟨hx,hn,hm⟩ hK
            have HK:=Lib.hid hK
            have HXn:=Lib.hid hx
            have HNn:=Lib.hid hn
            have hsW:=hx.size
            clear hK hx hn
            unfold encW
            gi_wp2_with (refine wpListIn_storeT rfl _ _ _ rfl W.heap.size (cellsN (clipW x).2) rfl rfl 84 _ (block_alloc_new W _) (by rw [show (cellsN (clipW x).2).size=4 from rfl];kernel_rfl) rfl (by simp [cellsN,Value.oneCell']) ?_;intro w9 hb9 ht9;have HB9:=Lib.hid hb9;have X9:=Lib.hid (ht9.fresh ((Ext.refl W).alloc _) (Nat.le_refl _));clear hb9 ht9;go_frame)
            exact HK.out _ _ ((ko_ext X9.out).from _) (KpK.ext (n0:=0) (fun _ _ _=>rfl) X9.out (Nat.zero_le _) (by omega)) ⟨HXn.out.trans X9.out,(X9.out.block (ltB HNn.out)).trans HNn.out,hm⟩ ⟨_,HB9.out,rfl⟩
          case body =>
            rintro lr pre x a' W hl hlr ⟨hx,hn,hm⟩ ⟨bn,hbn,rfl⟩ hlen
            have HXn:=Lib.hid hx
            have HNn:=Lib.hid hn
            have HBN:=Lib.hid hbn
            have HLW:=Lib.hid ((hx.block (ltB HLB.out)).trans HLB.out)
            have HSW:=Lib.hid ((hx.block (ltB HSB.out)).trans HSB.out)
            have HBW:=Lib.hid (((HXB.out.trans hx).block (ltB HB0.out)).trans HB0.out)
            have b16:W.cell? ⟨wB.heap.size,0,none⟩=some (.int .i64 (pre.length:Nat)):=cellB hn
            have b15:W.cell? ⟨w7.heap.size,0,none⟩=some (.slice aL m cL):=cellB HLW.out
            have b7:W.cell? ⟨w.heap.size,0,none⟩=some (.int .i64 steps):=cellB HSW.out
            obtain ⟨k,hk⟩:∃ k,k=pre.length:=⟨_,rfl⟩
            have HKP:=Lib.hid hk
            rw [←hk] at b16 hm
            have hsxB:=HXB.out.size
            clear hx hn hbn hk
            by_cases hkm:k=m
            · by_cases hst:steps=(m:Int)
              · have HI:=Lib.hid (show W.heap[wB.heap.size]?=some (.cells #[.int .i64 (m:Nat)] 3 (0,0)) from by rw [HNn.out,←HKP.out,hkm])
                subst hkm
                subst hst
                gi_wp2
                exact ⟨KeepsFrom.refl _ _,.inl ⟨rfl,HXn.out,HI.out⟩⟩
              · have t2:decide ((m:Int)=steps)=false:=by rw [decide_eq_false_iff_not];exact fun e=>hst e.symm
                have t3:((m:Int)==steps)=false:=by rw [beq_eq_false_iff_ne];exact fun e=>hst e.symm
                have hmn2:m=n:=by rcases Nat.lt_or_ge m n with h | h;exact absurd (HMS.out h) hst;omega
                subst hkm
                gi_wp2_with (refine wpListIn_storeB rfl _ _ _ rfl (w.heap.size+1) (.bool false) (.bool false) rfl rfl (by kernel_rfl) rfl _ HBW.out ?_;intro w9 hb9 ht9;have HT9:=Lib.hid ht9;clear hb9 ht9;go_frame)
                exact ⟨KeepsFrom.touch HT9.out (by omega),.inr ⟨rfl,pre,x,rfl,.inl (HKP.out▸hmn2)⟩⟩
            · have t1:decide ((k:Int)=(m:Int))=false:=by rw [decide_eq_false_iff_not];omega
              have t3:((k:Int)==(m:Int))=false:=by rw [beq_eq_false_iff_ne];omega
              have hklt:k<m:=by omega
              obtain ⟨y,hy⟩:∃ y,Lf[k]?=some y:=⟨_,List.getElem?_eq_getElem (by have:=HN.out;omega)⟩
              obtain ⟨g,rfl,hg1,hg2,hg3⟩:=HRW.out k y hy
              have HY:=Lib.hid (show Lf[pre.length]?=some y from HKP.out▸hy)
              have hg0:g<wB.heap.size:=hg1
              have f15:∀ z:After W,z.v.cell? ⟨w7.heap.size,0,none⟩=some (.slice (some ⟨g,0,none⟩) m cL):=fun z=>After.at HLW.out z
              have f16:∀ z:After W,z.v.cell? ⟨wB.heap.size,0,none⟩=some (.int .i64 (k:Nat)):=fun z=>After.at (HKP.out▸HNn.out) z
              have fq:∀ z:After W,z.v.cell? ⟨g,k*5,none⟩=some (.string y.1):=fun z=>((HXn.out.trans z.x).cell hg1).trans (hg3 0 _ rfl)
              have HFN:=Lib.hid (show ∀ z:After W,z.v.rangeAt g (k*5+1) (cellsN y.2).toList from fun z j u hj=>((HXn.out.trans z.x).cell hg1).trans (by have:=hg3 (j+1) u hj;rwa [show k*5+(j+1)=k*5+1+j from by omega] at this))
              have HFB:=Lib.hid (show ∀ z:After W,z.v.rangeAt bn 0 (cellsN (clipW x).2).toList from fun z j u hj=>((z.x.cell (ltB HBN.out)).trans (cellB HBN.out)).trans (by simpa using hj))
              clear hg3 hy
              by_cases hp:(clipW x).1=y.1
              · have hpe:((clipW x).1.toList==y.1.toList)=true:=by rw [beq_iff_eq,hp]
                by_cases hnd:(clipW x).2=y.2
                · have he:∀ w',(Go.Op.equalIn 10000 84 (.agg (cellsN (clipW x).2)) (.agg (cellsN y.2))).run Tryz.prog w'=.ok true w':=fun w'=>by rw [eq_node,decide_eq_true hnd]
                  clear hnd
                  gi_wp2
                  refine wpIn_region_quietR (C:=fun w'=>∃ z:After W,w'=z.v) (by kernel_rfl) (by kernel_rfl) (by kernel_rfl) ⟨⟨_,(Ext.refl _).drew⟩,rfl⟩ ?_
                  dsimp only
                  repeat (first
                    | gi_big_quiet_step (fail)
                    | (refine wpQuietIn_load_ag (by simp [Region.wanted,yielded]) 84 (.tmp 18) rfl bn 0 rfl (cellsN (clipW x).2) _ (fun w' hw'=>by obtain ⟨z,rfl⟩:=hw';exact HFB.out z) Tryz.underlying84 rfl (by rw [show (cellsN (clipW x).2).size=4 from rfl];kernel_rfl) ?_;go_frame)
                    | (refine wpQuietIn_load_ag (by simp [Region.wanted,yielded]) 84 (.tmp 102) rfl g (k*5+1) rfl (cellsN y.2) _ (fun w' hw'=>by obtain ⟨z,rfl⟩:=hw';exact HFN.out z) Tryz.underlying84 rfl (by rw [show (cellsN y.2).size=4 from rfl];kernel_rfl) ?_;go_frame))
                  refine wpQuietIn_nil ?_
                  rintro _ ⟨z,rfl⟩
                  have HNz:=Lib.hid ((z.x.block (ltB HNn.out)).trans HNn.out)
                  have n0:z.v.cell? ⟨wB.heap.size,0,none⟩=some (.int .i64 (k:Nat)):=f16 z
                  rw [←HKP.out] at HNz
                  have hzs:=z.x.size
                  have hxs:=HXn.out.size
                  gi_wp2_with (refine wpListIn_storeB rfl _ _ _ rfl wB.heap.size (.int .i64 ((k:Nat)+1)) (.int .i64 (k:Nat)) rfl rfl (by kernel_rfl) rfl _ HNz.out ?_;intro w9 hb9 ht9;have HB9:=Lib.hid hb9;have HT9:=Lib.hid ht9;clear hb9 ht9;go_frame)
                  refine ⟨((ko_ext z.x).from _).trans (KeepsFrom.touch HT9.out (by omega)),(KpK.ext (n0:=0) (fun _ _ _=>rfl) z.x (Nat.zero_le _) (by omega)).trans (KpK.touch HT9.out (Nat.le_refl _) (by omega)),⟨HT9.out.fresh (HXn.out.trans z.x) (Nat.le_refl _),?_,?_⟩⟩
                  · rw [HB9.out,List.length_append,←HKP.out]
                    rfl
                  · rw [List.length_append,←HKP.out]
                    exact hklt
                · have he:∀ w',(Go.Op.equalIn 10000 84 (.agg (cellsN (clipW x).2)) (.agg (cellsN y.2))).run Tryz.prog w'=.ok false w':=fun w'=>by rw [eq_node,decide_eq_false hnd]
                  gi_wp2
                  refine wpIn_region_quietR (C:=fun w'=>∃ z:After W,w'=z.v) (by kernel_rfl) (by kernel_rfl) (by kernel_rfl) ⟨⟨_,(Ext.refl _).drew⟩,rfl⟩ ?_
                  dsimp only
                  repeat (first
                    | gi_big_quiet_step (fail)
                    | (refine wpQuietIn_load_ag (by simp [Region.wanted,yielded]) 84 (.tmp 18) rfl bn 0 rfl (cellsN (clipW x).2) _ (fun w' hw'=>by obtain ⟨z,rfl⟩:=hw';exact HFB.out z) Tryz.underlying84 rfl (by rw [show (cellsN (clipW x).2).size=4 from rfl];kernel_rfl) ?_;go_frame)
                    | (refine wpQuietIn_load_ag (by simp [Region.wanted,yielded]) 84 (.tmp 102) rfl g (k*5+1) rfl (cellsN y.2) _ (fun w' hw'=>by obtain ⟨z,rfl⟩:=hw';exact HFN.out z) Tryz.underlying84 rfl (by rw [show (cellsN y.2).size=4 from rfl];kernel_rfl) ?_;go_frame))
                  refine wpQuietIn_nil ?_
                  rintro _ ⟨z,rfl⟩
                  have HBz:=Lib.hid ((z.x.block (ltB HBW.out)).trans HBW.out)
                  gi_wp2_with (refine wpListIn_storeB rfl _ _ _ rfl (w.heap.size+1) (.bool false) (.bool false) rfl rfl (by kernel_rfl) rfl _ HBz.out ?_;intro w9 hb9 ht9;have HT9:=Lib.hid ht9;clear hb9 ht9;go_frame)
                  exact ⟨((ko_ext z.x).from _).trans (KeepsFrom.touch HT9.out (by omega)),.inr ⟨rfl,pre,x,rfl,.inr ⟨y,HY.out,fun e=>hnd (by rw [e])⟩⟩⟩
              · have hpe:((clipW x).1.toList==y.1.toList)=false:=by rw [beq_eq_false_iff_ne];exact fun e=>hp (ba_ext e)
                gi_wp2
                refine wpIn_region_quietR (C:=fun w'=>∃ z:After W,w'=z.v) (by kernel_rfl) (by kernel_rfl) (by kernel_rfl) ⟨⟨_,(Ext.refl _).drew⟩,rfl⟩ ?_
                dsimp only
                repeat gi_big_quiet_step (fail)
                refine wpQuietIn_nil ?_
                rintro _ ⟨z,rfl⟩
                have HBz:=Lib.hid ((z.x.block (ltB HBW.out)).trans HBW.out)
                gi_wp2_with (refine wpListIn_storeB rfl _ _ _ rfl (w.heap.size+1) (.bool false) (.bool false) rfl rfl (by kernel_rfl) rfl _ HBz.out ?_;intro w9 hb9 ht9;have HT9:=Lib.hid ht9;clear hb9 ht9;go_frame)
                exact ⟨((ko_ext z.x).from _).trans (KeepsFrom.touch HT9.out (by omega)),.inr ⟨rfl,pre,x,rfl,.inr ⟨y,HY.out,fun e=>hp (by rw [e])⟩⟩⟩
          case done =>
            rintro Dd xs W hDd rfl ⟨hx,hn,hm⟩ hKd
            rw [←HLF.out,←HN.out] at hn hm
            obtain rfl:m=n:=by omega
            have HXn:=Lib.hid hx
            have HNn:=Lib.hid hn
            have HKd:=Lib.hid hKd
            clear hx hn hKd
            have HBW:=Lib.hid ((((HXB.out.trans HXn.out)).block (ltB HB0.out)).trans HB0.out)
            have HLW:=Lib.hid ((HXn.out.block (ltB HLB.out)).trans HLB.out)
            have b16:W.cell? ⟨wB.heap.size,0,none⟩=some (.int .i64 (m:Nat)):=cellB HNn.out
            have b15:W.cell? ⟨w7.heap.size,0,none⟩=some (.slice aL m cL):=cellB HLW.out
            go_wp2_with fail
            refine (HAw.out _ (HXB.out.trans HXn.out)).mono ?_
            rintro e wG ⟨rfl,xG⟩
            have HXG2:=Lib.hid (HXn.out.trans xG)
            have HBG:=Lib.hid (((HXB.out.trans HXG2.out).block (ltB HB0.out)).trans HB0.out)
            have HKG:=Lib.hid ((xG.block (ltB HKd.out)).trans HKd.out)
            clear xG b16 b15
            go_wp2_with (refine wpList_storeB rfl _ _ _ rfl (w.heap.size+1) (.bool true) (.bool false) rfl rfl (by kernel_rfl) rfl _ HBG.out ?_;intro w9 hb9 ht9;have HB9:=Lib.hid hb9;have HT9:=Lib.hid ht9;clear hb9 ht9;go_frame)
            have hDne:Dd≠w.heap.size+1:=by have:=XF.out.size;have:=HXB.out.size;omega
            have hK9:w9.heap[Dd]?=some (.deferred (some [])):=(HT9.out.block Dd (ltB HKG.out) (fun e=>hDne (Option.some.inj e))).trans HKG.out
            have hB10:(w9.putObj Dd (.deferred none)).heap[w.heap.size+1]?=some (.cells #[.bool true] 4 (0,0)):=(World.putObj_heap_other (fun e=>hDne e.symm)).trans HB9.out
            refine ⟨by simp,.inl ⟨_,_,rfl,run_takeDeferred hK9,?_⟩⟩
            have x9:=HT9.out.fresh (HX0.out.trans (HXB.out.trans HXG2.out)) (Nat.le_succ _)
            exact ⟨_,results_bool rfl _ _ _ _ _ _ rfl hB10,rfl,x9.grown (grownBy_putObj' w9 Dd _) x9.size fun k e=>by
              have:=Option.some.inj e
              have:=XF.out.size
              have:=HXB.out.size
              omega⟩

-- BEGUN
set_option maxRecDepth 100000 in
theorem begun {H:Type} {enc:TypeId×Value→H} (W:World) (args:Array Value) (ds:List (DataW H)) (p:List MemPlace) (st:Start enc Rows.walkItemsRow.laid Tryz.f7 W args ds p) :
    Calls Tryz.prog 7 args W fun e W'=>e=.returned (.bool true)∧Below W.heap.size W W':=by
  obtain ⟨⟨base,hval⟩,hA,hfit,hl,hsh⟩:=st
  rw [Tryz.params7] at hA hval hfit
  obtain ⟨v0,v1,v2,v3,d0,d1,d2,d3,p0,p1,p2,p3,rfl,rfl,rfl,h0,h1,h2,h3⟩:=trodAll_four hA
  have hfit:((DataW.weightsEach Tryz.prog [22,9,9,3] [d0,d1,d2,d3]).all (·≤reachBytes))=true:=hfit
  simp only [DataW.weightsEach,List.append_nil,List.all_append,Bool.and_eq_true] at hfit
  obtain ⟨l,hl2⟩:=open_puts (hval 0 22 v0 rfl rfl) h0 hfit.1
  obtain ⟨b,rfl,hb⟩:=open_root (hval 1 9 v1 rfl rfl) h1 hfit.2.1
  obtain ⟨q,rfl,hq⟩:=open_root (hval 2 9 v2 rfl rfl) h2 hfit.2.2.1
  obtain ⟨n,rfl,rfl,rfl,hn⟩:=open_int (show Tryz.prog.underlying 3=some (.int .i64) by kernel_rfl) (hval 3 3 v3 rfl rfl) h3
  obtain ⟨n0,n1⟩:IntKind.i64.min≤n∧n≤IntKind.i64.max:=by
    unfold Lit.wf at hn
    rw [Bool.and_eq_true,decide_eq_true_eq,decide_eq_true_eq] at hn
    exact hn
  exact walk v0 b q n l W hl2 hb hq n0 n1 (env_of hsh) (sha_of hl 1 2 rfl rfl)

set_option maxRecDepth 100000 in
theorem said:Rows.WalkItemsSaid :=
  OpenClaim.holds_of_wide 7 Tryz.f7 rfl rfl rfl rfl rfl rfl rfl ⟨rfl,rfl,rfl,rfl,rfl⟩ rfl rfl rfl rfl rfl named Tryz.func7 facts
    (of_decide_eq_true (by kernel_rfl)) (by unfold Func.isWrapper;first | (rw [if_pos (by decide +kernel)];kernel_rfl) | (rw [if_neg (by decide +kernel)];exact ⟨rfl,rfl⟩))
    (fun os started H enc _=>lifted Rows.walkItemsRow.laid (by kernel_rfl) 7 Tryz.f7 Tryz.func7 Rows.walkItemsSpec rfl (by kernel_rfl) (by kernel_rfl)
      (by rw [Tryz.params7]
          have hall:([22,9,9,3].all fun t=>Tryz.prog.readableRec t&&decide (t<Tryz.prog.types.size))=true:=by kernel_rfl
          intro t ht
          have:=List.all_eq_true.1 hall t ht
          simpa using this)
      (by intro H ts ds h hl;rw [Tryz.params7] at h;subst h
          match ds,hl with
          | [d1,d2,d3,d4],_=>rfl)
      Rows.walkItemsRow.domain os started H enc #[.slice none 0 0,.string ⟨#[]⟩,.string ⟨#[]⟩,.int .i64 0] (by kernel_rfl) (by kernel_rfl) (by kernel_rfl)
      (World.shaped_of_ZipB (by kernel_rfl) (by kernel_rfl)) (laidMet_laidAll _ (by kernel_rfl) (by kernel_rfl))
      begun)

theorem card:Rows.WalkItemsCardSaid :=
  Claim7.holds_tied_plain_at .later [] Rows.walkItemsCard.laidKinds true Rows.walkItemsCard.stood.harness Rows.walkItemsCard.stood.looks said (fun _ h=>by cases h) card1 (fun _ h=>by cases h) walkItems_row_tie rfl ⟨rfl,rfl⟩ card2 rfl
    (fun f fn hf hfn=>by
      obtain rfl:f=7:=Option.some.inj (named.symm.trans hf) |>.symm
      obtain rfl:fn=Tryz.f7:=(Option.some.inj (Tryz.func7.symm.trans hfn)).symm
      exact ⟨card3,fun j t ht=>by
        rw [Tryz.params7] at ht
        have hm:t∈[22,9,9,3]:=by simpa using Array.mem_of_getElem? ht
        have hall:=card4
        exact (show Tryz.pinned.checked.prog.wantsStandIn t=false by simpa using List.all_eq_true.1 hall t hm)⟩)
    card5
#print axioms card
end Go.Proofs.YtodickpibbbiiaaGreatDoor.lawWalkItems
