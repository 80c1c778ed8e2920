import Derived.Test.YtodickpibbbiiaaGreatDoorWkF1
import Derived.Test.YtodickpibbbiiaaGreatDoorWkC3
import Derived.Test.YtodickpibbbiiaaGreatDoorWkB1
import Derived.Test.YtodickpibbbiiaaGreatDoorWkA1
import Derived.Test.YtodickpibbbiiaaGreatDoorShelf
import Derived.Laws.AppendOwnNone
import Derived.Deep.RegionHeldLaw
open Go.Proofs.Tryz
namespace Go.Proofs.YtodickpibbbiiaaGreatDoor
section
open Go.RowKit Go.Shelf
attribute [local go_sem] Oper.semAt_some
def FoundC (base:Nat) (w:World) (s:WSt) (C:Array Value):Prop :=
 ∃ (vs:Nat->Value) (us:List Value),C=#[vs 0,vs 1,vs 2,vs 3]/\(∀ j,j<4->w.ownsRow base (rowOf s us j).1 (rowOf s us j).2.1 (vs j) (rowOf s us j).2.2.1 (rowOf s us j).2.2.2)/\us.length=s.items.length/\∀ (k:Nat) x u,s.items[k]?=some x->us[k]?=some u->HashU w base [] x u
def found0:Array Value:=#[.slice none 0 0,.slice none 0 0,.slice none 0 0,.slice none 0 0]
theorem FoundC.nothing (base:Nat) (w:World):FoundC base w wst0 found0 :=
 ⟨fun _=>.slice none 0 0,[],rfl,fun j hj=>by
  match j,hj with
  | 0,_=>exact World.ownsRow_nil _ _ _ _
  | 1,_=>exact World.ownsRow_nil _ _ _ _
  | 2,_=>exact World.ownsRow_nil _ _ _ _
  | 3,_=>exact World.ownsRow_nil _ _ _ _,rfl,fun k x u h=>by simp [wst0] at h⟩
theorem elRec:ElemK prog 34 45 (.agg rec0) 27 184:=⟨by kernel_rfl,by kernel_rfl,rfl,by decide,by decide⟩
theorem elText:ElemK prog 35 9 (.string ⟨#[]⟩) 1 16:=⟨by kernel_rfl,by kernel_rfl,rfl,by decide,by decide⟩
theorem inRoot_mem2 {r:ByteArray} {l:Nodes} {y:ByteArray×Nd} (h:y∈inRoot r l):∃ x∈l,withinB x.1 r=true/\y=(relS r x.1,x.2):=by
 unfold inRoot at h;rw [List.mem_map] at h;obtain ⟨x,h1,h2⟩:=h;exact ⟨x,(List.mem_filter.1 h1).1,(List.mem_filter.1 h1).2,h2.symm⟩
theorem clip_each {m:Nat} {D:Dk} (R:DkRun m D) (r:ByteArray):(eachL D r).map clipW=eachL D r:=by
 have key:∀ x∈eachL D r,clipW x=x:=fun x hx=>by
  unfold eachL at hx;split at hx
  ·obtain ⟨y,hy,_,rfl⟩:=inRoot_mem2 hx;refine clipW_eq ?_ ?_
   ·have:=mayB_size (R.ok.live.may y hy)
    show (relS r y.1).size<=160
    unfold relS;simp;omega
   ·have h1:=mem_used hy;have h2:=R.ok.live.used;have h3:=R.ok.r2;have h4:64+y.2.data.size<=usedL D.live:=h1
    show y.2.data.size<=1048576
    omega
  ·cases hx
 exact (List.map_congr_left key).trans (List.map_id _)
theorem eachL_le (D:Dk) (r:ByteArray):(eachL D r).length<=D.live.length:=by
 unfold eachL;split
 ·unfold inRoot;rw [List.length_map];exact List.length_filter_le _ _
 ·simp
set_option maxRecDepth 100000 in
set_option maxHeartbeats 4000000 in
theorem walk_any {w:World} {d m:Nat} {M I:List Nat} {D:Dk} (h:DkAt w d M I D) (R:DkRun m D) (O:DkFit D) (E:Env w) (T:ShaTabs w) (root:ByteArray) (hr:root.size<=100000) (lv:Option Addr) (ig:ByteArray->Bool)
  (HL:∀ (w':World) (p:ByteArray),Ext w w'->p.size<=160->Calls prog 70 #[.pointer lv,.string p] w' fun e w''=>∃ b,e=.returned (.tuple #[.bool (ig p),.bool b])/\Ext w' w'') :
  Calls prog 17 #[.pointer (some ⟨d,0,none⟩),.string root,.pointer lv] w fun e w'=>∃ C,e=.returned (.tuple #[.agg C,.int .i64 (rootE D.live root)])/\Hid (FoundC w.heap.size w' (walkS ig (eachL D root)) C/\Ext w w'):=by
 have HX2:=lh (((Ext.refl w).alloc (.cells #[.pointer lv] 30 (0,0))).alloc (.cells found0 37 (0,0)));have HZ0:=lh ((block_alloc_old (o:=.cells found0 37 (0,0)) (by simp only [size_alloc];omega)).trans (block_alloc_new w (.cells #[.pointer lv] 30 (0,0))));have HZ1:=lh (block_alloc_new (w.alloc (.cells #[.pointer lv] 30 (0,0))) (.cells found0 37 (0,0)));simp only [size_alloc] at HZ1;have HRt:=lh (rooted_any (h.ext HX2.out) O.ok (E.ext HX2.out) root (by omega));have HA1:=lh (show (prog.info? 37).map (·.size)=some found0.size from by kernel_rfl);have HA3:=lh (show found0.all (·.oneCell')=true from by kernel_rfl);unfold found0 at HX2 HZ0 HZ1 HRt;refine callsIn_wide.1 (callsIn_of_wp_marks (n:=4) func17 rfl trivial ?_ rfl);simp only [ntmps17,List.size_toArray,List.length_cons,List.length_nil,Nat.reduceAdd,Nat.reduceSub,Array.replicate_succ,Array.replicate_zero,List.push_toArray,List.append_toArray,List.nil_append,List.cons_append];by_cases hroot:rootE D.live root=0
 ·rw [hroot] at HRt;gi_wp2;refine ⟨trivial,(callsIn_wide.2 HRt.out).mono ?_⟩;rintro e w3 ⟨rfl,x3⟩;gi_wp2;refine ⟨trivial,(callsIn_wide.2 (each_any (some ⟨d,0,none⟩) root _)).mono ?_⟩;rintro e w5 ⟨rfl,hw5⟩;have HB9:=lh (show (w3.alloc (.cells #[.string ⟨#[]⟩] 9 (0,0))).heap[w3.heap.size]?=some (.cells #[.string ⟨#[]⟩] 9 (0,0)) from block_alloc_new _ _);have HW5:=lh hw5;have HB6:=lh ((x3.block (ltB HZ1.out)).trans HZ1.out);have HB5:=lh ((x3.block (ltB HZ0.out)).trans HZ0.out);have X3:=lh (HX2.out.trans x3);have hlt6:w.heap.size+1<w3.heap.size:=ltB HB6.out;have X5:=lh (show Ext w3 w5 from by rw [hw5];exact (((Ext.refl w3).alloc _).alloc _).alloc _)
  have hd:=lh (show w5.heap[w3.heap.size+1]?=some (.cells #[.pointer (some ⟨d,0,none⟩)] 26 (0,0)) from by
   rw [hw5];have h1:=block_alloc_new (w3.alloc (.cells #[.string ⟨#[]⟩] 9 (0,0))) (.cells #[.pointer (some ⟨d,0,none⟩)] 26 (0,0));rw [size_alloc] at h1
   exact (block_alloc_old (by simp only [size_alloc];omega)).trans h1)
  have hrb:=lh (show w5.heap[w3.heap.size+1+1]?=some (.cells #[.string root] 9 (0,0)) from by
   rw [hw5];have h1:=block_alloc_new ((w3.alloc (.cells #[.string ⟨#[]⟩] 9 (0,0))).alloc (.cells #[.pointer (some ⟨d,0,none⟩)] 26 (0,0))) (.cells #[.string root] 9 (0,0));rw [size_alloc,size_alloc] at h1
   exact h1)
  have hb9:=lh (show w5.heap[w3.heap.size]?=some (.cells #[.string ⟨#[]⟩] 9 (0,0)) from by
   rw [hw5]
   exact (block_alloc_old (by simp only [size_alloc];omega)).trans ((block_alloc_old (by simp only [size_alloc];omega)).trans HB9.out))
  have hb6:=lh ((X5.out.block (ltB HB6.out)).trans HB6.out);have hb5:=lh ((X5.out.block (ltB HB5.out)).trans HB5.out);have hs5:w3.heap.size+3=w5.heap.size:=by rw [hw5];simp only [size_alloc]
  have XX:=lh (X3.out.trans X5.out);clear hw5
  have hF0:FoundIn (w3.heap.size+1) (w.heap.size+1) w3.heap.size wst0 w5 (fun _=>.slice none 0 0) []:=by
   refine ⟨hb6.out,hb9.out,fun j hj=>?_,fun i j _ _ _ b hb=>by simp [Value.ownBlock] at hb,rfl,fun k x u hx=>by simp [wst0] at hx,fun k u hu=>by simp at hu,by omega,by omega,by omega⟩
   match j,hj with
   | 0,_=>exact World.ownsRow_nil _ _ _ _
   | 1,_=>exact World.ownsRow_nil _ _ _ _
   | 2,_=>exact World.ownsRow_nil _ _ _ _
   | 3,_=>exact World.ownsRow_nil _ _ _ _
  have hK5:walkK (w.heap.size+1) w3.heap.size w5=[w.heap.size+1,w3.heap.size]:=by rw [hF0.k];rfl
  have hDlt:=h.lt;gi_wp2
  refine wpIn_rangeFunc_ownH rfl (by decide) (gf:=79) (lb:=#[.pointer (some ⟨w3.heap.size+1,0,none⟩),.pointer (some ⟨w3.heap.size+1+1,0,none⟩)]) rfl trivial (enters_of func79 (by kernel_rfl) rfl)
   (each_stops 3 (by decide) (wb:=w) (w0:=w5) (K:=walkK (w.heap.size+1) w3.heap.size) (n0:=w3.heap.size+1) (D:=D) root E XX.out (walkK_reads (by omega)) (by omega) (fun b hb=>?kl) (h.ext XX.out) R O (fun b hb hm=>?ki) (cellB hd.out) (cellB hrb.out) (by rw [hK5];simp;omega) (by omega))
   KpK.trans (fun W l o o' hl ho h1 h2=>KpK.turn (walkK_reads (n0:=w3.heap.size+1) (by omega)) W l o o' (by omega) (by have:=XX.out.size;omega) ho h1 h2) (Below.refl _ _) (fun _=>rfl)
   (fun pre W=>∃ vs us,Hid (FoundIn (w3.heap.size+1) (w.heap.size+1) w3.heap.size (walkS ig (pre.map clipW)) W vs us/\Ext w W/\W.heap[w.heap.size]?=some (.cells #[.pointer lv] 30 (0,0)))) (fun _ _ _=>False) ?own (fun c s W W' row hs _ _=>hs.elim) ⟨_,_,hF0,XX.out,hb5.out⟩
   (fun x a' W=>∃ g,Hid (w3.heap.size+1<=g/\W.heap[g]?=some (.cells #[.int .i64 (clipW x).2.kind,.string (clipW x).2.data,.string (clipW x).2.target,.int .i64 (clipW x).2.time] 84 (0,0)))/\a'={ tmps:=#[.pointer (some ⟨d,0,none⟩),.string root,.pointer lv,undef,undef,.pointer (some ⟨w.heap.size,0,none⟩),.pointer (some ⟨w.heap.size+1,0,none⟩),.int .i64 0,.int .i64 0,.pointer (some ⟨w3.heap.size,0,none⟩),.string (clipW x).1,.pointer (some ⟨g,0,none⟩),undef,undef,undef,undef,.pointer (some ⟨d,0,none⟩),.string root,.int .i64 0,.int .i64 0,.bool false,undef,undef,.pointer (some ⟨d,0,none⟩),.string root,.func (.func 79) #[] #[.pointer (some ⟨w3.heap.size+1,0,none⟩),.pointer (some ⟨w3.heap.size+1+1,0,none⟩)],.string (clipW x).1,nv (clipW x).2,undef,undef,undef,undef,undef,undef,undef,undef,undef,undef,undef,undef,undef,undef,undef,undef,undef,undef,undef,undef,undef,undef,undef,undef,undef,undef,undef,undef,undef,undef,undef,undef,undef,undef,undef,undef,undef,undef,undef,undef,undef,undef,undef,undef,undef,undef,undef,undef,undef,undef,undef,undef,undef],defers:=[] }) ?ax ?assign ?body ?done (fun D c pre W _ _ hs _=>hs.elim)
  case kl =>
   rw [hK5] at hb;simp only [List.mem_cons,List.not_mem_nil,or_false] at hb;omega
  case ki =>
   rw [hK5] at hm;simp only [List.mem_cons,List.not_mem_nil,or_false] at hm;have:=hDlt.2 b hb;omega
  case own=>exact FoundIn.own (fun pre:Nodes=>walkS ig (pre.map clipW)) XX.out.size
  case ax =>
   rintro x a' _ W W' row ⟨g,⟨h1,h2⟩,h3⟩ hg hr;refine ⟨g,⟨h1,(hg.block g (ltB h2) fun e=>?_).trans h2⟩,h3⟩;obtain ⟨_,o,ho,hn⟩:=hr g e.symm;rw [h2] at ho
   cases ho
   cases hn
  case assign =>
   rintro l pre x W K ⟨vs,us,hF,hx,h5⟩ hK;have hK:=lh hK;have hF:=lh hF;have h5:=lh h5;have hx:=lh hx;unfold encW;generalize clipW x=y at *;obtain ⟨yp,yk,yd,yt,ym⟩:=y;unfold nv at *;dsimp only at *;gi_wp2;have x1:Ext W (W.alloc (.cells #[.int .i64 yk,.string yd,.string yt,.int .i64 ym] 84 (0,0))):=(Ext.refl W).alloc _;have r1:Rnd (w.heap.size+1) w3.heap.size w.heap.size W _:=Rnd.ext x1 (ltB hF.out.blk) hx.out.size;exact hK.out _ _ (r1.ko.from _) r1.kp ⟨vs,us,hF.out.ext x1,hx.out.trans x1,(x1.block (ltB h5.out)).trans h5.out⟩ ⟨W.heap.size,⟨ltB hF.out.over,block_alloc_new _ _⟩,rfl⟩
  case body =>
   rintro l pre x a' W hl hlr ⟨vs,us,hF,hx,h5⟩ ⟨g,⟨hg,hbg⟩,rfl⟩ hlen;have hF:=lh hF;have h5:=lh h5;have hx:=lh hx;have hbg:=lh hbg;obtain ⟨hp160,hd20⟩:=clipW_le x;have HN:=lh (show walkS ig ((pre++[x]).map clipW)=stepW ig (walkS ig (pre.map clipW)) (clipW x) from by rw [List.map_append];exact walkS_snoc _ _ _);have hl6:(eachL D root).length<=16384:=Nat.le_trans (eachL_le D root) (live_few R);have hsov:(walkS ig (pre.map clipW)).over.size<=160:=walkS_over ig _ (fun z hz=>by obtain ⟨q,_,rfl⟩:=List.mem_map.1 hz;exact (clipW_le q).1);have htot:(walkS ig (pre.map clipW)).total<16384:=Nat.lt_of_lt_of_le (Nat.lt_of_le_of_lt (walkS_total ig _) (by rw [List.length_map];exact hlen)) hl6;generalize clipW x=y at *;obtain ⟨yp,yk,yd,yt,ym⟩:=y;unfold nv at *;dsimp only at *;generalize walkS ig (List.map clipW pre)=s at *;have c9:W.cell? ⟨w3.heap.size,0,none⟩=some (.string s.over):=cellB hF.out.over;have f9:W.frozen? ⟨w3.heap.size,0,none⟩=false:=frozenB hF.out.over
   cases ho:s.over.toList.isEmpty
   case' true =>
    have hoe:s.over=⟨#[]⟩:=ba_ext ((List.isEmpty_iff.1 ho).trans (by rw [Lib.toList_data]));rw [hoe] at c9;gi_wp2;refine ⟨trivial,?_⟩;have hsk:(!s.over.toList.isEmpty&&withinB yp s.over)=false:=by rw [ho];rfl
    obtain ⟨W1,hW1⟩:∃ W1,W1=W:=⟨_,rfl⟩;have y1:=lh (show Ext W W1 from hW1▸Ext.refl W);rw [<-hW1];clear hW1 c9 f9
   case' false =>
    have hne:decide (s.over=⟨#[]⟩)=false:=decide_eq_false fun e=>by
     rw [e,Lib.toList_data] at ho
     cases ho
    have HW9:=lh (within_any yp s.over W (by omega) (by have:=hsov;omega) (E.ext hx.out))
    cases hw:withinB yp s.over
    case true =>
     rw [hw] at HW9;gi_wp2;refine ⟨trivial,(CallsIn.inRound l (callsIn_wide.2 HW9.out)).mono ?_⟩;rintro e W1 ⟨rfl,y1⟩;gi_wp2;have hR1:=Rnd.ext (b9:=w3.heap.size) (nb:=w.heap.size) y1 (ltB hF.out.blk) hx.out.size
     have hfin:FoundIn (w3.heap.size+1) (w.heap.size+1) w3.heap.size (walkS ig (List.map clipW (pre++[x]))) W1 vs us:=by
      rw [HN.out,stepW_skip (ig:=ig) (s:=s) (x:=(yp,⟨yk,yd,yt,ym⟩)) (by rw [ho,hw];rfl)];exact hF.out.ext y1
     exact ⟨hR1.ko.from _,hR1.kp,⟨_,_,⟨hfin,hx.out.trans y1,(y1.block (ltB h5.out)).trans h5.out⟩⟩⟩
    case' false =>
     rw [hw] at HW9;have hsk:(!s.over.toList.isEmpty&&withinB yp s.over)=false:=by rw [ho,hw];rfl
     gi_wp2;refine ⟨trivial,(CallsIn.inRound l (callsIn_wide.2 HW9.out)).mono ?_⟩;rintro e W1 ⟨rfl,hy1⟩;have y1:=lh hy1;clear hy1 c9 f9 HW9
   all_goals
    have hsk:=lh hsk;have hF1:=lh (hF.out.ext y1.out);have hR1:=lh (Rnd.ext (b9:=w3.heap.size) (nb:=w.heap.size) y1.out (ltB hF.out.blk) hx.out.size);have h51:=lh ((y1.out.block (ltB h5.out)).trans h5.out);have hg1:=lh ((y1.out.block (ltB hbg.out)).trans hbg.out);have hx1:=lh (hx.out.trans y1.out);have hF0W:=hF;have h50:=h5;have hx0:=hx;clear hF h5 hbg y1 hx;gi_wp2_with (refine wpListIn_store1 rfl _ _ _ rfl w3.heap.size 0 (.string yp) rfl rfl (by kernel_rfl) rfl _ _ hF1.out.over Nat.zero_lt_one ?_;intro W2 hw2;have HFR:=lh (hF1.out.setOver (nb:=w.heap.size) yp (by omega));rw [<-hw2] at HFR;have hg2:=lh (show W2.heap[g]?=_ from (hw2▸setCellO (by omega)).trans hg1.out);have h52:=lh (HFR.out.2.keep hF1.out h51.out (by omega) (by omega) (by omega));have c5:W2.cell? ⟨w.heap.size,0,none⟩=some (.pointer lv):=cellB h52.out;have n0:W2.cell? ⟨g,0,none⟩=some (.int .i64 yk):=cellB hg2.out;have n1:W2.cell? ⟨g,1,none⟩=some (.string yd):=cellB hg2.out;have n2:W2.cell? ⟨g,2,none⟩=some (.string yt):=cellB hg2.out;have n3:W2.cell? ⟨g,3,none⟩=some (.int .i64 ym):=cellB hg2.out;clear hw2;go_frame);have hR2:=lh (hR1.out.trans HFR.out.2);have hx2:=lh (show Ext w W2 from Below.trans hx1.out HFR.out.2.kp.low);have hF2:=lh HFR.out.1;clear HFR hF1 hR1 h51 hg1 hx1 n0 n1 n2 n3 c5;refine ⟨trivial,(CallsIn.inRound l (callsIn_wide.2 (HL W2 yp hx2.out hp160))).mono ?_⟩;rintro e W3 ⟨del,rfl,y3⟩;have hg3:=(y3.block (ltB hg2.out)).trans hg2.out;have n0:W3.cell? ⟨g,0,none⟩=some (.int .i64 yk):=cellB hg3;have n1:W3.cell? ⟨g,1,none⟩=some (.string yd):=cellB hg3;have n2:W3.cell? ⟨g,2,none⟩=some (.string yt):=cellB hg3;have n3:W3.cell? ⟨g,3,none⟩=some (.int .i64 ym):=cellB hg3;clear hg3;gi_wp2;refine ⟨trivial,(CallsIn.inRound l (callsIn_wide.2 (item_any yp ⟨yk,yd,yt,ym⟩ W3 (T.ext (hx2.out.trans y3)) hd20))).mono ?_⟩;rintro e W4 ⟨C,er,rfl,h4⟩;clear n0 n1 n2 n3;obtain ⟨hs1,hs2⟩:=item_shape h4.out.1;have HC1:=lh (show (prog.info? 45).map (·.size)=some C.size from by rw [hs1];kernel_rfl);have HC2:=lh (show 27=C.size from hs1.symm);have HC3:=lh hs2;clear hs1 hs2;gi_wp2_with (refine wpListIn_storeT rfl _ _ _ rfl W4.heap.size C rfl rfl 45 _ (block_alloc_new W4 _) HC1.out HC2.out HC3.out ?_;intro W5 hb5 ht5;have HB5:=lh hb5;have HX5:=lh (ht5.fresh ((Ext.refl W4).alloc _) (Nat.le_refl _));clear hb5 ht5;go_frame);refine ⟨trivial,(CallsIn.inRound l (callsIn_wide.2 (isTemp_any yp W5 (by omega)))).mono ?_⟩;rintro e W6 ⟨rfl,hdr⟩;obtain ⟨nd,hdr⟩:=hdr;have y6:=lh (show Ext W5 W6 from hdr▸(Ext.refl W5).drewN nd);clear hdr;have HB6:=lh ((y6.out.block (ltB HB5.out)).trans HB5.out);have y26:=lh (((y3.trans h4.out.2).trans HX5.out).trans y6.out);have hF6:=lh (hF2.out.ext y26.out);have hR6:=lh (hR2.out.trans (Rnd.ext y26.out (ltB hF2.out.blk) hx2.out.size))
    cases htp:isTempB yp with
    | true =>
     have hrw:=lh (hF6.out.row 1 (by decide));obtain ⟨ra,rc,hre⟩:=rowk_shape hrw.out;have HRE:=lh hre;have c6:W6.cell? ⟨w.heap.size+1,1,none⟩=some (.slice ra s.temps.length rc):=(cellB hF6.out.blk).trans (by rw [<-show vs 1=.slice ra s.temps.length rc from hre];rfl);have HOW:=lh (show W6.ownsRow (w3.heap.size+1) 9 1 (.slice ra s.temps.length rc) s.temps.length (s.temps.map Value.string) from (show vs 1=.slice ra s.temps.length rc from hre)▸hrw.out);have hln:s.temps.length<=16384:=Nat.le_trans (rowOf_le s us 1 (by decide)) (Nat.le_of_lt htot);have h61:w3.heap.size+1<=W6.heap.size:=ltB hF6.out.over;clear hre hrw
     gi_wp2_with (first
      | (refine wpListIn_append_k elText (w3.heap.size+1) (.slice ra s.temps.length rc) s.temps.length (s.temps.map Value.string) (owns_ext HOW.out ((Ext.refl _).alloc _)) W6.heap.size [.string yp] rfl (.tmp 58) (.tmp 60) rfl rfl rfl rfl (fun j u hj=>(cellB (block_alloc_new W6 _)).trans (by simpa using hj)) (by simp [Value.oneCell']) (by omega) (by simp only [size_alloc];omega) ?_;intro v8 W8 ho8 hg8 hv8;obtain ⟨va,vc,hve⟩:=rowk_shape ho8;rw [hve] at ho8 hv8;rw [hve];have HO8:=lh ho8;have HG8:=lh hg8;have HV8:=lh hv8;clear ho8 hg8 hv8 hve;go_frame)
      | (refine wpListIn_store1 rfl _ _ _ rfl (w.heap.size+1) 1 (.slice va (s.temps.length+1) vc) rfl rfl (by kernel_rfl) rfl #[vs 0,vs 1,vs 2,vs 3] 37 ((HG8.out.block (w.heap.size+1) (ltB (hF6.out.ext ((Ext.refl _).alloc _)).blk) (fun e=>by have h1:=(hF6.out.below 1 (by decide) (w.heap.size+1) (by rw [show vs 1=_ from HRE.out];exact e.symm)).1;omega)).trans (hF6.out.ext ((Ext.refl _).alloc _)).blk) (by show 1<4;decide) ?_;intro W9 hw9;have HW9:=lh hw9;clear hw9;go_frame))
     have hg8:=HG8.out;have hv8:=HV8.out;rw [show Value.slice ra s.temps.length rc=vs 1 from HRE.out.symm] at hg8 hv8;have hF7:=hF6.out.ext ((Ext.refl W6).alloc (.cells #[.string yp] 9 (0,0)));have hF9:=hF7.addText (j:=1) (by decide) (by decide) yp HO8.out hg8 hv8;have hR9:=(hR6.out.trans (Rnd.ext ((Ext.refl W6).alloc (.cells #[.string yp] 9 (0,0))) (ltB hF6.out.blk) (Nat.le_trans hx2.out.size y26.out.size))).trans (hF7.addR (nb:=w.heap.size) (j:=1) (by decide) hg8 hv8 (by omega) (by omega));rw [<-HW9.out] at hF9 hR9
     have hfin:FoundIn (w3.heap.size+1) (w.heap.size+1) w3.heap.size (walkS ig (List.map clipW (pre++[x]))) W9 (fun i=>if i=1 then .slice va (s.temps.length+1) vc else vs i) us:=by
      rw [HN.out,stepW_temp (ig:=ig) (s:=s) (x:=(yp,⟨yk,yd,yt,ym⟩)) hsk.out htp];exact hF9
     have hext:=Below.trans hx0.out hR9.kp.low;have hkp5:=hR9.keep hF0W.out h50.out (by omega) (by omega) (by omega);exact ⟨hR9.ko.from _,hR9.kp,⟨_,us,⟨hfin,hext,hkp5⟩⟩⟩
    | false =>
     cases hig:ig yp with
     | true =>
      have hrw:=lh (hF6.out.row 2 (by decide));obtain ⟨ra,rc,hre⟩:=rowk_shape hrw.out;have HRE:=lh hre;have c6:W6.cell? ⟨w.heap.size+1,2,none⟩=some (.slice ra s.ign.length rc):=(cellB hF6.out.blk).trans (by rw [<-show vs 2=.slice ra s.ign.length rc from hre];rfl);have HOW:=lh (show W6.ownsRow (w3.heap.size+1) 9 1 (.slice ra s.ign.length rc) s.ign.length (s.ign.map Value.string) from (show vs 2=.slice ra s.ign.length rc from hre)▸hrw.out);have hln:s.ign.length<=16384:=Nat.le_trans (rowOf_le s us 2 (by decide)) (Nat.le_of_lt htot);have h61:w3.heap.size+1<=W6.heap.size:=ltB hF6.out.over;clear hre hrw
      gi_wp2_with (first
       | (refine wpListIn_append_k elText (w3.heap.size+1) (.slice ra s.ign.length rc) s.ign.length (s.ign.map Value.string) (owns_ext HOW.out ((Ext.refl _).alloc _)) W6.heap.size [.string yp] rfl (.tmp 66) (.tmp 68) rfl rfl rfl rfl (fun j u hj=>(cellB (block_alloc_new W6 _)).trans (by simpa using hj)) (by simp [Value.oneCell']) (by omega) (by simp only [size_alloc];omega) ?_;intro v8 W8 ho8 hg8 hv8;obtain ⟨va,vc,hve⟩:=rowk_shape ho8;rw [hve] at ho8 hv8;rw [hve];have HO8:=lh ho8;have HG8:=lh hg8;have HV8:=lh hv8;clear ho8 hg8 hv8 hve;go_frame)
       | (refine wpListIn_store1 rfl _ _ _ rfl (w.heap.size+1) 2 (.slice va (s.ign.length+1) vc) rfl rfl (by kernel_rfl) rfl #[vs 0,vs 1,vs 2,vs 3] 37 ((HG8.out.block (w.heap.size+1) (ltB (hF6.out.ext ((Ext.refl _).alloc _)).blk) (fun e=>by have h1:=(hF6.out.below 2 (by decide) (w.heap.size+1) (by rw [show vs 2=_ from HRE.out];exact e.symm)).1;omega)).trans (hF6.out.ext ((Ext.refl _).alloc _)).blk) (by show 2<4;decide) ?_;intro W9 hw9;have HW9:=lh hw9;clear hw9;go_frame))
      have hg8:=HG8.out;have hv8:=HV8.out;rw [show Value.slice ra s.ign.length rc=vs 2 from HRE.out.symm] at hg8 hv8;have hF7:=hF6.out.ext ((Ext.refl W6).alloc (.cells #[.string yp] 9 (0,0)));have hF9:=hF7.addText (j:=2) (by decide) (by decide) yp HO8.out hg8 hv8;have hR9:=(hR6.out.trans (Rnd.ext ((Ext.refl W6).alloc (.cells #[.string yp] 9 (0,0))) (ltB hF6.out.blk) (Nat.le_trans hx2.out.size y26.out.size))).trans (hF7.addR (nb:=w.heap.size) (j:=2) (by decide) hg8 hv8 (by omega) (by omega));rw [<-HW9.out] at hF9 hR9
      have hfin:FoundIn (w3.heap.size+1) (w.heap.size+1) w3.heap.size (walkS ig (List.map clipW (pre++[x]))) W9 (fun i=>if i=2 then .slice va (s.ign.length+1) vc else vs i) us:=by
       rw [HN.out,stepW_ign (ig:=ig) (s:=s) (x:=(yp,⟨yk,yd,yt,ym⟩)) hsk.out htp hig];exact hF9
      have hext:=Below.trans hx0.out hR9.kp.low;have hkp5:=hR9.keep hF0W.out h50.out (by omega) (by omega) (by omega);exact ⟨hR9.ko.from _,hR9.kp,⟨_,us,⟨hfin,hext,hkp5⟩⟩⟩
     | false =>
      rcases h4.out.1 with ⟨hk,hC,he⟩ | ⟨hk,h46,he,u,hC,hu⟩ | ⟨hk,h46,he,hC⟩
      ·have hrw:=lh (hF6.out.row 0 (by decide));obtain ⟨ra,rc,hre⟩:=rowk_shape hrw.out;have HRE:=lh hre;have c6:W6.cell? ⟨w.heap.size+1,0,none⟩=some (.slice ra s.items.length rc):=(cellB hF6.out.blk).trans (by rw [<-show vs 0=.slice ra s.items.length rc from hre];rfl);have HOW:=lh (show W6.ownsRow (w3.heap.size+1) 45 27 (.slice ra s.items.length rc) s.items.length (rowsU s.items us) from (show vs 0=.slice ra s.items.length rc from hre)▸hrw.out);have hln:s.items.length<=16384:=Nat.le_trans (rowOf_le s us 0 (by decide)) (Nat.le_of_lt htot);have h61:w3.heap.size+1<=W6.heap.size:=ltB hF6.out.over;have hbd:badN ⟨yk,yd,yt,ym⟩=false:=by unfold badN;rw [decide_eq_false hk];rfl
       clear hre hrw;subst hC he;unfold itemC at *;dsimp only at *;have X7:=lh ((Ext.refl W6).alloc (.cells #[.string yp,.int .i64 yk,.bool false,.int .i64 (0),.int .i64 ym,.int .i64 0,.int .u32 0,.int .u32 0,.int .u32 0,.int .u32 0,.int .u32 0,.int .u32 0,.int .u32 0,.int .u32 0,.int .u32 0,.int .u32 0,.int .u32 0,.int .u32 0,.int .u32 0,.int .u32 0,.int .u32 0,.int .u32 0,.int .i64 (0),.slice none 0 0,.string yt,.int .i64 0,.int .i64 0] 45 (0,0)));have HF7:=lh (hF6.out.ext X7.out);have HU:=lh (show HashU (W6.alloc (.cells #[.string yp,.int .i64 yk,.bool false,.int .i64 (0),.int .i64 ym,.int .i64 0,.int .u32 0,.int .u32 0,.int .u32 0,.int .u32 0,.int .u32 0,.int .u32 0,.int .u32 0,.int .u32 0,.int .u32 0,.int .u32 0,.int .u32 0,.int .u32 0,.int .u32 0,.int .u32 0,.int .u32 0,.int .u32 0,.int .i64 (0),.slice none 0 0,.string yt,.int .i64 0,.int .i64 0] 45 (0,0))) (w3.heap.size+1) [] (yp,⟨yk,yd,yt,ym⟩) (.slice none 0 0) from .inl ⟨hk,rfl⟩);have HUN:=lh (show ∀ b,(.slice none 0 0:Value).ownBlock=some b->∀ i,i<4->(vs i).ownBlock≠some b from fun b hb=>by simp [Value.ownBlock] at hb);have HIU:=lh (show itemU (yp,⟨yk,yd,yt,ym⟩) (.slice none 0 0)=[.string yp,.int .i64 yk,.bool false,.int .i64 (0),.int .i64 ym,.int .i64 0,.int .u32 0,.int .u32 0,.int .u32 0,.int .u32 0,.int .u32 0,.int .u32 0,.int .u32 0,.int .u32 0,.int .u32 0,.int .u32 0,.int .u32 0,.int .u32 0,.int .u32 0,.int .u32 0,.int .u32 0,.int .u32 0,.int .i64 (0),.slice none 0 0,.string yt,.int .i64 0,.int .i64 0] from by unfold itemU;rw [if_neg hk];rfl)
       gi_wp2_with (first
        | (refine wpListIn_load_row rfl 45 (.tmp 14) rfl W4.heap.size rfl 45 _ (0,0) _ HB6.out underlying45 rfl HC1.out ?_;go_frame)
        | (refine wpListIn_append_k elRec (w3.heap.size+1) (.slice ra s.items.length rc) s.items.length (rowsU s.items us) (owns_ext HOW.out X7.out) W6.heap.size [.string yp,.int .i64 yk,.bool false,.int .i64 (0),.int .i64 ym,.int .i64 0,.int .u32 0,.int .u32 0,.int .u32 0,.int .u32 0,.int .u32 0,.int .u32 0,.int .u32 0,.int .u32 0,.int .u32 0,.int .u32 0,.int .u32 0,.int .u32 0,.int .u32 0,.int .u32 0,.int .u32 0,.int .u32 0,.int .i64 (0),.slice none 0 0,.string yt,.int .i64 0,.int .i64 0] rfl (.tmp 49) (.tmp 51) rfl rfl rfl rfl (fun j u hj=>(cellB (block_alloc_new W6 _)).trans (by simpa using hj)) (by simp [Value.oneCell']) (by omega) (by simp only [size_alloc];omega) ?_;intro v8 W8 ho8 hg8 hv8;obtain ⟨va,vc,hve⟩:=rowk_shape ho8;rw [hve] at ho8 hv8;rw [hve];have HO8:=lh ho8;have HG8:=lh hg8;have HV8:=lh hv8;clear ho8 hg8 hv8 hve;go_frame)
        | (refine wpListIn_store1 rfl _ _ _ rfl (w.heap.size+1) 0 (.slice va (s.items.length+1) vc) rfl rfl (by kernel_rfl) rfl #[vs 0,vs 1,vs 2,vs 3] 37 ((HG8.out.block (w.heap.size+1) (ltB HF7.out.blk) (fun e=>by have h1:=(hF6.out.below 0 (by decide) (w.heap.size+1) (by rw [show vs 0=_ from HRE.out];exact e.symm)).1;omega)).trans HF7.out.blk) (by show 0<4;decide) ?_;intro W9 hw9;have hg8:=HG8.out;have hv8:=HV8.out;rw [show Value.slice ra s.items.length rc=vs 0 from HRE.out.symm] at hg8 hv8;have ho8:=HO8.out;rw [<-HIU.out] at ho8;have hF9:=HF7.out.addItem (yp,⟨yk,yd,yt,ym⟩) ho8 hg8 hv8 HU.out HUN.out;have hR9:=HF7.out.addR (nb:=w.heap.size) (j:=0) (by decide) hg8 hv8 (by omega) (by omega);rw [<-hw9] at hF9 hR9;have HF9:=lh hF9;have HR9:=lh hR9;clear hw9 hg8 hv8 ho8 hF9 hR9;go_frame)
        | (refine wpListIn_store1 rfl _ _ _ rfl w3.heap.size 0 (.string ⟨#[]⟩) rfl rfl (by kernel_rfl) rfl _ _ HF9.out.over Nat.zero_lt_one ?_;intro W10 hw10;have HW10:=lh hw10;clear hw10;go_frame))
       have hF10:=HF9.out.setOver (nb:=w.heap.size) ⟨#[]⟩ (by omega);rw [<-HW10.out] at hF10;have hR10:=((hR6.out.trans (Rnd.ext X7.out (ltB hF6.out.blk) (Nat.le_trans hx2.out.size y26.out.size))).trans HR9.out).trans hF10.2
       have hfin:FoundIn (w3.heap.size+1) (w.heap.size+1) w3.heap.size (walkS ig (List.map clipW (pre++[x]))) W10 (fun i=>if i=0 then .slice va (s.items.length+1) vc else vs i) (us++[.slice none 0 0]):=by
        rw [HN.out,stepW_item (ig:=ig) (s:=s) (x:=(yp,⟨yk,yd,yt,ym⟩)) hsk.out htp hig hbd];exact hF10.1
       have hext:=Below.trans hx0.out hR10.kp.low;have hkp5:=hR10.keep hF0W.out h50.out (by omega) (by omega) (by omega);exact ⟨hR10.ko.from _,hR10.kp,⟨_,_,⟨hfin,hext,hkp5⟩⟩⟩
      ·obtain ⟨ua,uc,rfl⟩:=rowk_shape hu;have hk1:yk=1:=hk;clear hk;subst hk1;have hrw:=lh (hF6.out.row 0 (by decide));obtain ⟨ra,rc,hre⟩:=rowk_shape hrw.out;have HRE:=lh hre;have c6:W6.cell? ⟨w.heap.size+1,0,none⟩=some (.slice ra s.items.length rc):=(cellB hF6.out.blk).trans (by rw [<-show vs 0=.slice ra s.items.length rc from hre];rfl);have HOW:=lh (show W6.ownsRow (w3.heap.size+1) 45 27 (.slice ra s.items.length rc) s.items.length (rowsU s.items us) from (show vs 0=.slice ra s.items.length rc from hre)▸hrw.out);have hln:s.items.length<=16384:=Nat.le_trans (rowOf_le s us 0 (by decide)) (Nat.le_of_lt htot);have h61:w3.heap.size+1<=W6.heap.size:=ltB hF6.out.over;have hbd:badN ⟨1,yd,yt,ym⟩=false:=by unfold badN;rw [decide_eq_false (show ¬ 4096<yd.size from Nat.not_lt.2 h46)];simp
       clear hre hrw;subst hC he;unfold itemC at *;dsimp only at *;have X7:=lh ((Ext.refl W6).alloc (.cells #[.string yp,.int .i64 1,.bool false,.int .i64 ((yd.size:Nat)),.int .i64 ym,.int .i64 0,.int .u32 0,.int .u32 0,.int .u32 0,.int .u32 0,.int .u32 0,.int .u32 0,.int .u32 0,.int .u32 0,.int .u32 0,.int .u32 0,.int .u32 0,.int .u32 0,.int .u32 0,.int .u32 0,.int .u32 0,.int .u32 0,.int .i64 ((sizeN yd.size:Nat)),.slice ua (countN yd.size) uc,.string yt,.int .i64 0,.int .i64 0] 45 (0,0)));have HF7:=lh (hF6.out.ext X7.out);have HU:=lh (show HashU (W6.alloc (.cells #[.string yp,.int .i64 1,.bool false,.int .i64 ((yd.size:Nat)),.int .i64 ym,.int .i64 0,.int .u32 0,.int .u32 0,.int .u32 0,.int .u32 0,.int .u32 0,.int .u32 0,.int .u32 0,.int .u32 0,.int .u32 0,.int .u32 0,.int .u32 0,.int .u32 0,.int .u32 0,.int .u32 0,.int .u32 0,.int .u32 0,.int .i64 ((sizeN yd.size:Nat)),.slice ua (countN yd.size) uc,.string yt,.int .i64 0,.int .i64 0] 45 (0,0))) (w3.heap.size+1) [] (yp,⟨1,yd,yt,ym⟩) (.slice ua (countN yd.size) uc) from .inr ⟨rfl,h46,owns_down (owns_ext (owns_ext hu (HX5.out.trans y6.out)) X7.out) (by have:=ltB hF2.out.over;have:=y3.size;omega),fun b _=>by simp⟩);have HUN:=lh (show ∀ b,(.slice ua (countN yd.size) uc:Value).ownBlock=some b->∀ i,i<4->(vs i).ownBlock≠some b from fun b hb i hi e=>by have h1:=own_ge hu b hb;have h2:=(hF2.out.below i hi b e).2;have h3:=y3.size;omega);have HIU:=lh (show itemU (yp,⟨1,yd,yt,ym⟩) (.slice ua (countN yd.size) uc)=[.string yp,.int .i64 1,.bool false,.int .i64 ((yd.size:Nat)),.int .i64 ym,.int .i64 0,.int .u32 0,.int .u32 0,.int .u32 0,.int .u32 0,.int .u32 0,.int .u32 0,.int .u32 0,.int .u32 0,.int .u32 0,.int .u32 0,.int .u32 0,.int .u32 0,.int .u32 0,.int .u32 0,.int .u32 0,.int .u32 0,.int .i64 ((sizeN yd.size:Nat)),.slice ua (countN yd.size) uc,.string yt,.int .i64 0,.int .i64 0] from by unfold itemU;rw [if_pos rfl];rfl)
       gi_wp2_with (first
        | (refine wpListIn_load_row rfl 45 (.tmp 14) rfl W4.heap.size rfl 45 _ (0,0) _ HB6.out underlying45 rfl HC1.out ?_;go_frame)
        | (refine wpListIn_append_k elRec (w3.heap.size+1) (.slice ra s.items.length rc) s.items.length (rowsU s.items us) (owns_ext HOW.out X7.out) W6.heap.size [.string yp,.int .i64 1,.bool false,.int .i64 ((yd.size:Nat)),.int .i64 ym,.int .i64 0,.int .u32 0,.int .u32 0,.int .u32 0,.int .u32 0,.int .u32 0,.int .u32 0,.int .u32 0,.int .u32 0,.int .u32 0,.int .u32 0,.int .u32 0,.int .u32 0,.int .u32 0,.int .u32 0,.int .u32 0,.int .u32 0,.int .i64 ((sizeN yd.size:Nat)),.slice ua (countN yd.size) uc,.string yt,.int .i64 0,.int .i64 0] rfl (.tmp 49) (.tmp 51) rfl rfl rfl rfl (fun j u hj=>(cellB (block_alloc_new W6 _)).trans (by simpa using hj)) (by simp [Value.oneCell']) (by omega) (by simp only [size_alloc];omega) ?_;intro v8 W8 ho8 hg8 hv8;obtain ⟨va,vc,hve⟩:=rowk_shape ho8;rw [hve] at ho8 hv8;rw [hve];have HO8:=lh ho8;have HG8:=lh hg8;have HV8:=lh hv8;clear ho8 hg8 hv8 hve;go_frame)
        | (refine wpListIn_store1 rfl _ _ _ rfl (w.heap.size+1) 0 (.slice va (s.items.length+1) vc) rfl rfl (by kernel_rfl) rfl #[vs 0,vs 1,vs 2,vs 3] 37 ((HG8.out.block (w.heap.size+1) (ltB HF7.out.blk) (fun e=>by have h1:=(hF6.out.below 0 (by decide) (w.heap.size+1) (by rw [show vs 0=_ from HRE.out];exact e.symm)).1;omega)).trans HF7.out.blk) (by show 0<4;decide) ?_;intro W9 hw9;have hg8:=HG8.out;have hv8:=HV8.out;rw [show Value.slice ra s.items.length rc=vs 0 from HRE.out.symm] at hg8 hv8;have ho8:=HO8.out;rw [<-HIU.out] at ho8;have hF9:=HF7.out.addItem (yp,⟨1,yd,yt,ym⟩) ho8 hg8 hv8 HU.out HUN.out;have hR9:=HF7.out.addR (nb:=w.heap.size) (j:=0) (by decide) hg8 hv8 (by omega) (by omega);rw [<-hw9] at hF9 hR9;have HF9:=lh hF9;have HR9:=lh hR9;clear hw9 hg8 hv8 ho8 hF9 hR9;go_frame)
        | (refine wpListIn_store1 rfl _ _ _ rfl w3.heap.size 0 (.string ⟨#[]⟩) rfl rfl (by kernel_rfl) rfl _ _ HF9.out.over Nat.zero_lt_one ?_;intro W10 hw10;have HW10:=lh hw10;clear hw10;go_frame))
       have hF10:=HF9.out.setOver (nb:=w.heap.size) ⟨#[]⟩ (by omega);rw [<-HW10.out] at hF10;have hR10:=((hR6.out.trans (Rnd.ext X7.out (ltB hF6.out.blk) (Nat.le_trans hx2.out.size y26.out.size))).trans HR9.out).trans hF10.2
       have hfin:FoundIn (w3.heap.size+1) (w.heap.size+1) w3.heap.size (walkS ig (List.map clipW (pre++[x]))) W10 (fun i=>if i=0 then .slice va (s.items.length+1) vc else vs i) (us++[.slice ua (countN yd.size) uc]):=by
        rw [HN.out,stepW_item (ig:=ig) (s:=s) (x:=(yp,⟨1,yd,yt,ym⟩)) hsk.out htp hig hbd];exact hF10.1
       have hext:=Below.trans hx0.out hR10.kp.low;have hkp5:=hR10.keep hF0W.out h50.out (by omega) (by omega) (by omega);exact ⟨hR10.ko.from _,hR10.kp,⟨_,_,⟨hfin,hext,hkp5⟩⟩⟩
      ·have hbd:badN ⟨yk,yd,yt,ym⟩=true:=by unfold badN;rw [decide_eq_true hk,decide_eq_true h46];rfl
       subst he;clear hC;have hrw:=lh (hF6.out.row 3 (by decide));obtain ⟨ra,rc,hre⟩:=rowk_shape hrw.out;have HRE:=lh hre;have c6:W6.cell? ⟨w.heap.size+1,3,none⟩=some (.slice ra s.bad.length rc):=(cellB hF6.out.blk).trans (by rw [<-show vs 3=.slice ra s.bad.length rc from hre];rfl);have HOW:=lh (show W6.ownsRow (w3.heap.size+1) 9 1 (.slice ra s.bad.length rc) s.bad.length (s.bad.map Value.string) from (show vs 3=.slice ra s.bad.length rc from hre)▸hrw.out);have hln:s.bad.length<=16384:=Nat.le_trans (rowOf_le s us 3 (by decide)) (Nat.le_of_lt htot);have h61:w3.heap.size+1<=W6.heap.size:=ltB hF6.out.over;clear hre hrw
       gi_wp2_with (first
        | (refine wpListIn_append_k elText (w3.heap.size+1) (.slice ra s.bad.length rc) s.bad.length (s.bad.map Value.string) (owns_ext HOW.out ((Ext.refl _).alloc _)) W6.heap.size [.string yp] rfl (.tmp 75) (.tmp 77) rfl rfl rfl rfl (fun j u hj=>(cellB (block_alloc_new W6 _)).trans (by simpa using hj)) (by simp [Value.oneCell']) (by omega) (by simp only [size_alloc];omega) ?_;intro v8 W8 ho8 hg8 hv8;obtain ⟨va,vc,hve⟩:=rowk_shape ho8;rw [hve] at ho8 hv8;rw [hve];have HO8:=lh ho8;have HG8:=lh hg8;have HV8:=lh hv8;clear ho8 hg8 hv8 hve;go_frame)
        | (refine wpListIn_store1 rfl _ _ _ rfl (w.heap.size+1) 3 (.slice va (s.bad.length+1) vc) rfl rfl (by kernel_rfl) rfl #[vs 0,vs 1,vs 2,vs 3] 37 ((HG8.out.block (w.heap.size+1) (ltB (hF6.out.ext ((Ext.refl _).alloc _)).blk) (fun e=>by have h1:=(hF6.out.below 3 (by decide) (w.heap.size+1) (by rw [show vs 3=_ from HRE.out];exact e.symm)).1;omega)).trans (hF6.out.ext ((Ext.refl _).alloc _)).blk) (by show 3<4;decide) ?_;intro W9 hw9;have HW9:=lh hw9;clear hw9;go_frame))
       have hg8:=HG8.out;have hv8:=HV8.out;rw [show Value.slice ra s.bad.length rc=vs 3 from HRE.out.symm] at hg8 hv8;have hF7:=hF6.out.ext ((Ext.refl W6).alloc (.cells #[.string yp] 9 (0,0)));have hF9:=hF7.addText (j:=3) (by decide) (by decide) yp HO8.out hg8 hv8;have hR9:=(hR6.out.trans (Rnd.ext ((Ext.refl W6).alloc (.cells #[.string yp] 9 (0,0))) (ltB hF6.out.blk) (Nat.le_trans hx2.out.size y26.out.size))).trans (hF7.addR (nb:=w.heap.size) (j:=3) (by decide) hg8 hv8 (by omega) (by omega));rw [<-HW9.out] at hF9 hR9
       have hfin:FoundIn (w3.heap.size+1) (w.heap.size+1) w3.heap.size (walkS ig (List.map clipW (pre++[x]))) W9 (fun i=>if i=3 then .slice va (s.bad.length+1) vc else vs i) us:=by
        rw [HN.out,stepW_bad (ig:=ig) (s:=s) (x:=(yp,⟨yk,yd,yt,ym⟩)) hsk.out htp hig hbd];exact hF9
       have hext:=Below.trans hx0.out hR9.kp.low;have hkp5:=hR9.keep hF0W.out h50.out (by omega) (by omega) (by omega);exact ⟨hR9.ko.from _,hR9.kp,⟨_,us,⟨hfin,hext,hkp5⟩⟩⟩
  case done =>
   rintro Dd xs W hDd hS ⟨vs,us,hF,hx,h5⟩ hK;have hF:=lh hF;have hx:=lh hx;have hK:=lh hK;have hst:walkS ig (xs.map clipW)=walkS ig (eachL D root):=by rw [show xs=eachL D root from hS,clip_each R root]
   rw [hst] at hF;clear h5 hst;have HV1:=lh (show (prog.info? 37).map (·.size)=some (#[vs 0,vs 1,vs 2,vs 3]:Array Value).size from by kernel_rfl)
   have HV3:=lh (show (#[vs 0,vs 1,vs 2,vs 3]:Array Value).all (·.oneCell')=true from by
    obtain ⟨a0,c0,e0⟩:=rowk_shape (hF.out.row 0 (by decide));obtain ⟨a1,c1,e1⟩:=rowk_shape (hF.out.row 1 (by decide));obtain ⟨a2,c2,e2⟩:=rowk_shape (hF.out.row 2 (by decide));obtain ⟨a3,c3,e3⟩:=rowk_shape (hF.out.row 3 (by decide));rw [e0,e1,e2,e3]
    simp [Value.oneCell'])
   gi_wp2_with (first
    | (refine wpListIn_load_row rfl 37 (.tmp 6) rfl (w.heap.size+1) rfl 37 _ (0,0) _ hF.out.blk underlying37 rfl HV1.out ?_;go_frame)
    | (refine wpListIn_storeT rfl _ _ _ rfl (w.heap.size+1) #[vs 0,vs 1,vs 2,vs 3] rfl rfl 37 _ hF.out.blk HV1.out rfl HV3.out ?_;intro W6 hb6 ht6;have HB6':=lh hb6;have HT6:=lh ht6;clear hb6 ht6;go_frame))
   have hDne:Dd≠w.heap.size+1:=by have:=ltB hb6.out;omega
   have hK6:W6.heap[Dd]?=some (.deferred (some [])):=(HT6.out.block Dd (ltB hK.out) (fun e=>hDne (Option.some.inj e))).trans hK.out;have hB7:(W6.putObj Dd (.deferred none)).heap[w.heap.size+1]?=some (.cells #[vs 0,vs 1,vs 2,vs 3] 37 (0,0)):=(World.putObj_heap_other (fun e=>hDne e.symm)).trans HB6'.out
   have hk7:∀ b c t f,W.heap[b]?=some (Obj.cells c t f)->b≠w.heap.size+1->(W6.putObj Dd (.deferred none)).heap[b]?=W.heap[b]?:=fun b c t f hc hne =>
    (World.putObj_heap_other (fun e=>by rw [e,hK.out] at hc;cases hc)).trans (HT6.out.block b (ltB hc) (fun e=>hne (Option.some.inj e)))
   have hrow:∀ {e:TypeId} {m n:Nat} {v:Value} {ys:List Value},W.ownsRow (w3.heap.size+1) e m v n ys->∀ b,v.ownBlock=some b->(W6.putObj Dd (.deferred none)).heap[b]?=W.heap[b]?:=fun {e m n v ys} ho b hb=>by
    rcases ho.2 with ⟨he,_⟩ | ⟨g,cap,cur,he,hbase,hh,_⟩
    ·rw [he] at hb;simp [Value.ownBlock] at hb
    ·rw [he] at hb;simp [Value.ownBlock] at hb;subst hb;exact hk7 g _ _ _ hh (by omega)
   refine ⟨by simp,.inl ⟨_,_,rfl,run_takeDeferred hK6,?_⟩⟩;refine ⟨_,results_row1 rfl _ _ (w.heap.size+1) 37 _ (0,0) _ rfl hB7 underlying37 rfl HV1.out,_,by rw [hroot];rfl,⟨⟨vs,us,rfl,fun j hj=>?_,hF.out.len,fun k x u hx1 hu1=>?_⟩,?_⟩⟩
   ·exact owns_down (owns_blocks (hF.out.row j hj) (hrow (hF.out.row j hj))) (by omega)
   ·rcases hF.out.hs k x u hx1 hu1 with h1 | ⟨h1,h2,h3,h4⟩
    ·exact .inl h1
    ·exact .inr ⟨h1,h2,owns_down (owns_blocks h3 (hrow h3)) (by omega),h4⟩
   ·have x6:=HT6.out.fresh hx.out (by omega)
    exact x6.grown (grownBy_putObj' W6 Dd _) x6.size fun k e=>by
     have:=Option.some.inj e;have:=XX.out.size;omega
 ·have hel:eachL D root=[]:=by unfold eachL;rw [if_neg hroot]
  have hne:decide (rootE D.live root=0)=false:=decide_eq_false hroot;rw [hel];generalize rootE D.live root=RE at *;gi_wp2;refine ⟨trivial,(callsIn_wide.2 HRt.out).mono ?_⟩;rintro e w3 ⟨rfl,x3⟩;have HB6:=lh ((x3.block (ltB HZ1.out)).trans HZ1.out);have X3:=lh (HX2.out.trans x3);gi_wp2_with (refine wpListIn_storeT rfl _ _ _ rfl (w.heap.size+1) found0 rfl rfl 37 _ HB6.out HA1.out rfl HA3.out ?_;intro W6 hb6 ht6;have HB6':=lh hb6;have HT6:=lh ht6;clear hb6 ht6;go_frame);exact ⟨_,results_row1 rfl _ _ (w.heap.size+1) 37 _ (0,0) _ rfl HB6'.out underlying37 rfl HA1.out,_,rfl,⟨FoundC.nothing _ _,HT6.out.fresh X3.out (by omega)⟩⟩
end
section
open Go.RowKit
end
section
open Go.RowKit
theorem itemU_len (x:ByteArray×Nd) (u:Value):(itemU x u).length=27:=by
 unfold itemU;split <;> rfl
theorem rowsU_get:∀ (l:Nodes) (us:List Value) (k j:Nat) (x:ByteArray×Nd) (u:Value),l[k]?=some x->us[k]?=some u->j<27->(rowsU l us)[k*27+j]?=(itemU x u)[j]?:=by
 intro l
 induction l with
 | nil=>intro us k j x u h;simp at h
 | cons y r ih =>
  intro us k j x u h hu hj
  cases us with
  | nil=>simp at hu
  | cons v us =>
   show (itemU y v++rowsU r us)[k*27+j]?=_
   cases k with
   | zero =>
    cases h
    cases hu
    rw [Nat.zero_mul,Nat.zero_add,List.getElem?_append_left (by rw [itemU_len];exact hj)]
   | succ k =>
    rw [List.getElem?_append_right (by rw [itemU_len];omega),itemU_len];have h1:r[k]?=some x:=by simpa using h
    have h2:us[k]?=some u:=by simpa using hu
    rw [show (k+1)*27+j - 27=k*27+j from by omega];exact ih us k j x u h1 h2 hj
def ItemsAt (w:World) (v:Value) (l:Nodes):Prop :=
 ∃ (a:Option Addr) (cap:Nat),v=.slice a l.length cap/\l.length<=cap/\cap<=9223372036854775807/\∀ (k:Nat) x,l[k]?=some x->∃ g u,a=some ⟨g,0,none⟩/\HashU w 0 [] x u/\∀ (j:Nat) y,(itemU x u)[j]?=some y->w.cell? ⟨g,k*27+j,none⟩=some y
theorem row_cells {w:World} {base m n:Nat} {e:TypeId} {v:Value} {xs:List Value} (h:w.ownsRow base e m v n xs):∃ (a:Option Addr) (cap:Nat),v=.slice a n cap/\n<=cap/\cap<=9223372036854775807/\(a=none->n=0/\cap=0)/\∀ (k:Nat) x,xs[k]?=some x->∃ g,a=some ⟨g,0,none⟩/\base<=g/\g<w.heap.size/\w.cell? ⟨g,k,none⟩=some x:=by
 rcases h.2 with ⟨rfl,rfl⟩ | ⟨g,cap,cur,rfl,hb,hh,h1,h2,h3,h4⟩
 ·refine ⟨none,0,rfl,by omega,by omega,fun _=>⟨rfl,rfl⟩,fun k x hx=>?_⟩;have h1:=(List.getElem?_eq_some_iff.1 hx).1;rw [h.1,Nat.zero_mul] at h1;omega
 ·refine ⟨_,cap,rfl,h1,h2,fun e=>(by cases e),fun k x hx=>⟨g,rfl,hb,ltB hh,?_⟩⟩;refine (cellB hh).trans ?_;rw [<-h4] at hx;rw [List.getElem?_take] at hx;split at hx
  ·rw [<-Array.getElem?_toList];exact hx
  ·cases hx
theorem FoundC.items {base:Nat} {w:World} {s:WSt} {C:Array Value} (h:FoundC base w s C):∃ v0 v1 v2 v3,C=#[v0,v1,v2,v3]/\ItemsAt w v0 s.items/\TextsOwn w v1 s.temps/\TextsOwn w v2 s.ign/\TextsOwn w v3 s.bad:=by
 obtain ⟨vs,us,rfl,hr,hl,hh⟩:=h;refine ⟨vs 0,vs 1,vs 2,vs 3,rfl,?_,TextsOwn.of (hr 1 (by decide)) rfl,TextsOwn.of (hr 2 (by decide)) rfl,TextsOwn.of (hr 3 (by decide)) rfl⟩;obtain ⟨a,cap,e,h1,h2,_,h3⟩:=row_cells (hr 0 (by decide));refine ⟨a,cap,e,h1,h2,fun k x hx=>?_⟩;have hk:k<us.length:=by rw [hl];exact (List.getElem?_eq_some_iff.1 hx).1
 have hu:us[k]?=some us[k]:=List.getElem?_eq_getElem hk;have h0:(itemU x us[k])[0]?=some (.string x.1):=by unfold itemU;split <;> rfl
 obtain ⟨g,rfl,_⟩:=h3 (k*27+0) _ ((rowsU_get s.items us k 0 x _ hx hu (by decide)).trans h0);refine ⟨g,us[k],rfl,?_,fun j y hj=>?_⟩
 ·rcases hh k x _ hx hu with e | ⟨e1,e2,e3,e4⟩
  ·exact .inl e
  ·exact .inr ⟨e1,e2,owns_down e3 (Nat.zero_le _),e4⟩
 ·have hj27:j<27:=by
   have:=(List.getElem?_eq_some_iff.1 hj).1
   rwa [itemU_len] at this
  obtain ⟨g2,e2,_,_,hc⟩:=h3 (k*27+j) y ((rowsU_get s.items us k j x _ hx hu hj27).trans hj)
  cases e2
  exact hc
theorem ItemsAt.ext {w w':World} {v:Value} {l:Nodes} (h:ItemsAt w v l) (x:Ext w w'):ItemsAt w' v l:=by
 obtain ⟨a,cap,e,h1,h2,h3⟩:=h;refine ⟨a,cap,e,h1,h2,fun k y hy=>?_⟩;obtain ⟨g,u,e1,e2,e3⟩:=h3 k y hy;exact ⟨g,u,e1,e2.kept fun b hb=>x.block (e2.own b hb).2,fun j z hz=>(x.cell (lt_of_cell (e3 j z hz))).trans (e3 j z hz)⟩
def pathsT (l:Nodes):ByteArray:=l.foldl (fun s x=>s++x.1++⟨#[32]⟩) ⟨#[]⟩
theorem pathsT_next {l:Nodes} {k:Nat} {x:ByteArray×Nd} (h:l[k]?=some x):pathsT (l.take (k+1))=pathsT (l.take k)++x.1++⟨#[32]⟩:=by
 rw [List.take_add_one,h];unfold pathsT;rw [List.foldl_append];rfl
theorem pathsT_size {l:Nodes} (h:∀ x∈l,x.1.size<=160) (k:Nat):(pathsT (l.take k)).size<=k*161:=by
 induction k with
 | zero=>rw [List.take_zero];exact Nat.le_refl _
 | succ k ih =>
  rcases Nat.lt_or_ge k l.length with hk | hk
  ·rw [pathsT_next (List.getElem?_eq_getElem hk)];have:=h _ (List.getElem_mem hk);have h1:(⟨#[32]⟩:ByteArray).size=1:=rfl;simp only [ByteArray.size_append,h1];omega
  ·rw [List.take_of_length_le (by omega)] at ih ⊢;omega
set_option maxRecDepth 100000 in
set_option maxHeartbeats 2000000 in
theorem paths_any {w:World} {v:Value} {l:Nodes} (h:ItemsAt w v l) (hl:l.length<=20000) (hs:∀ x∈l,x.1.size<=160) :
  Calls prog 23 #[v] w fun e w'=>e=.returned (.string (pathsT l))/\Ext w w':=by
 obtain ⟨a,cap,rfl,h1,h2,h3⟩:=h;have HC:=lh h3;have HS:=lh (pathsT_size hs);obtain ⟨n,hn⟩:∃ n,n=l.length:=⟨_,rfl⟩;have HL:=lh hn;have HE:=lh (show pathsT (l.take n)=pathsT l from by rw [hn,List.take_length]);have HM:=lh hs;rw [<-hn] at hl h1 ⊢;clear hn h3 hs;go_enter func23,ntmps23;go_wp2_with fail;go_loopw [3,4] (fun sv iv wr=>Hid (∃ k:Nat,k<=n/\iv=.int .i64 k/\sv=.string (pathsT (l.take k))/\Ext w wr)) (fun _ iv _=>n - (intOf iv).toNat)
 case atStart=>exact ⟨0,Nat.zero_le _,rfl,rfl,Ext.refl _⟩
 case round =>
  obtain ⟨k,hk,rfl,rfl,hx⟩:=hrel.out;clear hrel;have HX:=lh hx;by_cases hlt:k<n
  ·obtain ⟨x,hxk⟩:∃ x,l[k]?=some x:=⟨_,List.getElem?_eq_getElem (by have:=HL.out;omega)⟩;obtain ⟨g,u,rfl,_,hc⟩:=HC.out k x hxk;have h0:(itemU x u)[0]?=some (.string x.1):=by unfold itemU;split <;> rfl
   have c0:wr.cell? ⟨g,k*27,none⟩=some (.string x.1):=(hx.cell (lt_of_cell (hc 0 _ h0))).trans (hc 0 _ h0);have HN:=lh (pathsT_next hxk);have z1:=HS.out k;have z2:=HM.out x (List.mem_of_getElem? hxk);obtain ⟨xp,xn⟩:=x;dsimp only at *;generalize pathsT (l.take k)=q0 at *;have z3:q0.size<=3220000:=by omega
   clear hc h0 hxk hx;go_wp2_with fail;go_roundw
   case rel=>exact ⟨k+1,by omega,by go_num,by rw [HN.out],HX.out⟩
   case measure=>simp [intOf] <;> omega
  ·obtain rfl:k=n:=by omega
   rw [HE.out];obtain ⟨q,hq⟩:∃ q,q=pathsT l:=⟨_,rfl⟩;have HQ:=lh hq;rw [<-hq];clear hq;have nlt:decide ((k:Int)<(k:Int))=false:=by simp
   clear hx;go_wp2_with fail;go_ret;exact ⟨by rw [<-HQ.out];rfl,HX.out⟩
end
section
open Go.RowKit
theorem join_one {w:World} {v:Value} {x:ByteArray} (h:TextsOwn w v [x]) (sep:ByteArray) (hx:x.size<=100000):Calls prog 22 #[v,.string sep] w fun e w'=>e=.returned (.string x)/\Ext w w':=by
 obtain ⟨⟨a,cap,rfl,h1,h2⟩,hg⟩:=h;obtain ⟨g,rfl,hc⟩:=hg a _ cap rfl 0 x rfl
 have hj:(⟨(Lib.join ([x].map (·.data.toList)) sep.data.toList).toArray⟩:ByteArray)=x:=by
  obtain ⟨x⟩:=x;simp [Lib.join]
 have:=Tryz.strings_Join g 0 cap [x] sep w (fun j y hy=>by
  cases j with
  | zero=>cases hy;exact hc
  | succ j=>simp at hy) (lt_of_cell hc) (by simp) h1 (by
   have e:(Lib.join ([x].map (·.data.toList)) sep.data.toList).length=x.size:=by
    have:=congrArg ByteArray.size hj
    simpa [size_mk] using this
   rw [e];omega)
 rw [hj] at this;exact this
def aIg:ByteArray->Bool:=fun p=>(matchesL [[101]] p).1
def aItems:Nodes:=[(⟨#[97]⟩,⟨1,tAbc,emp,5⟩),(⟨#[100]⟩,dirN),(⟨#[122]⟩,⟨3,emp,⟨#[97]⟩,6⟩)]
theorem aw_walk (Y:ByteArray):walkS aIg (gE Y)=⟨aItems,[⟨#[100,47,126,116,126,120]⟩],[⟨#[100,47,101]⟩],[],⟨#[]⟩⟩:=by kernel_rfl
theorem aw_paths:pathsT aItems=⟨#[97,32,100,32,122,32]⟩:=by kernel_rfl
theorem aw_call {w0 w:World} {A B:List Thing} {d ll:Nat} (h:Things w0 w (A++.disk d gD::B)) (E:Env w) (T:ShaTabs w) (hL:IsList w ll [[101]]) :
  Calls prog 17 #[.pointer (some ⟨d,0,none⟩),.string nF1,.pointer (some ⟨ll,0,none⟩)] w fun e w'=>∃ v0 v1 v2 v3,e=.returned (.tuple #[.agg #[v0,v1,v2,v3],.int .i64 0])/\Hid (ItemsAt w' v0 aItems/\TextsOwn w' v1 [⟨#[100,47,126,116,126,120]⟩]/\TextsOwn w' v2 [⟨#[100,47,101]⟩]/\TextsOwn w' v3 []/\Ext w w'):=by
 refine (disk_ext h fun M I hd=>walk_any hd gD_run.run (gD_run.run.fit (by decide)) E T nF1 (by decide) (some ⟨ll,0,none⟩) aIg fun w' p x hp=>(match_at (by omega) (hL.ext x) (E.ext x)).mono fun e w'' ⟨h1,h2⟩=>⟨_,h1,h2⟩).mono ?_;rintro e w' ⟨C,he,h1,h2⟩;rw [gD_root] at he;rw [gD_each,aw_walk] at h1;obtain ⟨v0,v1,v2,v3,rfl,k0,k1,k2,k3⟩:=h1.items;exact ⟨v0,v1,v2,v3,he,⟨k0,k1,k2,k3,h2⟩⟩
set_option maxRecDepth 100000 in
set_option maxHeartbeats 4000000 in
theorem awake17_any (w:World) (E:Env w) (T:ShaTabs w):Calls prog 14 #[] w fun e w'=>e=.returned (.bool true)/\Ext w w':=by
 have HG:=lh (given_any w E);have HE:=lh E;have HT:=lh T;have HN1:=lh (show nF1=⟨#[102,49]⟩ from rfl);clear E T;go_enter func14,ntmps14;go_wp2_with fail;refine HG.out.mono ?_;rintro e w1 ⟨d,rfl,h1⟩;have H1:=h1;have X1:=lh h1.out.is_ext;clear h1;go_wp2_with fail;refine (list_any w1 (HE.out.ext X1.out)).mono ?_;rintro e w2 ⟨ll,rfl,h2⟩;have H2:=h2;have X2:=lh (X1.out.trans h2.out.2);have HW:=lh (aw_call (A:=[]) (B:=[]) (H1.out.ext H2.out.2) (HE.out.ext X2.out) (HT.out.ext X2.out) H2.out.1);rw [HN1.out] at HW;clear h2;go_wp2_with fail;refine HW.out.mono ?_;rintro e w3 ⟨v0,v1,v2,v3,rfl,h3⟩;have H3:=h3;have X3:=lh (X2.out.trans h3.out.2.2.2.2);obtain ⟨a0,c0,rfl,_⟩:=h3.out.1;obtain ⟨⟨a1,c1,rfl,_⟩,_⟩:=h3.out.2.1;obtain ⟨⟨a2,c2,rfl,_⟩,_⟩:=h3.out.2.2.1;obtain ⟨⟨a3,c3,rfl,_⟩,_⟩:=h3.out.2.2.2.1;clear h3 HW;go_wp2_with fail;have HB:=lh (block_alloc_new w3 (.cells #[.slice a0 aItems.length c0,.slice a1 1 c1,.slice a2 1 c2,.slice a3 0 c3] 37 (0,0)));have X4:=lh ((Ext.refl w3).alloc (.cells #[.slice a0 aItems.length c0,.slice a1 1 c1,.slice a2 1 c2,.slice a3 0 c3] 37 (0,0)))
 have HP:=lh (paths_any (H3.out.1.ext X4.out) (by decide) (fun x hx=>by
  simp only [aItems,List.mem_cons,List.not_mem_nil,or_false] at hx
  rcases hx with rfl | rfl | rfl <;> decide))
 rw [aw_paths] at HP;refine HP.out.mono ?_;rintro e w5 ⟨rfl,x5⟩;have HB5:=lh ((x5.block (ltB HB.out)).trans HB.out);have X5:=lh (X4.out.trans x5);have k1:w5.cell? ⟨w3.heap.size,1,none⟩=some (.slice a1 1 c1):=cellB HB5.out;clear x5 HP;go_wp2_with fail
 refine (join_one ⟨(H3.out.2.1).shape,fun a n cap e k s hs=>by
  obtain ⟨g,e1,e2⟩:=H3.out.2.1.get a n cap e k s hs
  exact ⟨g,e1,(X5.out.cell (lt_of_cell e2)).trans e2⟩⟩ _ (by decide)).mono ?_
 rintro e w6 ⟨rfl,x6⟩;have HB6:=lh ((x6.block (ltB HB5.out)).trans HB5.out);have X6:=lh (X5.out.trans x6);have k2:w6.cell? ⟨w3.heap.size,2,none⟩=some (.slice a2 1 c2):=cellB HB6.out;clear x6 k1;go_wp2_with fail
 refine (join_one ⟨(H3.out.2.2.1).shape,fun a n cap e k s hs=>by
  obtain ⟨g,e1,e2⟩:=H3.out.2.2.1.get a n cap e k s hs
  exact ⟨g,e1,(X6.out.cell (lt_of_cell e2)).trans e2⟩⟩ _ (by decide)).mono ?_
 rintro e w7 ⟨rfl,x7⟩;have HB7:=lh ((x7.block (ltB HB6.out)).trans HB6.out);have k3:w7.cell? ⟨w3.heap.size,3,none⟩=some (.slice a3 0 c3):=cellB HB7.out;have X7:=lh (X3.out.trans (X6.out.trans x7));clear x7 k2;go_wp2_with fail;go_ret;exact ⟨rfl,X7.out⟩
end
section
open Go.RowKit Go.Shelf
attribute [local go_sem] Oper.semAt_some
set_option maxRecDepth 100000 in
set_option maxHeartbeats 2000000 in
theorem walk_none (root:ByteArray) (lv:Option Addr) (w:World) :
  Calls prog 17 #[.pointer none,.string root,.pointer lv] w fun e w'=>e=.returned (.tuple #[.agg found0,.int .i64 1])/\Ext w w':=by
 have HX2:=lh (((Ext.refl w).alloc (.cells #[.pointer lv] 30 (0,0))).alloc (.cells found0 37 (0,0)));have HZ1:=lh (block_alloc_new (w.alloc (.cells #[.pointer lv] 30 (0,0))) (.cells found0 37 (0,0)));simp only [size_alloc] at HZ1;have HA1:=lh (show (prog.info? 37).map (·.size)=some found0.size from by kernel_rfl);have HA3:=lh (show found0.all (·.oneCell')=true from by kernel_rfl);unfold found0 at HX2 HZ1;refine callsIn_wide.1 (callsIn_of_wp_marks (n:=4) func17 rfl trivial ?_ rfl);simp only [ntmps17,List.size_toArray,List.length_cons,List.length_nil,Nat.reduceAdd,Nat.reduceSub,Array.replicate_succ,Array.replicate_zero,List.push_toArray,List.append_toArray,List.nil_append,List.cons_append];gi_wp2;refine ⟨trivial,(callsIn_wide.2 (rooted_nil root _)).mono ?_⟩;rintro e w3 ⟨rfl,rfl⟩;gi_wp2_with (refine wpListIn_storeT rfl _ _ _ rfl (w.heap.size+1) found0 rfl rfl 37 _ HZ1.out HA1.out rfl HA3.out ?_;intro W6 hb6 ht6;have HB6':=lh hb6;have HT6:=lh ht6;clear hb6 ht6;go_frame);exact ⟨_,results_row1 rfl _ _ (w.heap.size+1) 37 _ (0,0) _ rfl HB6'.out underlying37 rfl HA1.out,rfl,HT6.out.fresh HX2.out (by omega)⟩
set_option maxRecDepth 100000 in
set_option maxHeartbeats 2000000 in
theorem Item_none (root p:ByteArray) (w:World) :
  Calls prog 24 #[.pointer none,.string root,.string p] w fun e w'=>e=.returned (.tuple #[.agg rec0,.int .i64 1])/\Ext w w':=by
 have HX:=lh ((Ext.refl w).alloc (.cells rec0 45 (0,0)));have HZ:=lh (block_alloc_new w (.cells rec0 45 (0,0)));have HA02:=lh (show 27=rec0.size from rfl);have HA03:=lh (show rec0.all (·.oneCell')=true from by rw [rec0_is];simp [Value.oneCell']);have HA0:=lh (show (prog.info? 45).map (·.size)=some rec0.size from by rw [rec0_is];kernel_rfl);rw [rec0_is] at HX HZ;go_enter func24,ntmps24
 go_wp2_with (first
  | (refine wpList_buildAs rec0 rfl _ _ rfl (by rw [rec0_is];kernel_rfl) ?_;go_frame)
  | (refine wpList_storeT rfl _ _ _ rfl w.heap.size rec0 rfl rfl 45 _ HZ.out HA0.out HA02.out HA03.out ?_;intro w7 hb7 ht7;have HB7:=lh hb7;have X7:=lh (ht7.fresh HX.out (Nat.le_refl _));clear hb7 ht7;go_frame))
 exact bodyPost_ret (results_row1 rfl _ _ w.heap.size 45 _ (0,0) _ rfl HB7.out underlying45 rfl HA0.out) rfl ⟨rfl,X7.out⟩
theorem each_none (n:Nat) (hn:1<=n) {w0:World} {Bd Br:Nat} {root:ByteArray} (hBd:w0.cell? ⟨Bd,0,none⟩=some (.pointer none)) (hBr:w0.cell? ⟨Br,0,none⟩=some (.string root)) :
  SeqStopsK Fence.wide n prog 79 #[.pointer (some ⟨Bd,0,none⟩),.pointer (some ⟨Br,0,none⟩)] encW (fun _ _=>True) (fun ys=>ys=[]) (fun _=>False) 0 w0:=fun l J Jx W hW hJ hJx hY h0=>by
 have xW:Ext w0 W:=hW;have bd:W.cell? ⟨Bd,0,none⟩=some (.pointer none):=(xW.cell (lt_of_cell hBd)).trans hBd;have br:W.cell? ⟨Br,0,none⟩=some (.string root):=(xW.cell (lt_of_cell hBr)).trans hBr;refine callsIn_of_wp func79 rfl trivial ?_ rfl;simp only [ntmps79,List.size_toArray,List.length_cons,List.length_nil,Nat.reduceAdd,Nat.reduceSub,Array.replicate_succ,Array.replicate_zero,List.push_toArray,List.append_toArray,List.nil_append,List.cons_append];gi_wp2;refine ⟨trivial,(callsIn_wide.2 (rooted_nil root W)).mono ?_⟩;rintro e w1 ⟨rfl,rfl⟩;gi_wp2;refine bodyPost_ret (results_none rfl _ _ _) rfl ?_;exact ⟨⟨_,rfl⟩,.inl ⟨_,rfl,h0⟩⟩
end
section
open Go.RowKit
def PatAs (w:World) (lv:Option Addr) (ig:ByteArray->Bool):Prop :=
 ∀ (w':World) (p:ByteArray),Ext w w'->p.size<=160->Calls prog 70 #[.pointer lv,.string p] w' fun e w''=>∃ b,e=.returned (.tuple #[.bool (ig p),.bool b])/\Ext w' w''
theorem PatAs.nil (w:World):PatAs w none (fun _=>false):=fun w' p _ _=>(ilmatch_nil p w').mono fun _ _ ⟨h1,h2⟩=>⟨false,h1,h2▸Ext.refl _⟩
theorem wcall_any {w0 w:World} {A B:List Thing} {d k:Nat} {D:Dk} {lv:Option Addr} {ig:ByteArray->Bool} (h:Things w0 w (A++.disk d D::B)) (R:RunF k D) (hk:k<=100000) (E:Env w) (T:ShaTabs w) (root:ByteArray) (hr:root.size<=100000) (hP:PatAs w lv ig) :
  Calls prog 17 #[.pointer (some ⟨d,0,none⟩),.string root,.pointer lv] w fun e w'=>∃ v0 v1 v2 v3,e=.returned (.tuple #[.agg #[v0,v1,v2,v3],.int .i64 (rootE D.live root)])/\Hid (ItemsAt w' v0 (walkS ig (eachL D root)).items/\TextsOwn w' v1 (walkS ig (eachL D root)).temps/\TextsOwn w' v2 (walkS ig (eachL D root)).ign/\TextsOwn w' v3 (walkS ig (eachL D root)).bad/\Ext w w'):=by
 refine (disk_ext h fun M I hd=>walk_any hd R.run (R.run.fit hk) E T root hr lv ig hP).mono ?_;rintro e w' ⟨C,he,h1,h2⟩;obtain ⟨v0,v1,v2,v3,rfl,k0,k1,k2,k3⟩:=h1.items;exact ⟨v0,v1,v2,v3,he,⟨k0,k1,k2,k3,h2⟩⟩
end
section
open Go.RowKit
end
section
open Go.RowKit
def uv (n:Nat):Value:=.int .u64 n
end
section
open Go.RowKit
end
section
open Go.RowKit
end
section
open Go.RowKit
end
section
open Go.RowKit
end
section
open Go.RowKit
end
section
open Go.RowKit
end
end Go.Proofs.YtodickpibbbiiaaGreatDoor
