/- TempPlays: of any record, whatever stands at the temp's path and whichever files are there: whether a draft is opened, and whatever is done to it (at most 20 acts), what it tells, and what stands there, are the document's: the statement TempPlaysCardSaid, with no condition of its own. -/
import Derived.Test.YtldppmjjgljinaaGreatDoorTpA1
import Derived.Test.YtldppmjjgljinaaGreatDoorTpB2
import Derived.Test.YtldppmjjgljinaaGreatDoorTpK2
import Derived.Test.YtldppmjjgljinaaGreatDoorTpK4
import Derived.Test.YtldppmjjgljinaaGreatDoorTpK5
import Derived.Test.YtldppmjjgljinaaGreatDoorTempPlaysF
import Derived.Test.YtldppmjjgljinaaGreatDoorTempPlaysG
namespace Go.Proofs.YtldppmjjgljinaaGreatDoor.lawTempPlays
open Go.ChangeShapes Go.WideShapes Go.ChangeAt Go.RowKit
open Go.ChangeMaps (open_string)

def yd_len (d:List UInt8) (n:Nat):Prop:=d.length=n
theorem mem_le_sum:∀ {l:List Nat} {a:Nat},a∈l→a≤l.sum
  | x::r,a,h=>by
    rw [List.sum_cons]
    rcases List.mem_cons.1 h with rfl | h
    · omega
    · have:=mem_le_sum h
      omega
theorem largeV_not {R:RecS} {x:Case23} {l:List Act23} (h:largeV R x l=false):x.files.length≤10∧l.length≤20∧R.hs.length≤50∧x.root.size≤30000∧R.path.size≤30000∧x.old.length≤30000∧(∀ y∈x.files,y.2.length≤30000∧y.1.size≤30000)∧∀ y∈l,y.d.length≤30000:=by
  unfold largeV at h
  simp only [Bool.or_eq_false_iff,decide_eq_false_iff_not,Nat.not_lt] at h
  obtain ⟨h1,h2,h3,h4⟩:=h
  have e1:n023 R x=x.old.length+x.root.size+R.path.size:=rfl
  refine ⟨h1,h2,h4,by omega,by omega,by omega,fun y hy=>?_,fun y hy=>?_⟩
  · have:=mem_le_sum (l:=(x.files.take 20).map fun f=>f.2.length+f.1.size) (a:=y.2.length+y.1.size) (List.mem_map.2 ⟨y,by rw [List.take_of_length_le (by omega)];exact hy,rfl⟩)
    unfold sumF at h3
    omega
  · have:=mem_le_sum (l:=(l.take 30).map fun f=>f.d.length) (a:=y.d.length) (List.mem_map.2 ⟨y,by rw [List.take_of_length_le (by omega)];exact hy,rfl⟩)
    unfold sumA at h3
    omega
theorem place_may {root p:ByteArray} (h:placeB root p=true):mayB (placeS root p)=true:=by
  unfold placeB at h
  simp only [Bool.and_eq_true] at h
  exact h.2.2
theorem place_some {root p:ByteArray}:(placeS root p).toList.isEmpty=false:=by
  unfold placeS
  rw [toList_append,toList_append,show (⟨#[47]⟩:ByteArray).toList=[47] from toList_mk _]
  simp

set_option maxRecDepth 100000 in
set_option maxHeartbeats 16000000 in
theorem walk (C CC:Array Value) (R:RecS) (bl va:Value) (x:Case23) (l:List Act23) (w:World) (hC:RecC C R bl) (hb:HashesAt w bl R.hs) (hsh:∃ a n c,bl=.slice a n c∧(a=none∨∃ g o,a=some ⟨g,o,none⟩)) (hbl:∀ b o n c,bl=.slice (some ⟨b,o,none⟩) n c→b<w.heap.size) (hp:R.path.size≤reach) (hlo:-9223372036854775808≤R.size) (hhi:R.size≤9223372036854775807) (hx:CaseIn w CC x) (hA:ActsIn23 w va l) (E:Env w) (T:ShaTabs w) :
    Calls Tryz.prog 9 #[.agg C,.agg CC,va] w fun e w'=>e=.returned (.bool true)∧Below w.heap.size w w':=by
  obtain ⟨W1,hW1⟩:∃ W1,W1=(w.alloc (.cells C 31)).alloc (.cells CC 83):=⟨_,rfl⟩
  have HX1:=Lib.hid (show Ext w W1 from hW1▸((Ext.refl w).alloc _).alloc _)
  have hB3:W1.heap[w.heap.size]?=some (.cells C 31 (0,0)):=by
    rw [hW1,block_alloc_old (by rw [size_alloc];omega)];exact block_alloc_new _ _
  have hB4:W1.heap[w.heap.size+1]?=some (.cells CC 83 (0,0)):=by
    have:=block_alloc_new (w.alloc (.cells C 31)) (.cells CC 83 (0,0))
    rw [size_alloc] at this
    rw [hW1];exact this
  have hb1:=hb.ext HX1.out
  have hbl1:∀ b o n c,bl=.slice (some ⟨b,o,none⟩) n c→b<W1.heap.size:=fun b o n c e=>Nat.lt_of_lt_of_le (hbl b o n c e) HX1.out.size
  have hx1:=hx.ext HX1.out
  have hA1:=hA.ext HX1.out
  have E1:=E.ext HX1.out
  have T1:=T.ext HX1.out
  have hCz:(Tryz.prog.info? 31).map (·.size)=some C.size:=by rw [hC.n];kernel_rfl
  obtain ⟨hvo,hvf,hCC,-,hff,-⟩:=id hx1
  have hCCz:(Tryz.prog.info? 83).map (·.size)=some CC.size:=by rw [hCC];kernel_rfl
  have hCC1:CC[1]?=some (.string x.root):=by rw [hCC];rfl
  have hfl:x.files.length≤9223372036854775807:=by
    obtain ⟨_,_,_,h1,h2,_⟩:=hff
    unfold maxLen at h2
    omega
  have hll:l.length≤9223372036854775807:=by
    obtain ⟨_,_,_,h1,h2,_⟩:=hA1
    unfold maxLen at h2
    omega
  have hbs:∃ a cap,bl=.slice a R.hs.length cap:=by
    obtain ⟨a,cap,e,_⟩:=hb
    exact ⟨a,cap,e⟩
  have hhl:R.hs.length≤9223372036854775807:=by
    obtain ⟨a,cap,e,h1,h2,_⟩:=hb
    omega
  have HCz:=Lib.hid hCz
  have HCCz:=Lib.hid hCCz
  have HCC1:=Lib.hid hCC1
  have HLg:=Lib.hid (large23_any R C bl CC x va l W1 hC hbs hp hx1 hA1 hll hfl hhl)
  have AW:=fun w1 (y:Ext W1 w1)=>Lib.hid (awake23_any w1 (E1.ext y) (T1.ext y))
  clear hb hbl hx hA E T hCz hCCz hCC1 hff hfl hll hhl hCC hvo hvf
  obtain ⟨br,hbr⟩:∃ br,br=w.heap.size:=⟨_,rfl⟩
  obtain ⟨bc,hbc⟩:∃ bc,bc=w.heap.size+1:=⟨_,rfl⟩
  rw [←hbr] at hB3
  rw [←hbc] at hB4
  have HB3:=Lib.hid hB3
  have HB4:=Lib.hid hB4
  have HBr:=Lib.hid hbr
  have HBc:=Lib.hid hbc
  have HW1:=Lib.hid hW1
  clear hB3 hB4 hbr hbc hW1
  cases hlg:largeV R x l with
  | true =>
    rw [hlg] at HLg
    clear hb1 hbl1 hx1 hA1 E1 T1 hC hlg hbs hsh hlo hhi hp
    go_enter Tryz.func9,Tryz.ntmps9
    go_upto_region 1 with (fail)
    rw [←HW1.out,←HBc.out,←HBr.out]
    go_wp2_with (first
      | (refine wpList_load_row rfl 31 (.tmp 3) rfl br rfl 31 C (0,0) _ HB3.out Tryz.underlying31 rfl HCz.out ?_;go_frame)
      | (refine wpList_load_row rfl 83 (.tmp 4) rfl bc rfl 83 CC (0,0) _ HB4.out Tryz.underlying83 rfl HCCz.out ?_;go_frame))
    refine HLg.out.mono ?_
    rintro e w1 ⟨rfl,x1⟩
    have X1:=Lib.hid x1
    clear x1 HLg
    go_wp2_with fail
    refine (AW _ X1.out).out.mono ?_
    rintro e w2 ⟨rfl,x2⟩
    have X2:=Lib.hid (X1.out.trans x2)
    clear x2
    go_wp2_with fail
    go_ret
    exact ⟨rfl,HX1.out.trans X2.out⟩
  | false =>
    rw [hlg] at HLg
    obtain ⟨hf10,hl20,hh50,hrt,hpt,hod,hfs,hds⟩:=largeV_not hlg
    by_cases hroom:x.room<1024∨1048576<x.room
    case pos =>
      have HOp:=fun w1 (y:Ext W1 w1)=>Lib.hid (opened23_bad C CC x w1 (hx1.ext y) hroom)
      clear hb1 hbl1 hx1 hA1 E1 T1 hC hlg hbs hsh hlo hhi hp hf10 hl20 hh50 hrt hpt hod hfs hds hroom
      go_enter Tryz.func9,Tryz.ntmps9
      go_upto_region 1 with (fail)
      rw [←HW1.out,←HBc.out,←HBr.out]
      go_wp2_with (first
            | (refine wpList_load_row rfl 31 (.tmp 3) rfl br rfl 31 C (0,0) _ HB3.out Tryz.underlying31 rfl HCz.out ?_;go_frame)
            | (refine wpList_load_row rfl 83 (.tmp 4) rfl bc rfl 83 CC (0,0) _ HB4.out Tryz.underlying83 rfl HCCz.out ?_;go_frame))
      refine HLg.out.mono ?_
      rintro e w1 ⟨rfl,x1⟩
      have X1:=Lib.hid x1
      have HB31:=Lib.hid ((x1.block (ltB HB3.out)).trans HB3.out)
      have HB41:=Lib.hid ((x1.block (ltB HB4.out)).trans HB4.out)
      clear x1 HLg
      go_wp2_with (first
            | (refine wpList_load_row rfl 31 (.tmp 3) rfl br rfl 31 C (0,0) _ HB31.out Tryz.underlying31 rfl HCz.out ?_;go_frame)
            | (refine wpList_load_row rfl 83 (.tmp 4) rfl bc rfl 83 CC (0,0) _ HB41.out Tryz.underlying83 rfl HCCz.out ?_;go_frame))
      refine (HOp _ X1.out).out.mono ?_
      rintro e w2 ⟨rfl,x2⟩
      have X2:=Lib.hid (X1.out.trans x2)
      clear x2
      go_wp2_with fail
      refine (AW _ X2.out).out.mono ?_
      rintro e w9 ⟨rfl,x9⟩
      have X9:=Lib.hid (X2.out.trans x9)
      clear x9
      go_wp2_with fail
      go_ret
      exact ⟨rfl,HX1.out.trans X9.out⟩

    case neg =>
      obtain ⟨aa,ac,rfl,ha1,ha2,hac⟩:=hA1
      unfold maxLen at ha2
      have HAc:=Lib.hid hac
      have HDs:=Lib.hid hds
      obtain ⟨m,hm⟩:∃ m,m=l.length:=⟨_,rfl⟩
      have HM:=Lib.hid hm
      rw [←hm] at ha1 hl20 HLg ⊢
      clear hac hds hm
      obtain ⟨room,hrm⟩:∃ room:Nat,x.room=(room:Int):=⟨x.room.toNat,by omega⟩
      have HOp:=fun w1 (y:Ext W1 w1)=>Lib.hid (opened23_ok R C bl CC x w1 hC (hx1.ext y) (E1.ext y) (T1.ext y) room hrm (by omega) (by omega) hf10 hfs hrt hpt hod)
      clear hrm hroom
      go_enter Tryz.func9,Tryz.ntmps9
      go_upto_region 1 with (fail)
      rw [←HW1.out,←HBc.out,←HBr.out]
      go_wp2_with (first
            | (refine wpList_load_row rfl 31 (.tmp 3) rfl br rfl 31 C (0,0) _ HB3.out Tryz.underlying31 rfl HCz.out ?_;go_frame)
            | (refine wpList_load_row rfl 83 (.tmp 4) rfl bc rfl 83 CC (0,0) _ HB4.out Tryz.underlying83 rfl HCCz.out ?_;go_frame))
      refine HLg.out.mono ?_
      rintro e w1 ⟨rfl,x1⟩
      have X1:=Lib.hid x1
      have HB31:=Lib.hid ((x1.block (ltB HB3.out)).trans HB3.out)
      have HB41:=Lib.hid ((x1.block (ltB HB4.out)).trans HB4.out)
      clear x1 HLg
      go_wp2_with (first
            | (refine wpList_load_row rfl 31 (.tmp 3) rfl br rfl 31 C (0,0) _ HB31.out Tryz.underlying31 rfl HCz.out ?_;go_frame)
            | (refine wpList_load_row rfl 83 (.tmp 4) rfl bc rfl 83 CC (0,0) _ HB41.out Tryz.underlying83 rfl HCCz.out ?_;go_frame))
      refine (HOp _ X1.out).out.mono ?_
      rintro e w2 ⟨d,q,F,G,rfl,hh⟩
      obtain ⟨K,T2,qf,ff,pl,X,h2,hR,hS,hX,hq⟩:=hh.out
      have HS2:=Lib.hid (h2.from X1.out)
      have X2:=Lib.hid HS2.out.is_ext
      have HB32:=Lib.hid ((X2.out.block (ltB HB3.out)).trans HB3.out)
      have HB42:=Lib.hid ((X2.out.block (ltB HB4.out)).trans HB4.out)
      have k1:w2.cell? ⟨bc,1,none⟩=some (.string x.root):=(cellB HB42.out).trans HCC1.out
      clear hh h2
      cases hpl:placeB x.root R.path with
      | false =>
        have HO2:=fun w'=>Lib.hid (ropen23_path x.root R C bl (.pointer (some ⟨G,0,none⟩)) (.pointer (some ⟨q,0,none⟩)) w' hC (by omega) (by omega) hpl)
        have HO1:=Lib.hid (open_path x.root R C bl (.pointer (some ⟨F,0,none⟩)) ⟨d,0,none⟩ w2 hC (E1.ext X2.out) (T1.ext X2.out) (by omega) (by omega) hpl)
        have n1:((10:Int) != 0)=true:=by decide
        have n2:((10:Int) != 10)=false:=by decide
        clear hb1 hbl1 hx1 E1 T1 hC hlg hbs hsh hlo hhi hp hf10 hl20 hh50 hrt hpt hod hfs hR hS hX hq T2 HS2 HAc HDs HM ha1 ha2
        go_wp2_with (first
              | (refine wpList_load_row rfl 31 (.tmp 3) rfl br rfl 31 C (0,0) _ HB32.out Tryz.underlying31 rfl HCz.out ?_;go_frame))
        refine HO1.out.mono ?_
        rintro e w3 ⟨rfl,x3⟩
        have X3:=Lib.hid (X2.out.trans x3)
        have HB33:=Lib.hid ((X3.out.block (ltB HB3.out)).trans HB3.out)
        have k1:w3.cell? ⟨bc,1,none⟩=some (.string x.root):=(cellB ((X3.out.block (ltB HB4.out)).trans HB4.out)).trans HCC1.out
        clear x3 HO1
        go_wp2_with (first
              | (refine wpList_load_row rfl 31 (.tmp 3) rfl br rfl 31 C (0,0) _ HB33.out Tryz.underlying31 rfl HCz.out ?_;go_frame))
        refine (HO2 _).out.mono ?_
        rintro e w4 ⟨rfl,x4⟩
        have X4:=Lib.hid (X3.out.trans x4)
        clear x4 HO2 k1
        go_wp2_with fail
        refine (AW _ X4.out).out.mono ?_
        rintro e w9 ⟨rfl,x9⟩
        have X9:=Lib.hid (X4.out.trans x9)
        clear x9
        go_wp2_with fail
        go_ret
        exact ⟨rfl,HX1.out.trans X9.out⟩

      | true =>
        by_cases hw:R.wanted=0
        case neg =>
          have HO2:=fun w'=>Lib.hid (ropen23_err x.root R C bl (.pointer (some ⟨G,0,none⟩)) (.pointer (some ⟨q,0,none⟩)) w' hC hbs hlo hhi (by omega) (by omega) hpl hw)
          have HO1:=Lib.hid (open_err x.root R C bl (.pointer (some ⟨F,0,none⟩)) w2 hC hbs hlo hhi (E1.ext X2.out) (T1.ext X2.out) (by omega) (by omega) hpl hw d _ _ K (HS2.out.at (t:=.disk d K) (by simp)).choose_spec.choose_spec.1 (T2.data _))
          have n1:(R.wanted != 0)=true:=by simpa using hw
          have n2:(R.wanted != R.wanted)=false:=by simp
          generalize R.wanted=wz at *
          clear hb1 hbl1 hx1 E1 T1 hC hlg hbs hsh hlo hhi hp hf10 hl20 hh50 hrt hpt hod hfs hR hS hX hq T2 HS2 HAc HDs HM ha1 ha2
          go_wp2_with (first
                | (refine wpList_load_row rfl 31 (.tmp 3) rfl br rfl 31 C (0,0) _ HB32.out Tryz.underlying31 rfl HCz.out ?_;go_frame))
          refine HO1.out.mono ?_
          rintro e w3 ⟨rfl,x3⟩
          have X3:=Lib.hid (X2.out.trans x3)
          have HB33:=Lib.hid ((X3.out.block (ltB HB3.out)).trans HB3.out)
          have k1:w3.cell? ⟨bc,1,none⟩=some (.string x.root):=(cellB ((X3.out.block (ltB HB4.out)).trans HB4.out)).trans HCC1.out
          clear x3 HO1
          go_wp2_with (first
                | (refine wpList_load_row rfl 31 (.tmp 3) rfl br rfl 31 C (0,0) _ HB33.out Tryz.underlying31 rfl HCz.out ?_;go_frame))
          refine (HO2 _).out.mono ?_
          rintro e w4 ⟨rfl,x4⟩
          have X4:=Lib.hid (X3.out.trans x4)
          clear x4 HO2 k1
          go_wp2_with fail
          refine (AW _ X4.out).out.mono ?_
          rintro e w9 ⟨rfl,x9⟩
          have X9:=Lib.hid (X4.out.trans x9)
          clear x9
          go_wp2_with fail
          go_ret
          exact ⟨rfl,HX1.out.trans X9.out⟩

        case pos =>
          obtain ⟨N,G0⟩:=RecS.good hw
          have hnm:=place_some (root:=x.root) (p:=R.path)
          have hmay:=place_may hpl
          have hnz:=mayB_size hmay
          obtain ⟨ps0,hpo0,hpl0,hOp⟩:=opens23 (W1:=W1) HS2.out (d:=d) (q:=q) (F:=F) (G:=G) (qf:=qf) (by simp) (by simp) (by simp) (by simp) hR hS (by omega) (by omega) T2 (by omega) x.root R C bl N hC G0 hb1 hsh hbl1 E1 T1 (by omega) (by omega) hpl
          have HO1:=Lib.hid hOp
          have HRe:=Lib.hid (fun w' (t u:Nat) K' ps n (h:Things W1 w' (six d q F G t u qf K' ff pl X R N (placeS x.root R.path) ps)) (T3:Two n K') (hn:n≤1000)=>opens23 (W1:=W1) h (d:=d) (q:=q) (F:=F) (G:=G) (qf:=qf) (by simp) (by simp) (by simp) (by simp) hR hS (by omega) (by omega) T3 hn x.root R C bl N hC G0 hb1 hsh hbl1 E1 T1 (by omega) (by omega) hpl)
          have HAl:=Lib.hid (fun w' (t u:Nat) K' ps n (h:Things W1 w' (six d q F G t u qf K' ff pl X R N (placeS x.root R.path) ps)) (T3:Two n K') (ho:PsOk N R.hs ps)=>alike23_any h (t:=t) (u:=u) (d:=d) (q:=q) (K:=K') (r:=R) (N:=N) (ps:=ps) (by simp) (by simp) (by simp) (by simp) (E1.ext h.is_ext) hnm (by omega) ho G0.small (by have:=live_few T3.run;omega) (by have:=T3.run.ok.live.used;have:=T3.run.ok.r2;omega))
          have HSv:=Lib.hid (fun w' (t u:Nat) K' ps n B (h:Things W1 w' (six d q F G t u qf K' ff pl X R N (placeS x.root R.path) ps++B)) (T3:Two n K') (hn:n≤1000) (ho:PsOk N R.hs ps)=>saves23 h E1 T3 hn hnm hnz ho)
          have HDr:=Lib.hid (fun w' (t u:Nat) K' ps n B (h:Things W1 w' (six d q F G t u qf K' ff pl X R N (placeS x.root R.path) ps++B)) (T3:Two n K') (hn:n≤1000)=>drops23 h E1 T3 hn hnm hmay)
          have HPt:=Lib.hid (fun w' (t u:Nat) K' ps (vo:Value) (B:List Thing) (h:Things W1 w' (six d q F G t u qf K' ff pl X R N (placeS x.root R.path) ps++B)) (ho:PsOk N R.hs ps) (hl:ps.length=countN N)=>puts23 (vo:=vo) h T1 hnm ho hl)
          generalize placeS x.root R.path=name at *
          clear hb1 hbl1 hx1 E1 T1 hC hlg hbs hsh hlo hhi hp hf10 hh50 hrt hpt hod hfs hR hS hX hq HS2 hpl hw G0 hnm hmay hnz hOp
          go_wp2_with (refine wpList_load_row rfl 31 (.tmp 3) rfl br rfl 31 C (0,0) _ HB32.out Tryz.underlying31 rfl HCz.out ?_;go_frame)
          refine HO1.out.mono ?_
          rintro e w3 ⟨t,rfl,h3⟩
          have X3:=Lib.hid h3.out.1
          have HO2:=Lib.hid h3.out.2
          have HB33:=Lib.hid ((X3.out.block (ltB HB3.out)).trans HB3.out)
          have k1:w3.cell? ⟨bc,1,none⟩=some (.string x.root):=(cellB ((X3.out.block (ltB HB4.out)).trans HB4.out)).trans HCC1.out
          clear h3 HO1
          go_wp2_with (refine wpList_load_row rfl 31 (.tmp 3) rfl br rfl 31 C (0,0) _ HB33.out Tryz.underlying31 rfl HCz.out ?_;go_frame)
          refine HO2.out.mono ?_
          rintro e w4 ⟨u,rfl,h4⟩
          have H4:=Lib.hid (show Things W1 w4 (six d q F G t u qf K ff pl X R N name ps0) from h4.out)
          have HA4:=Lib.hid (HAl.out w4 t u K ps0 3 H4.out T2 hpo0)
          clear h4 HO2 k1 HB33
          go_wp2_with fail
          refine HA4.out.mono ?_
          rintro e w5 ⟨rfl,x5⟩
          have H5:=Lib.hid (H4.out.ext x5)
          clear x5 H4 HA4
          go_wp2_with fail
          go_loopw [11,13,15] (fun tv uv iv wr=>Hid (∃ (k t u:Nat) (K:Dk) (ps:List (Option (List UInt8))),k≤m∧tv=.pointer (some ⟨t,0,none⟩)∧uv=.pointer (some ⟨u,0,none⟩)∧iv=.int .i64 k∧Two (3+k) K∧PsOk N R.hs ps∧ps.length=countN N∧Things W1 wr (six d q F G t u qf K ff pl X R N name ps))) (fun _ _ iv _=>m - (intOf iv).toNat)
          case atStart=>exact ⟨0,t,u,K,ps0,Nat.zero_le _,rfl,rfl,rfl,T2,hpo0,hpl0,H5.out⟩
          case round =>
            obtain ⟨k,t1,u1,K1,ps,hk,rfl,rfl,rfl,T3,hpo,hpl3,hth⟩:=hrel.out
            clear hrel H5
            by_cases hlt:k<m
            · obtain ⟨y,hy⟩:∃ y,l[k]?=some y:=⟨_,List.getElem?_eq_getElem (by have:=HM.out;omega)⟩
              obtain ⟨g,o,pv,rfl,⟨hby,hyk,hyi,hyn⟩,hcell⟩:=HAc.out k y hy
              obtain ⟨pa,pc,rfl,-⟩:=id hby
              have hyd:=HDs.out y (List.mem_of_getElem? hy)
              have HLD:=Lib.hid (show wr.rangeAt g (o+k*4) (#[.int .i64 y.k,.int .i64 y.i,.slice pa y.d.length pc,.bool y.again]:Array Value).toList from fun j z hj=>(hth.is_ext.cell (lt_of_cell (hcell j z hj))).trans (hcell j z hj))
              have HBy:=Lib.hid (bytesOff_any (bytesOff_in hby) (Ext.refl W1) (Nat.le_refl _))
              have HYn:=Lib.hid (show ∀ cap,Value.slice pa y.d.length pc=.slice none 0 cap→cap=0 from fun c e=>hyn 0 c e)
              have hbx:=block_alloc_new wr (.cells #[.int .i64 y.k,.int .i64 y.i,.slice pa y.d.length pc,.bool y.again] 95 (0,0))
              have hTh:Things W1 (wr.alloc (.cells #[.int .i64 y.k,.int .i64 y.i,.slice pa y.d.length pc,.bool y.again] 95)) (six d q F G t1 u1 qf K1 ff pl X R N name ps++[.obj wr.heap.size (.cells #[.int .i64 y.k,.int .i64 y.i,.slice pa y.d.length pc,.bool y.again] 95 (0,0))]) :=
                hth.add (M:=[]) (I:=[wr.heap.size]) ((Ext.refl wr).alloc _) ⟨rfl,rfl,hbx⟩ (fun _ h=>by cases h) (fun b hb=>by rw [List.mem_singleton.1 hb];exact Nat.le_refl _)
              have HTh:=Lib.hid hTh
              have hkm:(k:Int)<(m:Int):=by omega
              clear hby hyn hcell hy hth hTh
              generalize y.k=yk at *
              generalize y.i=yi at *
              generalize y.again=ya at *
              have HPn:=Lib.hid (show yd_len y.d y.d.length from rfl)
              generalize y.d.length=pn at *
              generalize y.d=yd at *
              go_upto_region 18 with (refine wpList_load_at rfl 95 (.tmp 81) rfl g (o+k*4) rfl _ _ HLD.out Tryz.underlying95 rfl (by kernel_rfl) ?_;go_frame)
              generalize wr.alloc (.cells #[.int .i64 yk,.int .i64 yi,.slice pa pn pc,.bool ya] 95)=wx at *
              obtain ⟨bx,hbx2⟩:∃ bx,bx=wr.heap.size:=⟨_,rfl⟩
              rw [←hbx2] at hbx HTh ⊢
              clear hbx2 HLD
              have b0:wx.cell? ⟨bx,0,none⟩=some (.int .i64 yk):=cellB hbx
              go_upto_region 26 with (fail)
              generalize bits BinOp.and IntKind.i64 yk 3=sw at *
              have hsw:(sw==(2:Int))=true∨((sw==(2:Int))=false∧((sw==(3:Int))=true∨(sw==(3:Int))=false)):=by
                cases h2:(sw==(2:Int)) <;> cases h3:(sw==(3:Int)) <;> simp
              rcases hsw with s2 | ⟨s2,s3 | s3⟩
              case' inl =>
                obtain ⟨c,K2,T4,hS⟩:=HSv.out wx t1 u1 K1 ps (3+k) _ HTh.out T3 (by omega) hpo
                have HS:=Lib.hid hS
                clear hS b0
                go_wp2_with fail
                refine HS.out.mono ?_
                rintro e wy ⟨rfl,hy⟩
                have HS2:=Lib.hid hy.out.2
                clear hy HS
                go_wp2_with fail
                refine HS2.out.mono ?_
                rintro e wz ⟨rfl,hz⟩
                have HZ:=Lib.hid hz.out
                obtain ⟨ps2,rfl⟩:∃ p,p=ps:=⟨_,rfl⟩
                have hpo2:=hpo
                have hpl2:=hpl3
                clear hz HS2 hpo hpl3 HTh T3
              case' inr.inl =>
                obtain ⟨c,K2,T4,hS⟩:=HDr.out wx t1 u1 K1 ps (3+k) _ HTh.out T3 (by omega)
                have HS:=Lib.hid hS
                clear hS b0
                go_wp2_with fail
                refine HS.out.mono ?_
                rintro e wy ⟨rfl,hy⟩
                have HS2:=Lib.hid hy.out.2
                clear hy HS
                go_wp2_with fail
                refine HS2.out.mono ?_
                rintro e wz ⟨rfl,hz⟩
                have HZ:=Lib.hid hz.out
                obtain ⟨ps2,rfl⟩:∃ p,p=ps:=⟨_,rfl⟩
                have hpo2:=hpo
                have hpl2:=hpl3
                clear hz HS2 hpo hpl3 HTh T3
              case' inr.inr =>
                obtain ⟨K2,rfl⟩:∃ x,x=K1:=⟨_,rfl⟩
                have T4:=T3.mono (show 3+k≤3+k+1 by omega)
                have xw:=(Ext.refl wx).alloc (.cells #[] 5 (0,0))
                have hown:=World.ownsRow_lit (base:=wx.heap.size) (e:=5) (size:=1) wx #[] 0 (Nat.le_refl _) (by decide) rfl
                have hpn:yd.length=pn:=HPn.out
                obtain ⟨vo,wo,hro,hoo,hgo⟩:=run_add_bytes (b:=W1.heap.size) (base:=wx.heap.size) (g:=wx.heap.size) (bytesOff_any HBy.out (HTh.out.is_ext.trans xw) (Nat.le_refl _)) (by omega) hown xw.size 22
                have xo:Ext wx wo:=ext_own xw (Nat.le_refl _) hown hgo
                rw [hpn] at hoo
                obtain ⟨oa,oc,rfl⟩:=rowk_shape hoo
                have hTo:Things W1 wo (six d q F G t1 u1 qf K2 ff pl X R N name ps++[.obj bx (.cells #[.int .i64 yk,.int .i64 yi,.slice pa pn pc,.bool ya] 95 (0,0)),.gen (scrG (.slice oa pn oc) pn)]):=HTh.out.scr xo hoo (Nat.le_refl _)
                obtain ⟨c,ps2,hpo2,hpl2,hP⟩:=HPt.out wo t1 u1 K2 ps (.slice oa pn oc) [.obj bx (.cells #[.int .i64 yk,.int .i64 yi,.slice pa pn pc,.bool ya] 95 (0,0)),.gen (scrG (.slice oa pn oc) pn)] hTo hpo hpl3 yi yd (by omega) _ HBy.out HYn.out (own_off hoo)
                have HP:=Lib.hid hP
                have HRo:=Lib.hid hro
                have hbo:=obj_in hTo (List.mem_append_right _ (List.mem_cons_self ..))
                have b1:wo.cell? ⟨bx,1,none⟩=some (.int .i64 yi):=cellB hbo
                have b2:(wx.alloc (.cells #[] 5)).cell? ⟨bx,2,none⟩=some (.slice pa pn pc):=cellB ((xw.block (ltB hbx)).trans hbx)
                clear hP hro hoo hgo hown xo xw hTo hbo hpo hpl3 b0 HTh T3 hpn HBy HYn
                go_wp2_with (refine wpList_run rfl (run_addOp (T:=22) rfl rfl rfl HRo.out) ?_;go_frame)
                refine HP.out.mono ?_
                rintro e wy ⟨rfl,hy⟩
                have hby:=hy.out.1 _ _ (List.mem_cons_self ..)
                have b1:wy.cell? ⟨bx,1,none⟩=some (.int .i64 yi):=cellB hby
                have b2:wy.cell? ⟨bx,2,none⟩=some (.slice pa pn pc):=cellB hby
                have HP2:=Lib.hid hy.out.2
                clear hy HP hby HRo
                go_wp2_with fail
                refine HP2.out.mono ?_
                rintro e wv ⟨rfl,hz⟩
                have HV:=Lib.hid hz.out
                clear hz HP2 b1 b2
                go_wp2_with fail
                go_loopw [18] (fun jv wr2=>Hid (∃ j:Nat,j≤pn∧jv=.int .i64 j∧Things W1 wr2 (six d q F G t1 u1 qf K2 ff pl X R N name ps2++[.obj bx (.cells #[.int .i64 yk,.int .i64 yi,.slice pa pn pc,.bool ya] 95 (0,0)),.gen (scrG (.slice oa pn oc) pn)]))) (fun jv _=>pn - (intOf jv).toNat)
                case atStart=>exact ⟨0,Nat.zero_le _,rfl,HV.out⟩
                case' round =>
                  obtain ⟨j,hj,rfl,hth⟩:=hrel.out
                  clear hrel HV
                  by_cases hjl:j<pn
                  case' pos =>
                    obtain ⟨g9,cap9,xb,cs,e,hg,hks,hc,hput⟩:=scr_turn (A:=six d q F G t1 u1 qf K2 ff pl X R N name ps2++[.obj bx (.cells #[.int .i64 yk,.int .i64 yi,.slice pa pn pc,.bool ya] 95 (0,0))]) (B:=[]) hth hjl
                    simp only [Value.slice.injEq] at e
                    obtain ⟨rfl,-,rfl⟩:=e
                    have hkn:(j:Int)<(pn:Int):=by omega
                    have HPu:=Lib.hid hput
                    have hfz:wr.frozen? ⟨g9,j,none⟩=false:=frozenB hg
                    clear hput hg hth
                    go_wp2_with fail
                    go_roundw
                    case rel=>exact ⟨j+1,by omega,by go_num,by rw [xor_byte];exact HPu.out _⟩
                    case measure=>simp [intOf] <;> omega
                  case' neg =>
                    obtain rfl:pn=j:=by omega
                    have nlt:decide ((pn:Int)<(pn:Int))=false:=by simp
                    obtain ⟨wz,rfl⟩:∃ x,x=wr:=⟨_,rfl⟩
                    have HZ:=Lib.hid (hth.fewer (L':=six d q F G t1 u1 qf K2 ff pl X R N name ps2++[.obj bx (.cells #[.int .i64 yk,.int .i64 yi,.slice pa pn pc,.bool ya] 95 (0,0))]) (by simp))
                    clear hth
              all_goals
                have hbz:=obj_in HZ.out (List.mem_append_right _ (List.mem_singleton_self _))
                have b3:wz.cell? ⟨bx,3,none⟩=some (.bool ya):=cellB hbz
                have HY:=Lib.hid (HZ.out.fewer (L':=six d q F G t1 u1 qf K2 ff pl X R N name ps2) (List.sublist_append_left _ _))
                clear HZ hbz
                cases ya
                case' false =>
                  obtain ⟨t2,rfl⟩:∃ x,x=t1:=⟨_,rfl⟩
                  obtain ⟨u2,rfl⟩:∃ x,x=u1:=⟨_,rfl⟩
                  obtain ⟨ps3,rfl⟩:∃ x,x=ps2:=⟨_,rfl⟩
                  have HQ:=HY
                  have HA:=Lib.hid (HAl.out _ t2 u2 K2 ps3 (3+k+1) HQ.out T4 hpo2)
                  go_wp2_with fail
                case' true =>
                  obtain ⟨ps3,hpo3,hpl4,hO⟩:=HRe.out wz t1 u1 K2 ps2 (3+k+1) HY.out T4 (by omega)
                  have HO:=Lib.hid hO
                  have Xz:=Lib.hid HY.out.is_ext
                  have HB3z:=Lib.hid ((Xz.out.block (ltB HB3.out)).trans HB3.out)
                  have k1:wz.cell? ⟨bc,1,none⟩=some (.string x.root):=(cellB ((Xz.out.block (ltB HB4.out)).trans HB4.out)).trans HCC1.out
                  clear hO hpo2 hpl2
                  go_wp2_with (refine wpList_load_row rfl 31 (.tmp 3) rfl br rfl 31 C (0,0) _ HB3z.out Tryz.underlying31 rfl HCz.out ?_;go_frame)
                  refine HO.out.mono ?_
                  rintro e wa ⟨t2,rfl,ha⟩
                  have Xa:=Lib.hid ha.out.1
                  have HO2:=Lib.hid ha.out.2
                  have HB3a:=Lib.hid ((Xa.out.block (ltB HB3.out)).trans HB3.out)
                  have k1:wa.cell? ⟨bc,1,none⟩=some (.string x.root):=(cellB ((Xa.out.block (ltB HB4.out)).trans HB4.out)).trans HCC1.out
                  clear ha HO HB3z
                  go_wp2_with (refine wpList_load_row rfl 31 (.tmp 3) rfl br rfl 31 C (0,0) _ HB3a.out Tryz.underlying31 rfl HCz.out ?_;go_frame)
                  refine HO2.out.mono ?_
                  rintro e wb ⟨u2,rfl,hb⟩
                  have HQ:=Lib.hid (hb.out.fewer (L':=six d q F G t2 u2 qf K2 ff pl X R N name ps3) (.cons_cons _ (.cons_cons _ (.cons_cons _ (.cons_cons _ (.cons _ (.cons _ (.refl _))))))))
                  have hpo2:=hpo3
                  have hpl2:=hpl4
                  have HA:=Lib.hid (HAl.out _ t2 u2 K2 ps3 (3+k+1) HQ.out T4 hpo2)
                  clear hb HO2 HB3a k1 hpo3 hpl4
                  go_wp2_with fail
                all_goals
                  refine HA.out.mono ?_
                  rintro e wd ⟨rfl,xd⟩
                  have HD:=Lib.hid (HQ.out.ext xd)
                  clear xd HQ HA
                  go_wp2_with fail
                  go_roundw
                  case rel=>exact ⟨k+1,t2,u2,K2,ps3,by omega,rfl,rfl,by go_num,T4.mono (by omega),hpo2,hpl2,HD.out⟩
                  case measure=>simp [intOf] <;> omega
            · obtain rfl:k=m:=by omega
              have nlt:decide ((k:Int)<(k:Int))=false:=by simp
              have XE:=Lib.hid hth.is_ext
              clear hth
              go_wp2_with fail
              refine (AW _ XE.out).out.mono ?_
              rintro e w9 ⟨rfl,x9⟩
              have X9:=Lib.hid (XE.out.trans x9)
              clear x9
              go_wp2_with fail
              go_ret
              exact ⟨rfl,HX1.out.trans X9.out⟩

-- BEGUN
set_option maxRecDepth 100000 in
theorem begun {H:Type} {enc:TypeId×Value→H} (W:World) (args:Array Value) (ds:List (DataW H)) (p:List MemPlace) (st:Start enc Rows.tempPlaysRow.laid Tryz.f9 W args ds p) :
    Calls Tryz.prog 9 args W fun e W'=>e=.returned (.bool true)∧Below W.heap.size W W':=by
  obtain ⟨⟨base,hval⟩,hA,hfit,hl,hsh⟩:=st
  rw [Tryz.params9] at hA hval hfit
  obtain ⟨v0,v1,v2,d0,d1,d2,p0,p1,p2,rfl,rfl,rfl,h0,h1,h2⟩:=trodAll_three hA
  have hfit:((DataW.weightsEach Tryz.prog [31,83,84] [d0,d1,d2]).all (·≤reachBytes))=true:=hfit
  simp only [DataW.weightsEach,List.append_nil,List.all_append,Bool.and_eq_true] at hfit
  obtain ⟨C,R,bl,rfl,hC,hbs,hsh2,hbl,hp,hlo,hhi⟩:=open_rec (hval 0 31 v0 rfl rfl) h0 hfit.1
  obtain ⟨CC,x,rfl,hx⟩:=open_case (hval 1 83 v1 rfl rfl) h1 hfit.2.1
  obtain ⟨l,hla⟩:=open_acts23 (hval 2 84 v2 rfl rfl) h2 hfit.2.2
  exact walk C CC R bl v2 x l W hC hbs hsh2 hbl hp hlo hhi hx hla (env_of hsh) (sha_of hl 1 2 rfl rfl)

set_option maxRecDepth 100000 in
theorem said:Rows.TempPlaysSaid :=
  OpenClaim.holds_of_wide 9 Tryz.f9 rfl rfl rfl rfl rfl rfl rfl ⟨rfl,rfl,rfl,rfl,rfl⟩ rfl rfl rfl rfl rfl named Tryz.func9 facts
    (of_decide_eq_true (by kernel_rfl)) (by unfold Func.isWrapper;first | (rw [if_pos (by decide +kernel)];kernel_rfl) | (rw [if_neg (by decide +kernel)];exact ⟨rfl,rfl⟩))
    (fun os started H enc _=>lifted Rows.tempPlaysRow.laid (by kernel_rfl) 9 Tryz.f9 Tryz.func9 Rows.tempPlaysSpec rfl (by kernel_rfl) (by kernel_rfl)
      (by rw [Tryz.params9]
          have hall:([31,83,84].all fun t=>Tryz.prog.readableRec t&&decide (t<Tryz.prog.types.size))=true:=by kernel_rfl
          intro t ht
          have:=List.all_eq_true.1 hall t ht
          simpa using this)
      (by intro H ts ds h hl;rw [Tryz.params9] at h;subst h
          match ds,hl with
          | [d1,d2,d3],_=>rfl)
      Rows.tempPlaysRow.domain os started H enc #[.agg (rec16C ⟨#[]⟩),.agg #[.int .i64 0,.string ⟨#[]⟩,.int .i64 0,.slice none 0 0,.slice none 0 0],.slice none 0 0] (by kernel_rfl) (by kernel_rfl) (by kernel_rfl)
      (World.shaped_of_ZipB (by kernel_rfl) (by kernel_rfl)) (laidMet_laidAll _ (by kernel_rfl) (by kernel_rfl))
      begun)

theorem card:Rows.TempPlaysCardSaid :=
  Claim7.holds_tied_plain_at .later [] Rows.tempPlaysCard.laidKinds true Rows.tempPlaysCard.stood.harness Rows.tempPlaysCard.stood.looks said (fun _ h=>by cases h) card1 (fun _ h=>by cases h) tempPlays_row_tie rfl ⟨rfl,rfl⟩ card2 rfl
    (fun f fn hf hfn=>by
      obtain rfl:f=9:=Option.some.inj (named.symm.trans hf) |>.symm
      obtain rfl:fn=Tryz.f9:=(Option.some.inj (Tryz.func9.symm.trans hfn)).symm
      exact ⟨card3,fun j t ht=>by
        rw [Tryz.params9] at ht
        have hm:t∈[31,83,84]:=by simpa using Array.mem_of_getElem? ht
        have hall:=card4
        exact (show Tryz.pinned.checked.prog.wantsStandIn t=false by simpa using List.all_eq_true.1 hall t hm)⟩)
    card5
#print axioms card
end Go.Proofs.YtldppmjjgljinaaGreatDoor.lawTempPlays
