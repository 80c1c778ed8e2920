import Derived.Test.YtodickpibbbiiaaGreatDoorWkD2
import Derived.Test.YtodickpibbbiiaaGreatDoorWkE2
import Derived.Test.YtodickpibbbiiaaGreatDoorWkA1
import Derived.Test.YtodickpibbbiiaaGreatDoorWkB1
import Derived.Test.YtodickpibbbiiaaGreatDoorWkC3
import Derived.Lib.ConvBytes
import Derived.RangeFuncNested
import Derived.RangeFuncBound
import Derived.RangeFuncCalls
import Derived.RangeFuncLeaves
import Derived.Shelf.Abstract
import Derived.Shelf.RegionOpen
import Derived.WalkKit
import Derived.OwnWalkIn
import Derived.TacticsInMore
import Derived.LoopNIn
import Derived.LoopIn
import Derived.Great.BuildSlice
import Derived.Lib.ReflectliteSwap
open Go.Proofs.Tryz
namespace Go.Proofs.YtodickpibbbiiaaGreatDoor
section
open Go.RowKit
structure PutR where
 kind:Int
 p:ByteArray
 text:ByteArray
 long:Int
 time:Int
def putVal (x:PutR):List Value:=[.int .i64 x.kind,.string x.p,.string x.text,.int .i64 x.long,.int .i64 x.time]
structure PutOk (x:PutR):Prop where
 kind:IntKind.i64.min<=x.kind/\x.kind<=IntKind.i64.max
 long:IntKind.i64.min<=x.long/\x.long<=IntKind.i64.max
 p:x.p.size<=reach
 text:x.text.size<=reach
def PutsIn (w:World) (v:Value) (l:List PutR):Prop :=
 ∃ a cap,v=.slice a l.length cap/\l.length<=cap/\cap<=maxLen/\∀ (k:Nat) x,l[k]?=some x->PutOk x/\∃ g o,a=some ⟨g,o,none⟩/\∀ (j:Nat) u,(putVal x)[j]?=some u->w.cell? ⟨g,o+k*5+j,none⟩=some u
def waysK (p:ByteArray) (k:Nat):List ByteArray:=((List.range k).filter fun i=>decide (p.toList[i]?=some 47)).map fun i=>p.extract 0 i
def waysT (p:ByteArray):List ByteArray:=waysK p (min p.size 200)
theorem waysK_next (p:ByteArray) (k:Nat):waysK p (k+1)=waysK p k++if p.toList[k]?=some 47 then [p.extract 0 k] else []:=by
 unfold waysK;rw [List.range_succ,List.filter_append,List.map_append,List.filter_cons];by_cases h:p.toList[k]?=some 47
 ·rw [if_pos (decide_eq_true h),if_pos h];rfl
 ·rw [if_neg (by simpa using h),if_neg h];rfl
theorem waysK_len (p:ByteArray) (k:Nat):(waysK p k).length<=k:=by
 unfold waysK;rw [List.length_map];exact Nat.le_trans (List.length_filter_le _ _) (by rw [List.length_range];exact Nat.le_refl _)
theorem waysT_len (p:ByteArray):(waysT p).length<=200:=Nat.le_trans (waysK_len p _) (by omega)
theorem waysT_size {p q:ByteArray} (h:q∈waysT p):q.size<=p.size:=by
 unfold waysT waysK at h;obtain ⟨i,_,rfl⟩:=List.mem_map.1 h;simp;omega
def longN (t:ByteArray) (long:Int):Nat:=if t.size=0 then 0 else min long.toNat 6000
def longS (t:ByteArray) (long:Int):ByteArray:=⟨(dataL t (longN t long)).toArray⟩
theorem longN_le (t:ByteArray) (n:Int):longN t n<=6000:=by unfold longN;split <;> omega
theorem longS_size (t:ByteArray) (n:Int):(longS t n).size=longN t n:=by
 unfold longS;rw [size_mk,List.size_toArray,dataL_len]
def mkAll (D:Dk) (l:List ByteArray):Dk:=l.foldl (fun D q=>(D.act (.mkdir q)).2) D
def fillD (D:Dk) (x:PutR):Dk :=
 if x.kind=1 then (D.act (.write x.p (longS x.text x.long) x.time)).2
 else if x.kind=2 then (D.act (.mkdir x.p)).2
 else if x.kind=3 then (D.act (.link x.p x.text x.time)).2 else D
def putD (D:Dk) (x:PutR):Dk:=fillD (mkAll D (waysT x.p)) x
def madeD (l:List PutR):Dk:=l.foldl putD (Dk.made 262144)
theorem mkAll_snoc (D:Dk) (l:List ByteArray) (q:ByteArray):mkAll D (l++[q])=((mkAll D l).act (.mkdir q)).2:=by simp [mkAll]
theorem madeD_snoc (l:List PutR) (x:PutR):madeD (l++[x])=putD (madeD l) x:=by simp [madeD]
end
section
open Go.RowKit
structure RunF (k:Nat) (D:Dk):Prop where
 run:DkRun k D
 fl:Fl D
theorem RunF.act {k:Nat} {D:Dk} (R:RunF k D) (x:Eff):RunF (k+1) (D.act x).2:=⟨R.run.did (r:=(D.act x).1) rfl,R.fl.act x⟩
theorem RunF.mono {k m:Nat} {D:Dk} (R:RunF k D) (h:k<=m):RunF m D:=⟨R.run.mono h,R.fl⟩
theorem RunF.mkAll {k:Nat} {D:Dk} (R:RunF k D):∀ (l:List ByteArray),RunF (k+l.length) (mkAll D l):=by
 intro l
 induction l generalizing k D with
 | nil=>exact R
 | cons q r ih =>
  have:=ih (R.act (.mkdir q));rw [List.length_cons,show k+(r.length+1)=k+1+r.length from by omega];exact this
theorem RunF.fill {k:Nat} {D:Dk} (R:RunF k D) (x:PutR):RunF (k+1) (fillD D x):=by
 unfold fillD;split
 ·exact R.act _
 ·split
  ·exact R.act _
  ·split
   ·exact R.act _
   ·exact R.mono (by omega)
theorem RunF.put {k:Nat} {D:Dk} (R:RunF k D) (x:PutR):RunF (k+201) (putD D x):=(RunF.fill (R.mkAll (waysT x.p)) x).mono (by have:=waysT_len x.p;omega)
theorem RunF.made:∀ (l:List PutR),RunF (l.length*201) (madeD l):=by
 have key:∀ (l:List PutR) (D:Dk) (k:Nat),RunF k D->RunF (k+l.length*201) (l.foldl putD D):=by
  intro l
  induction l with
  | nil=>intro D k R;exact R.mono (by simp)
  | cons x r ih =>
   intro D k R;have:=ih _ _ (R.put x);rw [List.length_cons,List.foldl_cons];exact this.mono (by omega)
 intro l;have:=key l (Dk.made 262144) 0 ⟨DkRun.made (by decide) (by decide),Fl.made _⟩
 rwa [Nat.zero_add] at this
end
section
open Go.RowKit
set_option maxRecDepth 100000 in
set_option maxHeartbeats 2000000 in
theorem ways_any (p:ByteArray) (w:World) (hp:p.size<=4294967000) :
  Calls prog 58 #[.string p] w fun e w'=>∃ v,e=.returned v/\Hid (w'.ownsRow w.heap.size 9 1 v ((waysT p).length+1) ((waysT p++[p]).map Value.string)/\Ext w w'):=by
 have HT:=lh (show waysT p=waysK p (min p.size 200) from rfl);have hwl:=waysT_len p;generalize waysT p=T at *;go_enter func58,ntmps58;go_wp2_with fail;go_loopw [3,4] (fun v iv wr=>Hid (∃ k:Nat,k<=min p.size 200/\iv=.int .i64 k/\wr.ownsRow w.heap.size 9 1 v (waysK p k).length ((waysK p k).map Value.string)/\Ext w wr)) (fun _ iv _=>min p.size 200 - (intOf iv).toNat)
 case atStart=>exact ⟨0,Nat.zero_le _,rfl,World.ownsRow_nil _ _ _ _,Ext.refl _⟩
 case round =>
  obtain ⟨k,hk,rfl,ho,hx⟩:=hrel.out;clear hrel;have HX:=lh hx;have HO:=lh ho;have hs:=hx.size;obtain ⟨a0,cap0,rfl,_⟩:=row_slice ho;have hkl:=waysK_len p k;have HNX:=lh (waysK_next p k);clear ho hx;by_cases hlt:k<min p.size 200
  ·have h1:decide ((k:Int)<(p.size:Int))=true:=by rw [decide_eq_true_eq];omega
   have h2:decide ((k:Int)<200)=true:=by rw [decide_eq_true_eq];omega
   obtain ⟨z,hz⟩:∃ z,p.toList[k]?=some z:=⟨_,List.getElem?_eq_getElem (by rw [len_toList];omega)⟩
   have HZ:=lh (fun (h:(k:Int).toNat<p.size)=>show p[(k:Int).toNat]'h=z from by
    have h2:=getElem_toList p k (by omega);rw [hz] at h2
    exact (Option.some.inj h2).symm)
   have q1:((k:Nat):Int)<(p.size:Int):=by omega
   rw [hz] at HNX;have h0:k<p.size:=by omega
   have hpz:p[k]=z:=by
    have h2:=getElem_toList p k h0;rw [hz] at h2;exact (Option.some.inj h2).symm
   clear hz HZ;by_cases h47:z=47
   ·subst h47;have HNX2:=lh (show waysK p (k+1)=waysK p k++[p.extract 0 k] from by rw [HNX.out,if_pos rfl]);go_wp2_with (at_builtin;refine append_one el_string w.heap.size _ _ _ (HO.out.alloc _) wr.heap.size (.string (p.extract 0 k)) (.tmp 19) (.tmp 23) rfl rfl rfl rfl (by rw [cell_alloc_new rfl];rfl) rfl (by omega) (by simp;omega) ?_);intro v' w' ho' hg' _;have HO':=lh ho';have HX':=lh (grown_ext (HX.out.alloc _) (Nat.le_refl _) (HO.out.alloc _) hg');obtain ⟨a1,c1,rfl,_⟩:=row_slice ho';clear ho' hg';go_wp2_with fail;go_roundw
    case rel=>exact ⟨k+1,by omega,by go_num,by rw [HNX2.out,List.length_append,List.map_append];exact HO'.out,HX'.out⟩
    case measure=>simp [intOf];omega
   ·have hne:¬ ((z.toNat:Int)=47):=fun e=>h47 (UInt8.toNat_inj.1 (show z.toNat=47 by omega));have HNX2:=lh (show waysK p (k+1)=waysK p k from by rw [HNX.out,if_neg (fun e=>h47 (Option.some.inj e)),List.append_nil]);go_wp2_with fail;go_roundw
    case rel=>exact ⟨k+1,by omega,by go_num,by rw [HNX2.out];exact HO.out,HX.out⟩
    case measure=>simp [intOf];omega
  ·have HTK:=lh (show T=waysK p k from by rw [HT.out,show k=min p.size 200 by omega]);clear HNX;by_cases h2:p.size<=200
   ·have h1:decide ((k:Int)<(p.size:Int))=false:=by rw [decide_eq_false_iff_not];omega
    go_wp2_with (at_builtin;refine append_one el_string w.heap.size _ _ _ (HO.out.alloc _) wr.heap.size (.string p) (.tmp 25) (.tmp 27) rfl rfl rfl rfl (by rw [cell_alloc_new rfl];rfl) rfl (by omega) (by simp;omega) ?_);intro v' w' ho' hg' _;have HO':=lh ho';have HX':=lh (grown_ext (HX.out.alloc _) (Nat.le_refl _) (HO.out.alloc _) hg');obtain ⟨a1,c1,rfl,_⟩:=row_slice ho';clear ho' hg';go_wp2_with fail;go_ret;exact ⟨_,rfl,⟨by rw [HTK.out,List.map_append];exact HO'.out,HX'.out⟩⟩
   ·have h1:decide ((k:Int)<(p.size:Int))=true:=by rw [decide_eq_true_eq];omega
    have h3:decide ((k:Int)<200)=false:=by rw [decide_eq_false_iff_not];omega
    go_wp2_with (at_builtin;refine append_one el_string w.heap.size _ _ _ (HO.out.alloc _) wr.heap.size (.string p) (.tmp 25) (.tmp 27) rfl rfl rfl rfl (by rw [cell_alloc_new rfl];rfl) rfl (by omega) (by simp;omega) ?_);intro v' w' ho' hg' _;have HO':=lh ho';have HX':=lh (grown_ext (HX.out.alloc _) (Nat.le_refl _) (HO.out.alloc _) hg');obtain ⟨a1,c1,rfl,_⟩:=row_slice ho';clear ho' hg';go_wp2_with fail;go_ret;exact ⟨_,rfl,⟨by rw [HTK.out,List.map_append];exact HO'.out,HX'.out⟩⟩
end
section
open Go.RowKit
def valsG (a:Option Addr) (L:List Value):Gen where
 At w M I:=M=[]/\(∀ (k:Nat) x,L[k]?=some x->∃ g,a=some ⟨g,0,none⟩/\g∈I/\w.cell? ⟨g,k,none⟩=some x)/\∀ b∈I,b<w.heap.size
 lt:=by
  rintro w M I ⟨rfl,h1,h2⟩;exact ⟨fun _ h=>(by cases h),h2⟩
 kept:=by
  rintro w w' M I ⟨rfl,h1,h2⟩ hs hk;refine ⟨rfl,fun k x hx=>?_,fun b hb=>Nat.lt_of_lt_of_le (h2 b hb) hs⟩;obtain ⟨g,e,hg,hc⟩:=h1 k x hx;refine ⟨g,e,hg,?_⟩;unfold World.cell? at hc ⊢;rw [hk g (h2 g hg) (.inr hg)];exact hc
theorem Things.vals {w0 w w1:World} {A:List Thing} {base c n:Nat} {e:TypeId} {a:Option Addr} {L:List Value} (h:Things w0 w A) (x:Ext w w1) (hr:w1.ownsRow base e 1 (.slice a n c) n L) (hb:w.heap.size<=base):Things w0 w1 (A++[.gen (valsG a L)]):=by
 obtain ⟨a',cap',e',h0,h1,h2,h3⟩:=row_slice hr
 cases e'
 rcases hr.2 with ⟨he,hn⟩ | ⟨g,cap2,cur,he,hg,hh,_⟩
 ·refine h.add (M:=[]) (I:=[]) x ⟨rfl,fun k y hy=>?_,fun _ hb=>(by cases hb)⟩ (fun _ hb=>(by cases hb)) fun _ hb=>(by cases hb);have:=(List.getElem?_eq_some_iff.1 hy).1;have:=hr.1;omega
 ·cases he
  refine h.add (M:=[]) (I:=[g]) x ⟨rfl,fun k y hy=>?_,fun y hy=>(by rw [List.mem_singleton.1 hy];exact ltB hh)⟩ (fun _ hb=>(by cases hb)) fun y hy=>(by rw [List.mem_singleton.1 hy];omega);obtain ⟨g',e2,hc⟩:=h3 k y hy
  cases e2
  exact ⟨_,rfl,by simp,hc.2.2⟩
theorem vals_many {w0 w:World} {A B:List Thing} {a:Option Addr} {L:List Value} (h:Things w0 w (A++.gen (valsG a L)::B)) (k:Nat) (x:Value) (hx:L[k]?=some x):∃ g,a=some ⟨g,0,none⟩/\w.cell? ⟨g,k,none⟩=some x:=by
 obtain ⟨M,I,⟨_,h1,_⟩,_⟩:=h.opened;obtain ⟨g,e,_,hc⟩:=h1 k x hx;exact ⟨g,e,hc⟩
theorem objb_many {w0 w:World} {A B:List Thing} {b:Nat} {o:Obj} (h:Things w0 w (A++.obj b o::B)):w.heap[b]?=some o:=by
 obtain ⟨M,I,⟨_,_,h1⟩,_⟩:=h.opened;exact h1
theorem Things.objb {w0 w w1:World} {A:List Thing} {b:Nat} {o:Obj} (h:Things w0 w A) (x:Ext w w1) (hb:w1.heap[b]?=some o) (hl:w.heap.size<=b):Things w0 w1 (A++[.obj b o]) :=
 h.add (M:=[]) (I:=[b]) x ⟨rfl,rfl,hb⟩ (fun _ hb=>(by cases hb)) fun y hy=>(by rw [List.mem_singleton.1 hy];exact hl)
theorem range_put {w:World} {g o:Nat} {x:PutR} (h:∀ (j:Nat) u,(putVal x)[j]?=some u->w.cell? ⟨g,o+j,none⟩=some u) :
  w.rangeAt g o #[.int .i64 x.kind,.string x.p,.string x.text,.int .i64 x.long,.int .i64 x.time].toList:=h
abbrev both (d r:Nat) (D:Dk):List Thing:=[.disk d D,.ref r D]
section
variable {w0 w:World} {A B:List Thing} {d r k:Nat} {D D':Dk}
theorem bdisk (h:Things w0 w (A++(.disk d D::.ref r D'::B))):Things w0 w (A++.disk d D::(.ref r D'::B)):=h
theorem bref (h:Things w0 w (A++(.disk d D::.ref r D'::B))):Things w0 w ((A++[.disk d D])++.ref r D'::B):=by rw [List.append_assoc];exact h
theorem brefB (h:Things w0 w ((A++[.disk d D])++.ref r D'::B)):Things w0 w (A++(.disk d D::.ref r D'::B)):=by rw [List.append_assoc] at h;exact h
theorem bmkdir (h:Things w0 w (A++(.disk d D::.ref r D'::B))) (R:RunF k D) (hk:k<=100000) (E:Env w) (p:ByteArray) (hp:p.size<=4294967000) :
  Calls prog 59 #[.pointer (some ⟨d,0,none⟩),.string p] w fun e w'=>e=.returned (.int .i64 (D.act (.mkdir p)).1)/\Things w0 w' (A++(.disk d (D.act (.mkdir p)).2::.ref r D'::B)):=mkdir_many (bdisk h) (R.run.fit hk) E p (by omega) rfl
theorem bwrite (h:Things w0 w (A++(.disk d D::.ref r D'::B))) (R:RunF k D) (hk:k<=100000) (E:Env w) (p a:ByteArray) (t:Int) (hp:p.size<=4294967000) (ha:a.size<=1048576) :
  Calls prog 56 #[.pointer (some ⟨d,0,none⟩),.string p,.string a,.int .i64 t] w fun e w'=>e=.returned (.int .i64 (D.act (.write p a t)).1)/\Things w0 w' (A++(.disk d (D.act (.write p a t)).2::.ref r D'::B)):=write_many (bdisk h) (R.run.fit hk) E p a t (by omega) (by omega) rfl
theorem blink (h:Things w0 w (A++(.disk d D::.ref r D'::B))) (R:RunF k D) (hk:k<=100000) (E:Env w) (p a:ByteArray) (t:Int) (hp:p.size<=4294967000) (ha:a.size<=1048576) :
  Calls prog 61 #[.pointer (some ⟨d,0,none⟩),.string p,.string a,.int .i64 t] w fun e w'=>e=.returned (.int .i64 (D.act (.link p a t)).1)/\Things w0 w' (A++(.disk d (D.act (.link p a t)).2::.ref r D'::B)):=link_many (bdisk h) (R.run.fit hk) E p a t (by omega) (by omega) rfl
theorem bdo3 (h:Things w0 w (A++(.disk d D'::.ref r D::B))) (R:RunF k D) (hk:k<=100000) (p q data:ByteArray) (tm:Int) (hp:p.size<=4294967000) (hd:data.size<=1048576) :
  Calls prog 60 #[.pointer (some ⟨r,0,none⟩),.agg #[.int .i64 3,.string p,.string q,.string data,.int .i64 tm,.int .i64 0,.bool false]] w fun e w'=>e=.returned (.int .i64 (D.act (.mkdir p)).1)/\Things w0 w' (A++(.disk d D'::.ref r (D.act (.mkdir p)).2::B)) :=
 (ref_many (bref h) fun M I hr=>rdo_3 hr (R.run.dofit R.fl (by omega)) p q data tm (by omega) hd).mono fun _ _ ⟨h1,h2⟩=>⟨h1,brefB h2⟩
theorem bdo1 (h:Things w0 w (A++(.disk d D'::.ref r D::B))) (R:RunF k D) (hk:k<=100000) (p q data:ByteArray) (tm:Int) (hp:p.size<=4294967000) (hd:data.size<=1048576) :
  Calls prog 60 #[.pointer (some ⟨r,0,none⟩),.agg #[.int .i64 1,.string p,.string q,.string data,.int .i64 tm,.int .i64 0,.bool false]] w fun e w'=>e=.returned (.int .i64 (D.act (.write p data tm)).1)/\Things w0 w' (A++(.disk d D'::.ref r (D.act (.write p data tm)).2::B)) :=
 (ref_many (bref h) fun M I hr=>rdo_1 hr (R.run.dofit R.fl (by omega)) p q data tm (by omega) hd).mono fun _ _ ⟨h1,h2⟩=>⟨h1,brefB h2⟩
theorem bdo4 (h:Things w0 w (A++(.disk d D'::.ref r D::B))) (R:RunF k D) (hk:k<=100000) (p q data:ByteArray) (tm:Int) (hp:p.size<=4294967000) (hd:data.size<=1048576) :
  Calls prog 60 #[.pointer (some ⟨r,0,none⟩),.agg #[.int .i64 4,.string p,.string q,.string data,.int .i64 tm,.int .i64 0,.bool false]] w fun e w'=>e=.returned (.int .i64 (D.act (.link p data tm)).1)/\Things w0 w' (A++(.disk d D'::.ref r (D.act (.link p data tm)).2::B)) :=
 (ref_many (bref h) fun M I hr=>rdo_4 hr (R.run.dofit R.fl (by omega)) p q data tm (by omega) hd).mono fun _ _ ⟨h1,h2⟩=>⟨h1,brefB h2⟩
end
end
section
open Go.RowKit
theorem putD_1 {D:Dk} {x:PutR} (h:x.kind=1):putD D x=((mkAll D (waysT x.p)).act (.write x.p (longS x.text x.long) x.time)).2:=by unfold putD fillD;rw [if_pos h]
theorem putD_2 {D:Dk} {x:PutR} (h:x.kind=2):putD D x=((mkAll D (waysT x.p)).act (.mkdir x.p)).2:=by unfold putD fillD;rw [if_neg (by omega),if_pos h]
theorem putD_3 {D:Dk} {x:PutR} (h:x.kind=3):putD D x=((mkAll D (waysT x.p)).act (.link x.p x.text x.time)).2:=by unfold putD fillD;rw [if_neg (by omega),if_neg (by omega),if_pos h]
theorem putD_0 {D:Dk} {x:PutR} (h1:x.kind≠1) (h2:x.kind≠2) (h3:x.kind≠3):putD D x=mkAll D (waysT x.p):=by unfold putD fillD;rw [if_neg h1,if_neg h2,if_neg h3]
theorem made_take {l:List PutR} {k:Nat} {x:PutR} (h:l[k]?=some x):madeD (l.take (k+1))=putD (madeD (l.take k)) x:=by
 rw [List.take_add_one,h];exact madeD_snoc _ _
theorem mkAll_take {D:Dk} {T:List ByteArray} {j:Nat} {q:ByteArray} (h:T[j]?=some q):mkAll D (T.take (j+1))=((mkAll D (T.take j)).act (.mkdir q)).2:=by
 rw [List.take_add_one,h];exact mkAll_snoc _ _ _
theorem conv_cells (w:World) (a:Option Addr) (bs:List UInt8) (cap:Nat) (h0:a=none->bs=[]/\cap=0) (h:∀ (k:Nat) x,(bs.map byteV)[k]?=some x->∃ g,a=some ⟨g,0,none⟩/\w.cell? ⟨g,k,none⟩=some x) :
  (convert 52 9 (.slice a bs.length cap)).run prog w=.ok (.string ⟨bs.toArray⟩) w:=by
 cases a with
 | none =>
  obtain ⟨rfl,rfl⟩:=h0 rfl;rw [List.length_nil,run_convert_bytes_string w 52 9 5 none 0 0 underlying52 (by kernel_rfl) underlying9];rfl
 | some A =>
  exact run_convert_bytes_back w 52 9 5 A cap bs underlying52 (by kernel_rfl) underlying9 (fun j hj=>by
   obtain ⟨g,e2,h1⟩:=h j (byteV bs[j]) (by rw [List.getElem?_map,List.getElem?_eq_getElem hj];rfl)
   cases e2
   rw [show (⟨g,0,none⟩:Addr).add j=⟨g,j,none⟩ from by unfold Addr.add;split <;> simp_all]
   exact h1)
set_option maxRecDepth 100000 in
set_option maxHeartbeats 8000000 in
theorem made_any {w0 w:World} {A:List Thing} (h:Things w0 w A) (E:Env w0) {v:Value} {l:List PutR} (hA:PutsIn w0 v l) (hl:l.length<=40) (hF:∀ x∈l,x.p.size<=400/\x.text.size<=8000) :
  Calls prog 15 #[v] w fun e w'=>∃ d r,e=.returned (.tuple #[.pointer (some ⟨d,0,none⟩),.pointer (some ⟨r,0,none⟩)])/\Hid (Things w0 w' (A++[.disk d (madeD l),.ref r (madeD l)])):=by
 have H0:=lh (new_many h 262144 (by decide) (by decide));have HE:=lh E;have HRun:=lh (fun k=>(RunF.made (l.take k)).mono (show (l.take k).length*201<=8040 by rw [List.length_take];omega));obtain ⟨a,cap,rfl,hl1,hl2,hcell⟩:=hA;unfold maxLen at hl2;have HC:=lh hcell;have HF:=lh hF;obtain ⟨n,hn⟩:∃ n,n=l.length:=⟨_,rfl⟩;have HL:=lh hn;rw [<-hn] at hl1 hl ⊢;clear hcell hn hF h E;go_enter func15,ntmps15;go_wp2_with fail;refine H0.out.mono ?_;rintro e w1 ⟨d,rfl,h1⟩;have HM:=lh (rmade_many h1 262144);clear h1 H0;go_wp2_with fail;refine HM.out.mono ?_;rintro e w2 ⟨r,rfl,h2⟩;have HT2:=lh (show Things w0 w2 (A++[.disk d (Dk.made 262144),.ref r (Dk.made 262144)]) from by simpa using h2);clear h2 HM;go_wp2_with fail;go_loopw [7] (fun iv wr=>Hid (∃ k:Nat,k<=n/\iv=.int .i64 k/\Things w0 wr (A++[.disk d (madeD (l.take k)),.ref r (madeD (l.take k))]))) (fun iv _=>n - (intOf iv).toNat)
 case atStart=>exact ⟨0,Nat.zero_le _,rfl,HT2.out⟩
 case round =>
  obtain ⟨k,hk,rfl,ht⟩:=hrel.out;clear hrel HT2;by_cases hlt:k<n
  ·obtain ⟨x,hxk⟩:∃ x,l[k]?=some x:=⟨_,List.getElem?_eq_getElem (by have:=HL.out;omega)⟩;obtain ⟨hok,g,o,rfl,hcs⟩:=HC.out k x hxk;have HLD:=lh (range_put (x:=x) (o:=o+k*5) (g:=g) (w:=wr) fun j u hj=>(ht.is_ext.cell (lt_of_cell (hcs j u hj))).trans (hcs j u hj));obtain ⟨hxp,hxt⟩:=HF.out x (List.mem_of_getElem? hxk);have hlg:=hok.long;have HNX:=lh (made_take hxk);have HP1:=lh (fun D=>@putD_1 D x);have HP2:=lh (fun D=>@putD_2 D x);have HP3:=lh (fun D=>@putD_3 D x);have HP0:=lh (fun D=>@putD_0 D x);have HR0:=lh (HRun.out k);have HRM:=lh (fun j=>(HRun.out k).mkAll ((waysT x.p).take j));have hwl:=waysT_len x.p;have HWS:=lh (fun q (hq:q∈waysT x.p)=>waysT_size hq);have HLS:=lh (longS_size x.text x.long);have HLD2:=lh (show longS x.text x.long=⟨(dataL x.text (longN x.text x.long)).toArray⟩ from rfl);have HLN:=lh (show longN x.text x.long=if x.text.size=0 then 0 else min x.long.toNat 6000 from rfl);have HLE:=lh (longN_le x.text x.long);have HWA:=fun w'=>lh (ways_any x.p w' (by omega));have HT:=lh ht;clear ht hok hcs hxk;generalize hkd:x.kind=kd at *;generalize x.p=xp at *;generalize x.text=xt at *;generalize x.long=lg at *;generalize x.time=tm at *;have HKD:=lh hkd;clear hkd;generalize waysT xp=TW at *;generalize longS xt lg=S at *;generalize longN xt lg=N at *;generalize madeD (l.take k)=D at *;go_wp2_with (refine wpList_load_at rfl 126 (.tmp 28) rfl g (o+k*5) rfl _ _ HLD.out underlying126 rfl (by kernel_rfl) ?_;go_frame);refine (HWA _).out.mono ?_;rintro e wb ⟨vw,rfl,hv⟩;obtain ⟨wa,wc,rfl,_,hw1,hw2,hw3⟩:=row_slice hv.out.1
   have HT3:=lh (show Things w0 wb (A++(.disk d (mkAll D (TW.take 0))::.ref r (mkAll D (TW.take 0))::[.obj wr.heap.size (.cells #[.int .i64 kd,.string xp,.string xt,.int .i64 lg,.int .i64 tm] 126 (0,0)),.gen (valsG wa ((TW++[xp]).map Value.string))])) from by
    have h1:=(HT.out.objb ((Ext.refl wr).alloc _) (block_alloc_new wr (.cells #[.int .i64 kd,.string xp,.string xt,.int .i64 lg,.int .i64 tm] 126 (0,0))) (Nat.le_refl _)).vals hv.out.2 hv.out.1 (Nat.le_refl _)
    simpa [mkAll] using h1)
   clear hv hw3 HT;unfold maxLen at hw2;obtain ⟨wq,rfl⟩:∃ x,x=wr:=⟨_,rfl⟩;go_wp2_with fail;go_loopw [10] (fun iv wr=>Hid (∃ j:Nat,j<=TW.length/\iv=.int .i64 j/\Things w0 wr (A++(.disk d (mkAll D (TW.take j))::.ref r (mkAll D (TW.take j))::[.obj wq.heap.size (.cells #[.int .i64 kd,.string xp,.string xt,.int .i64 lg,.int .i64 tm] 126 (0,0)),.gen (valsG wa ((TW++[xp]).map Value.string))])))) (fun iv _=>TW.length - (intOf iv).toNat)
   case atStart=>exact ⟨0,Nat.zero_le _,rfl,HT3.out⟩
   case round =>
    obtain ⟨j,hj,rfl,ht⟩:=hrel.out;clear hrel HT3;by_cases hjt:j<TW.length
    ·obtain ⟨q,hq⟩:∃ q,TW[j]?=some q:=⟨_,List.getElem?_eq_getElem hjt⟩;have hqs:=HWS.out q (List.mem_of_getElem? hq);have HJ:=lh (mkAll_take (D:=D) hq);have HV:=lh (show ((TW++[xp]).map Value.string)[j]?=some (.string q) from by rw [List.getElem?_map,List.getElem?_append_left hjt,hq];rfl)
     have htv:∀ (D1 D2:Dk) (w1:World),Things w0 w1 (A++(.disk d D1::.ref r D2::[.obj wq.heap.size (.cells #[.int .i64 kd,.string xp,.string xt,.int .i64 lg,.int .i64 tm] 126 (0,0)),.gen (valsG wa ((TW++[xp]).map Value.string))]))->∃ g,wa=some ⟨g,0,none⟩/\w1.cell? ⟨g,j,none⟩=some (.string q):=fun D1 D2 w1 h0 =>
      vals_many (A:=A++[.disk d D1,.ref r D2,.obj wq.heap.size (.cells #[.int .i64 kd,.string xp,.string xt,.int .i64 lg,.int .i64 tm] 126 (0,0))]) (B:=[]) (by simpa using h0) j _ HV.out
     have HTV:=lh htv;clear htv;obtain ⟨gw,rfl,cq⟩:=HTV.out _ _ _ ht;have HB:=lh (bmkdir ht ((HRM.out j).mono (show _<=8240 by rw [List.length_take];omega)) (by decide) (HE.out.ext ht.is_ext) q (by omega));have HBD:=lh (fun (w1:World) (D1:Dk) (h0:Things w0 w1 (A++(.disk d D1::.ref r (mkAll D (TW.take j))::[.obj wq.heap.size (.cells #[.int .i64 kd,.string xp,.string xt,.int .i64 lg,.int .i64 tm] 126 (0,0)),.gen (valsG (some ⟨gw,0,none⟩) ((TW++[xp]).map Value.string))])))=>fun q2 da tm2 hd=>bdo3 h0 ((HRM.out j).mono (show _<=8240 by rw [List.length_take];omega)) (by decide) q q2 da tm2 (by omega) hd);have n1:decide ((j:Int)+1<((TW.length+1:Nat):Int))=true:=by rw [decide_eq_true_eq];omega
     clear ht hq;go_wp2_with fail;refine HB.out.mono ?_;rintro e wc ⟨rfl,h4⟩;obtain ⟨g2,e2,cq2⟩:=HTV.out _ _ _ h4
     cases e2
     have HD4:=lh (HBD.out _ _ h4);clear cq h4 HB;go_wp2_with fail;refine (HD4.out _ _ _ (by decide)).mono ?_;rintro e wd ⟨rfl,h5⟩;have H5:=lh h5;rw [<-HJ.out] at H5;clear cq2 h5 HD4;go_wp2_with fail;go_roundw
     case rel=>exact ⟨j+1,by omega,by go_num,H5.out⟩
     case measure=>simp [intOf] <;> omega
    ·obtain rfl:j=TW.length:=by omega
     have HT5:=lh ht;rw [List.take_length] at HT5;clear ht;have n1:decide ((TW.length:Int)+1<((TW.length+1:Nat):Int))=false:=by rw [decide_eq_false_iff_not];omega
     have HBX:=lh (objb_many (A:=A++[.disk d (mkAll D TW),.ref r (mkAll D TW)]) (B:=[.gen (valsG wa ((TW++[xp]).map Value.string))]) (by simpa using HT5.out));have hn6:N<=6000:=HLE.out;obtain ⟨wf,rfl⟩:∃ x,x=wr:=⟨_,rfl⟩;go_wp2_with fail;go_loopw [11,12] (fun v iv wr=>Hid (∃ m:Nat,m<=N/\iv=.int .i64 m/\wr.ownsRow wf.heap.size 5 1 v m ((dataL xt m).map byteV)/\Ext wf wr)) (fun _ iv _=>N - (intOf iv).toNat)
     case atStart=>exact ⟨0,Nat.zero_le _,rfl,World.ownsRow_nil _ _ _ _,Ext.refl _⟩
     case round =>
      obtain ⟨m,hm,rfl,ho,hx⟩:=hrel.out;clear hrel;have HX:=lh hx;have HO:=lh ho;have hs:=hx.size;obtain ⟨a0,cap0,rfl,hz0,_⟩:=row_slice ho;have HZ0:=lh hz0;have HBR:=lh ((hx.block (ltB HBX.out)).trans HBX.out);have ct:wr.cell? ⟨wq.heap.size,2,none⟩=some (.string xt):=cellB HBR.out;have cl:wr.cell? ⟨wq.heap.size,3,none⟩=some (.int .i64 lg):=cellB HBR.out;clear ho hx hz0;by_cases hmn:m<N
      ·have h1:decide ((m:Int)<lg)=true:=by rw [decide_eq_true_eq];have:=HLN.out;split at this <;> omega
       have h2:decide ((m:Int)<6000)=true:=by rw [decide_eq_true_eq];omega
       have h3:decide ((0:Int)<(xt.size:Int))=true:=by rw [decide_eq_true_eq];have:=HLN.out;split at this <;> omega
       have hts:0<xt.size:=by rw [decide_eq_true_eq] at h3;omega
       obtain ⟨z,hz⟩:∃ z,xt.toList[m % xt.size]?=some z:=⟨_,List.getElem?_eq_getElem (by rw [len_toList];exact Nat.mod_lt _ hts)⟩
       have HZ:=lh (fun (h:((m:Int) % (xt.size:Int)).toNat<xt.size)=>show xt[((m:Int) % (xt.size:Int)).toNat]'h=z from by
        have e:((m:Int) % (xt.size:Int)).toNat=m % xt.size:=by rw [<-Int.natCast_emod,Int.toNat_natCast]
        have h2:=getElem_toList xt (m % xt.size) (Nat.mod_lt _ hts);rw [hz] at h2;have h3:=(Option.some.inj h2).symm;simp only [e]
        exact h3)
       have HST:=lh (show (dataL xt (m+1)).map byteV=(dataL xt m).map byteV++[byteV z] from by rw [dataL_snoc,List.getD,hz];simp);have q0:((xt.size:Int)==0)=false:=by rw [beq_eq_false_iff_ne];omega
       have q5:(xt.size:Int)≠0:=by omega
       have q6:¬ xt.size=0:=by omega
       have q7:decide ((xt.size:Int)=0)=false:=by rw [decide_eq_false_iff_not];omega
       have q1:(m:Int).tmod (xt.size:Int)=((m % xt.size:Nat):Int):=by rw [Int.ofNat_tmod]
       have q2:((m % xt.size:Nat):Int)<(xt.size:Int):=by have:=Nat.mod_lt m hts;omega
       have q3:IntKind.i64.wrap ((m % xt.size:Nat):Int)=((m % xt.size:Nat):Int):=IntWalk.i64_in _ (by omega);have h3':(0:Int)<(xt.size:Int):=by rwa [decide_eq_true_eq] at h3
       go_wp2_with fail
       go_region_held_law (fun w'=>w'.cell? ⟨wq.heap.size,2,none⟩=some (.string xt)) (go_keep)
        ((refine step_append_m el_byte wf.heap.size (.slice a0 m cap0) m ((dataL xt m).map byteV) (owns_ext HO.out ?_) wr.heap.size [byteV z] 1 rfl (.tmp 69) (.tmp 78) rfl rfl ?_ ?_ ?_ ?_ ?_ ?_ ?_
          ·repeat (first | exact Ext.refl _ | refine Ext.alloc ?_ _ | refine Ext.drew ?_)
          ·simp [Act.eval]
          ·simp [Act.eval]
          ·intro j u hj
           match j,hj with
           | 0,hj=>exact (cellB (heap_new_drew rfl)).trans (by rw [<-hj,HZ.out _];rfl)
           | j+1,hj=>simp at hj
          ·intro u hu;simp only [List.mem_cons,List.not_mem_nil,or_false] at hu;rw [hu];rfl
          ·omega
          ·simp;omega
          intro v' w3 hown3 hgr3;have hb3:=(hgr3.block wq.heap.size (by have:=ltB HBR.out;simp;omega) (fun e=>by have:=(HO.out.lt _ e.symm).1;have:=ltB HBX.out;omega)).trans ((((Ext.refl wr).alloc _).drew.block (ltB HBR.out)).trans HBR.out);have k1:w3.cell? ⟨wq.heap.size,2,none⟩=some (.string xt):=cellB hb3;have HR:=lh (show w3.ownsRow wf.heap.size 5 1 v' (m+1) ((dataL xt (m+1)).map byteV)/\Ext wf w3 from ⟨by rw [HST.out];exact hown3,grown_ext ((HX.out.alloc _).drew) (Nat.le_refl _) (owns_ext HO.out (by repeat (first | exact Ext.refl _ | refine Ext.alloc ?_ _ | refine Ext.drew ?_))) hgr3⟩)
          clear hown3 hgr3 hb3))
       all_goals
        go_wp2_with fail;go_roundw
        case rel=>exact ⟨m+1,by omega,by go_num,HR.out.1,HR.out.2⟩
        case measure=>simp [intOf] <;> omega
      ·obtain rfl:m=N:=by omega
       have HT6:=lh (show Things w0 wr (A++(.disk d (mkAll D TW)::.ref r (mkAll D TW)::[.obj wq.heap.size (.cells #[.int .i64 kd,.string xp,.string xt,.int .i64 lg,.int .i64 tm] 126 (0,0)),.gen (valsG wa ((TW++[xp]).map Value.string)),.gen (valsG a0 ((dataL xt m).map byteV))])) from by
        have h1:=HT5.out.vals HX.out HO.out (Nat.le_refl _)
        simpa using h1)
       have HCV:=lh (fun (D1 D2:Dk) (w1:World) (h0:Things w0 w1 (A++(.disk d (D1)::.ref r (D2)::[.obj wq.heap.size (.cells #[.int .i64 kd,.string xp,.string xt,.int .i64 lg,.int .i64 tm] 126 (0,0)),.gen (valsG wa ((TW++[xp]).map Value.string)),.gen (valsG a0 ((dataL xt m).map byteV))])))=>show (convert 52 9 (.slice a0 m cap0)).run prog w1=.ok (.string S) w1 from by
        have h1:=conv_cells w1 a0 (dataL xt m) cap0 (fun e=>⟨by
         have:=(HZ0.out e).1
         exact List.eq_nil_of_length_eq_zero (by rw [dataL_len];exact this),(HZ0.out e).2⟩) fun k x hx=>vals_many (A:=A++[.disk d D1,.ref r D2,.obj wq.heap.size (.cells #[.int .i64 kd,.string xp,.string xt,.int .i64 lg,.int .i64 tm] 126 (0,0)),.gen (valsG wa ((TW++[xp]).map Value.string))]) (B:=[]) (by simpa using h0) k x hx
        rw [dataL_len] at h1;rw [HLD2.out]
        exact h1)
       have HBO:=lh (fun (D1 D2:Dk) (w1:World) (h0:Things w0 w1 (A++(.disk d (D1)::.ref r (D2)::[.obj wq.heap.size (.cells #[.int .i64 kd,.string xp,.string xt,.int .i64 lg,.int .i64 tm] 126 (0,0)),.gen (valsG wa ((TW++[xp]).map Value.string)),.gen (valsG a0 ((dataL xt m).map byteV))])))=>objb_many (A:=A++[.disk d D1,.ref r D2]) (B:=[.gen (valsG wa ((TW++[xp]).map Value.string)),.gen (valsG a0 ((dataL xt m).map byteV))]) (by simpa using h0))
       have HEnd:=lh (fun (D1:Dk) (w1:World) (h0:Things w0 w1 (A++(.disk d (D1)::.ref r (D1)::[.obj wq.heap.size (.cells #[.int .i64 kd,.string xp,.string xt,.int .i64 lg,.int .i64 tm] 126 (0,0)),.gen (valsG wa ((TW++[xp]).map Value.string)),.gen (valsG a0 ((dataL xt m).map byteV))])))=>show Things w0 w1 (A++[.disk d D1,.ref r D1]) from h0.fewer (by
        refine List.Sublist.append_left ?_ A
        exact List.Sublist.cons_cons _ (List.Sublist.cons_cons _ (List.nil_sublist _))))
       have HRM2:=lh (show RunF 8240 (mkAll D TW) from by
        have:=HRM.out TW.length;rw [List.take_length] at this
        exact this.mono (by omega))
       have HSS:=lh (show S.size<=6000 from by rw [HLS.out];omega);by_cases hl1:(m:Int)<lg
       ·have h1:decide ((m:Int)<lg)=true:=by rwa [decide_eq_true_eq]
        by_cases hl2:(m:Int)<6000
        ·have h2:decide ((m:Int)<6000)=true:=by rwa [decide_eq_true_eq]
         have hts:xt.size=0:=by have:=HLN.out;split at this <;> omega
         have h3:decide ((0:Int)<(xt.size:Int))=false:=by rw [decide_eq_false_iff_not];omega
         clear ct cl;have c0:wr.cell? ⟨wq.heap.size,0,none⟩=some (.int .i64 kd):=cellB HBR.out;have c1:wr.cell? ⟨wq.heap.size,1,none⟩=some (.string xp):=cellB HBR.out;have c2:wr.cell? ⟨wq.heap.size,2,none⟩=some (.string xt):=cellB HBR.out;have c3:wr.cell? ⟨wq.heap.size,3,none⟩=some (.int .i64 lg):=cellB HBR.out;have c4:wr.cell? ⟨wq.heap.size,4,none⟩=some (.int .i64 tm):=cellB HBR.out;by_cases k1:kd=1
         ·have e1:decide (kd=1)=true:=decide_eq_true k1;have hcv:=HCV.out _ _ _ HT6.out;go_wp2_with fail;refine (bwrite HT6.out HRM2.out (by decide) (HE.out.ext HT6.out.is_ext) xp S tm (by omega) (by have:=HSS.out;omega)).mono ?_;rintro e wc ⟨rfl,h7⟩;have HB7:=HBO.out _ _ _ h7;have d1:wc.cell? ⟨wq.heap.size,1,none⟩=some (.string xp):=cellB HB7;have d4:wc.cell? ⟨wq.heap.size,4,none⟩=some (.int .i64 tm):=cellB HB7;have hcv7:=HCV.out _ _ _ h7;have H7:=lh h7;clear h7 HB7 hcv c0 c1 c2 c3 c4;go_wp2_with fail;refine (bdo1 H7.out HRM2.out (by decide) xp _ S tm (by omega) (by have:=HSS.out;omega)).mono ?_;rintro e wd ⟨rfl,h8⟩;have H8:=lh h8;clear h8 d1 d4 hcv7;go_wp2_with fail;go_roundw
          case rel=>exact ⟨k+1,by omega,by go_num,by rw [HNX.out,HP1.out _ k1];exact HEnd.out _ _ H8.out⟩
          case measure=>simp [intOf] <;> omega
         ·have e1:decide (kd=1)=false:=decide_eq_false k1;by_cases k2:kd=2
          ·have e2:decide (kd=2)=true:=decide_eq_true k2;go_wp2_with fail;refine (bmkdir HT6.out HRM2.out (by decide) (HE.out.ext HT6.out.is_ext) xp (by omega)).mono ?_;rintro e wc ⟨rfl,h7⟩;have HB7:=HBO.out _ _ _ h7;have d1:wc.cell? ⟨wq.heap.size,1,none⟩=some (.string xp):=cellB HB7;have H7:=lh h7;clear h7 HB7 c0 c1 c2 c3 c4;go_wp2_with fail;refine (bdo3 H7.out HRM2.out (by decide) xp _ _ _ (by omega) (by decide)).mono ?_;rintro e wd ⟨rfl,h8⟩;have H8:=lh h8;clear h8 d1;go_wp2_with fail;go_roundw
           case rel=>exact ⟨k+1,by omega,by go_num,by rw [HNX.out,HP2.out _ k2];exact HEnd.out _ _ H8.out⟩
           case measure=>simp [intOf] <;> omega
          ·have e2:decide (kd=2)=false:=decide_eq_false k2;by_cases k3:kd=3
           ·have e3:decide (kd=3)=true:=decide_eq_true k3;go_wp2_with fail;refine (blink HT6.out HRM2.out (by decide) (HE.out.ext HT6.out.is_ext) xp xt tm (by omega) (by omega)).mono ?_;rintro e wc ⟨rfl,h7⟩;have HB7:=HBO.out _ _ _ h7;have d1:wc.cell? ⟨wq.heap.size,1,none⟩=some (.string xp):=cellB HB7;have d2:wc.cell? ⟨wq.heap.size,2,none⟩=some (.string xt):=cellB HB7;have d4:wc.cell? ⟨wq.heap.size,4,none⟩=some (.int .i64 tm):=cellB HB7;have H7:=lh h7;clear h7 HB7 c0 c1 c2 c3 c4;go_wp2_with fail;refine (bdo4 H7.out HRM2.out (by decide) xp _ xt tm (by omega) (by omega)).mono ?_;rintro e wd ⟨rfl,h8⟩;have H8:=lh h8;clear h8 d1 d2 d4;go_wp2_with fail;go_roundw
            case rel=>exact ⟨k+1,by omega,by go_num,by rw [HNX.out,HP3.out _ k3];exact HEnd.out _ _ H8.out⟩
            case measure=>simp [intOf] <;> omega
           ·have e3:decide (kd=3)=false:=decide_eq_false k3;go_wp2_with fail;go_roundw
            case rel=>exact ⟨k+1,by omega,by go_num,by rw [HNX.out,HP0.out _ k1 k2 k3];exact HEnd.out _ _ HT6.out⟩
            case measure=>simp [intOf] <;> omega
        ·have h2:decide ((m:Int)<6000)=false:=by rwa [decide_eq_false_iff_not]
         clear ct cl;have c0:wr.cell? ⟨wq.heap.size,0,none⟩=some (.int .i64 kd):=cellB HBR.out;have c1:wr.cell? ⟨wq.heap.size,1,none⟩=some (.string xp):=cellB HBR.out;have c2:wr.cell? ⟨wq.heap.size,2,none⟩=some (.string xt):=cellB HBR.out;have c3:wr.cell? ⟨wq.heap.size,3,none⟩=some (.int .i64 lg):=cellB HBR.out;have c4:wr.cell? ⟨wq.heap.size,4,none⟩=some (.int .i64 tm):=cellB HBR.out;by_cases k1:kd=1
         ·have e1:decide (kd=1)=true:=decide_eq_true k1;have hcv:=HCV.out _ _ _ HT6.out;go_wp2_with fail;refine (bwrite HT6.out HRM2.out (by decide) (HE.out.ext HT6.out.is_ext) xp S tm (by omega) (by have:=HSS.out;omega)).mono ?_;rintro e wc ⟨rfl,h7⟩;have HB7:=HBO.out _ _ _ h7;have d1:wc.cell? ⟨wq.heap.size,1,none⟩=some (.string xp):=cellB HB7;have d4:wc.cell? ⟨wq.heap.size,4,none⟩=some (.int .i64 tm):=cellB HB7;have hcv7:=HCV.out _ _ _ h7;have H7:=lh h7;clear h7 HB7 hcv c0 c1 c2 c3 c4;go_wp2_with fail;refine (bdo1 H7.out HRM2.out (by decide) xp _ S tm (by omega) (by have:=HSS.out;omega)).mono ?_;rintro e wd ⟨rfl,h8⟩;have H8:=lh h8;clear h8 d1 d4 hcv7;go_wp2_with fail;go_roundw
          case rel=>exact ⟨k+1,by omega,by go_num,by rw [HNX.out,HP1.out _ k1];exact HEnd.out _ _ H8.out⟩
          case measure=>simp [intOf] <;> omega
         ·have e1:decide (kd=1)=false:=decide_eq_false k1;by_cases k2:kd=2
          ·have e2:decide (kd=2)=true:=decide_eq_true k2;go_wp2_with fail;refine (bmkdir HT6.out HRM2.out (by decide) (HE.out.ext HT6.out.is_ext) xp (by omega)).mono ?_;rintro e wc ⟨rfl,h7⟩;have HB7:=HBO.out _ _ _ h7;have d1:wc.cell? ⟨wq.heap.size,1,none⟩=some (.string xp):=cellB HB7;have H7:=lh h7;clear h7 HB7 c0 c1 c2 c3 c4;go_wp2_with fail;refine (bdo3 H7.out HRM2.out (by decide) xp _ _ _ (by omega) (by decide)).mono ?_;rintro e wd ⟨rfl,h8⟩;have H8:=lh h8;clear h8 d1;go_wp2_with fail;go_roundw
           case rel=>exact ⟨k+1,by omega,by go_num,by rw [HNX.out,HP2.out _ k2];exact HEnd.out _ _ H8.out⟩
           case measure=>simp [intOf] <;> omega
          ·have e2:decide (kd=2)=false:=decide_eq_false k2;by_cases k3:kd=3
           ·have e3:decide (kd=3)=true:=decide_eq_true k3;go_wp2_with fail;refine (blink HT6.out HRM2.out (by decide) (HE.out.ext HT6.out.is_ext) xp xt tm (by omega) (by omega)).mono ?_;rintro e wc ⟨rfl,h7⟩;have HB7:=HBO.out _ _ _ h7;have d1:wc.cell? ⟨wq.heap.size,1,none⟩=some (.string xp):=cellB HB7;have d2:wc.cell? ⟨wq.heap.size,2,none⟩=some (.string xt):=cellB HB7;have d4:wc.cell? ⟨wq.heap.size,4,none⟩=some (.int .i64 tm):=cellB HB7;have H7:=lh h7;clear h7 HB7 c0 c1 c2 c3 c4;go_wp2_with fail;refine (bdo4 H7.out HRM2.out (by decide) xp _ xt tm (by omega) (by omega)).mono ?_;rintro e wd ⟨rfl,h8⟩;have H8:=lh h8;clear h8 d1 d2 d4;go_wp2_with fail;go_roundw
            case rel=>exact ⟨k+1,by omega,by go_num,by rw [HNX.out,HP3.out _ k3];exact HEnd.out _ _ H8.out⟩
            case measure=>simp [intOf] <;> omega
           ·have e3:decide (kd=3)=false:=decide_eq_false k3;go_wp2_with fail;go_roundw
            case rel=>exact ⟨k+1,by omega,by go_num,by rw [HNX.out,HP0.out _ k1 k2 k3];exact HEnd.out _ _ HT6.out⟩
            case measure=>simp [intOf] <;> omega
       ·have h1:decide ((m:Int)<lg)=false:=by rwa [decide_eq_false_iff_not]
        clear ct cl;have c0:wr.cell? ⟨wq.heap.size,0,none⟩=some (.int .i64 kd):=cellB HBR.out;have c1:wr.cell? ⟨wq.heap.size,1,none⟩=some (.string xp):=cellB HBR.out;have c2:wr.cell? ⟨wq.heap.size,2,none⟩=some (.string xt):=cellB HBR.out;have c3:wr.cell? ⟨wq.heap.size,3,none⟩=some (.int .i64 lg):=cellB HBR.out;have c4:wr.cell? ⟨wq.heap.size,4,none⟩=some (.int .i64 tm):=cellB HBR.out;by_cases k1:kd=1
        ·have e1:decide (kd=1)=true:=decide_eq_true k1;have hcv:=HCV.out _ _ _ HT6.out;go_wp2_with fail;refine (bwrite HT6.out HRM2.out (by decide) (HE.out.ext HT6.out.is_ext) xp S tm (by omega) (by have:=HSS.out;omega)).mono ?_;rintro e wc ⟨rfl,h7⟩;have HB7:=HBO.out _ _ _ h7;have d1:wc.cell? ⟨wq.heap.size,1,none⟩=some (.string xp):=cellB HB7;have d4:wc.cell? ⟨wq.heap.size,4,none⟩=some (.int .i64 tm):=cellB HB7;have hcv7:=HCV.out _ _ _ h7;have H7:=lh h7;clear h7 HB7 hcv c0 c1 c2 c3 c4;go_wp2_with fail;refine (bdo1 H7.out HRM2.out (by decide) xp _ S tm (by omega) (by have:=HSS.out;omega)).mono ?_;rintro e wd ⟨rfl,h8⟩;have H8:=lh h8;clear h8 d1 d4 hcv7;go_wp2_with fail;go_roundw
         case rel=>exact ⟨k+1,by omega,by go_num,by rw [HNX.out,HP1.out _ k1];exact HEnd.out _ _ H8.out⟩
         case measure=>simp [intOf] <;> omega
        ·have e1:decide (kd=1)=false:=decide_eq_false k1;by_cases k2:kd=2
         ·have e2:decide (kd=2)=true:=decide_eq_true k2;go_wp2_with fail;refine (bmkdir HT6.out HRM2.out (by decide) (HE.out.ext HT6.out.is_ext) xp (by omega)).mono ?_;rintro e wc ⟨rfl,h7⟩;have HB7:=HBO.out _ _ _ h7;have d1:wc.cell? ⟨wq.heap.size,1,none⟩=some (.string xp):=cellB HB7;have H7:=lh h7;clear h7 HB7 c0 c1 c2 c3 c4;go_wp2_with fail;refine (bdo3 H7.out HRM2.out (by decide) xp _ _ _ (by omega) (by decide)).mono ?_;rintro e wd ⟨rfl,h8⟩;have H8:=lh h8;clear h8 d1;go_wp2_with fail;go_roundw
          case rel=>exact ⟨k+1,by omega,by go_num,by rw [HNX.out,HP2.out _ k2];exact HEnd.out _ _ H8.out⟩
          case measure=>simp [intOf] <;> omega
         ·have e2:decide (kd=2)=false:=decide_eq_false k2;by_cases k3:kd=3
          ·have e3:decide (kd=3)=true:=decide_eq_true k3;go_wp2_with fail;refine (blink HT6.out HRM2.out (by decide) (HE.out.ext HT6.out.is_ext) xp xt tm (by omega) (by omega)).mono ?_;rintro e wc ⟨rfl,h7⟩;have HB7:=HBO.out _ _ _ h7;have d1:wc.cell? ⟨wq.heap.size,1,none⟩=some (.string xp):=cellB HB7;have d2:wc.cell? ⟨wq.heap.size,2,none⟩=some (.string xt):=cellB HB7;have d4:wc.cell? ⟨wq.heap.size,4,none⟩=some (.int .i64 tm):=cellB HB7;have H7:=lh h7;clear h7 HB7 c0 c1 c2 c3 c4;go_wp2_with fail;refine (bdo4 H7.out HRM2.out (by decide) xp _ xt tm (by omega) (by omega)).mono ?_;rintro e wd ⟨rfl,h8⟩;have H8:=lh h8;clear h8 d1 d2 d4;go_wp2_with fail;go_roundw
           case rel=>exact ⟨k+1,by omega,by go_num,by rw [HNX.out,HP3.out _ k3];exact HEnd.out _ _ H8.out⟩
           case measure=>simp [intOf] <;> omega
          ·have e3:decide (kd=3)=false:=decide_eq_false k3;go_wp2_with fail;go_roundw
           case rel=>exact ⟨k+1,by omega,by go_num,by rw [HNX.out,HP0.out _ k1 k2 k3];exact HEnd.out _ _ HT6.out⟩
           case measure=>simp [intOf] <;> omega
  ·obtain rfl:k=n:=by omega
   have nlt:decide ((k:Int)<(k:Int))=false:=by simp
   have HT:=lh ht;have HTK:=lh (show l.take k=l from by rw [HL.out,List.take_length]);clear ht;go_wp2_with fail;go_ret2;exact ⟨d,r,rfl,by have:=HT.out;rw [HTK.out] at this;exact this⟩
end
section
open Go.RowKit
end
section
open Go.RowKit
theorem conv_bytes (s:ByteArray) (w:World) (hs:s.size<=1048576):∃ v w',(convert 9 52 (.string s)).run prog w=.ok v w'/\BytesOff w'.heap.size w' v s.toList/\Ext w w':=by
 refine ⟨_,_,Lib.run_convert_string_bytes w 9 52 5 s underlying9 underlying52 (by kernel_rfl),⟨_,_,by rw [len_toList],by rw [len_toList];exact grownCap_ge _ _ _ _,grownCap_le_maxLen _ _ _ _ (by unfold maxLen;omega),fun _=>⟨w.heap.size,0,rfl,by rw [Lib.bytesWorld_size];omega,by rw [Lib.bytesWorld_size];omega,fun j x hj=>?_⟩⟩,⟨rfl,rfl,rfl,by rw [Lib.bytesWorld_size];omega,fun i hi=>Lib.bytesWorld_at_old _ _ _ _ hi⟩⟩;have hj':j<s.size:=by rw [<-len_toList];exact (List.getElem?_eq_some_iff.1 hj).1
 rw [Nat.zero_add,Lib.bytesWorld_cell _ _ _ _ hj',<-Lib.toList_data,List.getD_eq_getElem?_getD,hj];rfl
end
section
open Go.RowKit
def rootE (l:Nodes) (r:ByteArray):Int:=if mayB r then (listE l r).2 else 10
theorem rooted_nil (r:ByteArray) (w:World) :
  Calls prog 68 #[.pointer none,.string r] w fun e w'=>e=.returned (.int .i64 1)/\w'=w:=by
 go_enter func68,ntmps68;go_wp2_with fail;go_ret;exact ⟨rfl,rfl⟩
set_option maxHeartbeats 1000000 in
theorem rooted_any {w:World} {d:Nat} {M I:List Nat} {D:Dk} (h:DkAt w d M I D) (O:DkOk D) (E:Env w) (r:ByteArray) (hr:r.size<4294967281) :
  Calls prog 68 #[.pointer (some ⟨d,0,none⟩),.string r] w fun e w'=>e=.returned (.int .i64 (rootE D.live r))/\Ext w w':=by
 have HM:=lh (may_any r w hr E);have HL:=fun w' (x:Ext w w')=>lh (List_any (h.ext x) O (E.ext x) r hr);have HR:=lh (show rootE D.live r=if mayB r then (listE D.live r).2 else 10 from rfl);clear h O E;generalize rootE D.live r=R at *;generalize listE D.live r=L at *
 cases hm:mayB r with
 | false =>
  rw [hm] at HM HR;have HR2:=lh (show R=10 from HR.out);clear HR;go_enter func68,ntmps68;go_wp2_with fail;refine HM.out.mono ?_;rintro e w1 ⟨rfl,x1⟩;go_wp2_with fail;go_ret;exact ⟨by rw [HR2.out];rfl,x1⟩
 | true =>
  rw [hm] at HM HR;have HR2:=lh (show R=L.2 from HR.out);clear HR;obtain ⟨L1,L2⟩:=L;go_enter func68,ntmps68;go_wp2_with fail;refine HM.out.mono ?_;rintro e w1 ⟨rfl,x1⟩;go_wp2_with fail;refine (HL _ x1).out.mono ?_;rintro e w2 ⟨v,rfl,_,x2⟩;go_wp2_with fail;go_ret;exact ⟨by rw [HR2.out];rfl,x1.trans x2⟩
def itemC (p:ByteArray) (n:Nd) (sz bs:Int) (bl:Value):Array Value:=#[.string p,.int .i64 n.kind,.bool false,.int .i64 sz,.int .i64 n.time,.int .i64 0,.int .u32 0,.int .u32 0,.int .u32 0,.int .u32 0,.int .u32 0,.int .u32 0,.int .u32 0,.int .u32 0,.int .u32 0,.int .u32 0,.int .u32 0,.int .u32 0,.int .u32 0,.int .u32 0,.int .u32 0,.int .u32 0,.int .i64 bs,bl,.string n.target,.int .i64 0,.int .i64 0]
def rec0:Array Value:=itemC ⟨#[]⟩ ⟨0,⟨#[]⟩,⟨#[]⟩,0⟩ 0 0 (.slice none 0 0)
def ItemIs (base:Nat) (w':World) (p:ByteArray) (n:Nd) (C:Array Value) (e:Int):Prop :=
 (n.kind≠1/\C=itemC p n 0 0 (.slice none 0 0)/\e=0) \/
 (n.kind=1/\n.data.size<=4096/\e=0/\∃ u,C=itemC p n (n.data.size:Nat) (sizeN n.data.size:Nat) u/\w'.ownsRow base 54 32 u (countN n.data.size) (hrow (hashesL n.data.toList))) \/
 (n.kind=1/\4096<n.data.size/\e=3/\C=rec0)
set_option maxHeartbeats 1000000 in
theorem blist_long (l:List UInt8) (v:Value) (b:Nat) (w:World) (hv:BytesOff b w v l) (hl:4096<l.length) :
  Calls prog 21 #[v] w fun e w'=>e=.returned (.tuple #[.slice none 0 0,.int .i64 3])/\w'=w:=by
 obtain ⟨a,cap,rfl,h1,h2,h3⟩:=hv;unfold maxLen at h2;generalize l.length=n at *;go_enter func21,ntmps21;go_wp2_with fail;go_ret2;exact ⟨rfl,rfl⟩
end
section
open Go.RowKit Go.Shelf
attribute [local go_sem] Oper.semAt_some
def Solid (o:Obj):Prop:=o.isCells=true\/o.isWalk=true
structure KpK (K:World->List Nat) (nb:Nat) (W W':World):Prop where
 low:Below nb W W'
 same:∀ b o,W.heap[b]?=some o->Solid o->b∉K W->W'.heap[b]?=some o
 sub:∀ b∈K W',b∈K W\/W.heap.size<=b
theorem KpK.trans {K:World->List Nat} {nb:Nat} {A B C:World} (h:KpK K nb A B) (k:KpK K nb B C):KpK K nb A C :=
 ⟨h.low.trans k.low,fun b o ho hk hn=>k.same b o (h.same b o ho hk hn) hk fun hm=>(h.sub b hm).elim hn fun hge=>by have:=(Array.getElem?_eq_some_iff.1 ho).1;omega,
  fun b hb=>(k.sub b hb).elim (h.sub b) fun hge=>.inr (Nat.le_trans h.low.size hge)⟩
def Reads (K:World->List Nat) (n0:Nat):Prop:=∀ W W':World,(∀ b,b<n0->W'.heap[b]?=W.heap[b]?)->K W'=K W
theorem KpK.turn {K:World->List Nat} {nb n0:Nat} (hK:Reads K n0) (W:World) (l:Nat) (o o':Obj) (h0:n0<=l) (hb:nb<=l) (h:W.heap[l]?=some o) (h1:o.isCells=false) (h2:o.isWalk=false):KpK K nb W (W.putObj l o'):=by
 have hl:=(Array.getElem?_eq_some_iff.1 h).1;have hg:=grownBy_putObj' W l o';have hother:∀ b,b≠l->(W.putObj l o').heap[b]?=W.heap[b]?:=fun b hb=>World.putObj_heap_other hb;refine ⟨(Below.refl nb W).grown hg (by omega) (fun k e=>by cases e;exact hb),fun b o2 ho hs _=>?_,fun b hb=>.inl ?_⟩
 ·by_cases e:b=l
  ·subst e;rw [h] at ho
   cases ho
   rcases hs with hs | hs
   ·rw [h1] at hs;cases hs
   ·rw [h2] at hs;cases hs
  ·exact (hother b e).trans ho
 ·rw [hK W (W.putObj l o') fun b hb=>hother b (by omega)] at hb;exact hb
theorem EffAt.turnK {w w':World} {B:List Nat} {v:Value} {x:Eff} (h:EffAt w B v x) (hk:∀ b∈B,∀ o u,w.cell? ⟨b,o,none⟩=some u->w'.cell? ⟨b,o,none⟩=some u):EffAt w' B v x:=by
 have key:∀ (b o:Nat) (u:Value),b∈B->w.cell? ⟨b,o,none⟩=some u->w'.cell? ⟨b,o,none⟩=some u:=fun b o u hb hc=>hk b hb o u hc
 cases x with
 | write p d t =>
  obtain ⟨b1,b2,b3,hv,m1,m2,m3,c1,c2,c3⟩:=h;exact ⟨b1,b2,b3,hv,m1,m2,m3,key _ _ _ m1 c1,key _ _ _ m2 c2,key _ _ _ m3 c3⟩
 | add p d=>first | exact h.elim | (obtain ⟨b1,b2,hv,m1,m2,c1,c2⟩:=h;exact ⟨b1,b2,hv,m1,m2,key _ _ _ m1 c1,key _ _ _ m2 c2⟩)
 | mkdir p =>
  obtain ⟨b1,hv,m1,c1⟩:=h;exact ⟨b1,hv,m1,key _ _ _ m1 c1⟩
 | link p g t =>
  obtain ⟨b1,b2,hv,m1,m2,c1,c2,c3,c4,c5⟩:=h;exact ⟨b1,b2,hv,m1,m2,key _ _ _ m1 c1,key _ _ _ m2 c2,key _ _ _ m2 c3,key _ _ _ m2 c4,key _ _ _ m2 c5⟩
 | rename p q=>first | exact h.elim | (obtain ⟨b1,b2,hv,m1,m2,c1,c2⟩:=h;exact ⟨b1,b2,hv,m1,m2,key _ _ _ m1 c1,key _ _ _ m2 c2⟩)
 | remove p=>first | exact h.elim | (obtain ⟨b1,hv,m1,c1⟩:=h;exact ⟨b1,hv,m1,key _ _ _ m1 c1⟩)
theorem cells_of_cell {w:World} {b o:Nat} {u:Value} (h:w.cell? ⟨b,o,none⟩=some u):∃ c t f,w.heap[b]?=some (.cells c t f):=by
 unfold World.cell? at h;split at h
 ·rename_i c t f hh;exact ⟨c,t,f,hh⟩
 ·cases h
def SameF (F:List Nat) (w w':World):Prop:=∀ b∈F,∀ o,w.heap[b]?=some o->Solid o->w'.heap[b]?=some o
theorem SameF.cell {F:List Nat} {w w':World} (h:SameF F w w') {b o:Nat} {u:Value} (hb:b∈F) (hc:w.cell? ⟨b,o,none⟩=some u):w'.cell? ⟨b,o,none⟩=some u:=by
 obtain ⟨c,t,f,hh⟩:=cells_of_cell hc;exact (World.cell?_of_block ((h b hb _ hh (.inl rfl)).trans hh.symm)).trans hc
theorem DkAt.keptF {w w':World} {d:Nat} {M I F:List Nat} {D:Dk} (h:DkAt w d M I D) (hs:w.heap.size<=w'.heap.size) (hk:SameF F w w') (hM:∀ b∈M,b∈F) (hI:∀ b∈I,b∈F):DkAt w' d M I D:=by
 obtain ⟨lt,lm,st,sm,lg,vs,h,rfl⟩:=h;have hc:∀ b,b∈[d,lt,lm,st,sm]->∀ o,w.heap[b]?=some o->Solid o->w'.heap[b]?=some o:=fun b hb=>hk b (hM b (List.mem_append.2 (.inl hb)));have k1:∀ b c t f,b∈[d,lt,lm,st,sm]->w.heap[b]?=some (.cells c t f)->w'.heap[b]?=w.heap[b]?:=fun b c t f hb hh=>(hc b hb _ hh (.inl rfl)).trans hh.symm
 have k2:∀ b l,b∈[d,lt,lm,st,sm]->MapL w b l->w'.heap[b]?=w.heap[b]?:=fun b l hb hm=>by
  obtain ⟨_,_,Dm,⟨es,clock,hh,_⟩,_⟩:=hm;exact (hc b hb _ hh (.inr rfl)).trans hh.symm
 refine ⟨lt,lm,st,sm,lg,vs,⟨(k1 d _ _ _ (by simp) h.blk).trans h.blk,h.live.kept (k1 lt _ _ _ (by simp) h.live.blk) (k2 lm _ (by simp) h.live.map),h.lasts.kept (k1 st _ _ _ (by simp) h.lasts.blk) (k2 sm _ (by simp) h.lasts.map),owns_blocks h.log fun b hb=>?_,fun k v x h1 h2=>?_,h.nd,h.lgne,fun b hb=>⟨(h.imm b hb).1,(h.imm b hb).2.1,Nat.lt_of_lt_of_le (h.imm b hb).2.2 hs⟩⟩,rfl⟩
 ·rcases h.log.2 with ⟨he,_⟩ | ⟨g,cap,cur,he,_,hh,_⟩
  ·rw [he] at hb;simp [Value.ownBlock] at hb
  ·rw [he] at hb;simp [Value.ownBlock] at hb;subst hb;exact (hk g (hM g (List.mem_append.2 (.inr (mem_rowB.2 (by rw [he];rfl))))) _ hh (.inl rfl)).trans hh.symm
 ·obtain ⟨h3,h4⟩:=h.effs k v x h1 h2;exact ⟨h3.turnK fun b hb o u hc=>hk.cell (hI b hb) hc,h4⟩
structure Sf (K:World->List Nat) (F:List Nat) (W1 wr:World):Prop where
 size:W1.heap.size<=wr.heap.size
 same:SameF F W1 wr
 out:∀ b∈F,b∉K wr
theorem Sf.ext {K:World->List Nat} {n0:Nat} {F:List Nat} {W1 wr wr':World} (h:Sf K F W1 wr) (hK:Reads K n0) (x:Ext wr wr') (h0:n0<=wr.heap.size):Sf K F W1 wr' :=
 ⟨Nat.le_trans h.size x.size,fun b hb o ho hs=>by have:=h.same b hb o ho hs;exact (x.block (Array.getElem?_eq_some_iff.1 this).1).trans this,
  fun b hb hm=>h.out b hb (by rw [hK wr wr' fun b hb=>x.block (by omega)] at hm;exact hm)⟩
theorem Sf.round {K:World->List Nat} {nb:Nat} {F:List Nat} {W1 wr wr':World} (h:Sf K F W1 wr) (hF:∀ b∈F,b<W1.heap.size) (k:KpK K nb wr wr'):Sf K F W1 wr' :=
 ⟨Nat.le_trans h.size k.low.size,fun b hb o ho hs=>k.same b o (h.same b hb o ho hs) hs (h.out b hb),
  fun b hb hm=>(k.sub b hm).elim (h.out b hb) fun hge=>by have:=hF b hb;have:=h.size;omega⟩
theorem grown_of_ext {w w':World} (x:Ext w w'):w.grownBy w' none:=⟨Below.os x,Below.tape x,Below.output x,x.size,fun _ hb _=>x.block hb⟩
theorem AbidesFrom.ext {β:Type} {B:Nat} {J:β->World->Prop} (h:AbidesFrom B J) {s:β} {w w':World} (hs:J s w) (x:Ext w w'):J s w':=h s w w' none hs (grown_of_ext x) (fun _ e=>by cases e)
def relS (r p:ByteArray):ByteArray:=p.extract (r.size+1) p.size
def inRoot (r:ByteArray) (l:Nodes):Nodes:=(l.filter fun x=>withinB x.1 r).map fun x=>(relS r x.1,x.2)
theorem inRoot_next {r:ByteArray} {l:Nodes} {k:Nat} {x:ByteArray×Nd} (h:l[k]?=some x):inRoot r (l.take (k+1))=inRoot r (l.take k)++(if withinB x.1 r then [(relS r x.1,x.2)] else []):=by
 unfold inRoot;rw [List.take_add_one,h]
 cases hw:withinB x.1 r <;> simp [hw]
theorem inRoot_prefix (r:ByteArray) (l:Nodes) (k:Nat):inRoot r (l.take k)<+:inRoot r l:=by
 have:inRoot r l=inRoot r (l.take k)++inRoot r (l.drop k):=by
  unfold inRoot;rw [<-List.map_append,<-List.filter_append,List.take_append_drop]
 exact ⟨_,this.symm⟩
def eachL (D:Dk) (r:ByteArray):Nodes:=if rootE D.live r=0 then inRoot r D.live else []
theorem mayRoot {l:Nodes} {r:ByteArray} (h:rootE l r=0):mayB r=true:=by
 unfold rootE at h;split at h
 ·assumption
 ·cases h
theorem within_more {p d:ByteArray} (hd:mayB d=true) (h:withinB p d=true):d.size+1<=p.size:=by
 have hne:d.toList.isEmpty=false:=by
  cases he:d.toList.isEmpty with
  | false=>rfl
  | true =>
   have h1:d.toList.length=0:=by rw [List.isEmpty_iff.1 he];rfl
   rw [len_toList] at h1;have h2:d=⟨#[]⟩:=ba_ext ((List.eq_nil_of_length_eq_zero (by rw [len_toList];exact h1)).trans (List.eq_nil_of_length_eq_zero (by rw [len_toList];rfl)).symm);rw [h2] at hd;exact absurd hd (by rw [show mayB ⟨#[]⟩=false from by kernel_rfl];simp)
 unfold withinB at h;rw [hne] at h;simp only [Bool.false_or,Bool.and_eq_true] at h;obtain ⟨r,hr⟩:=(hasPrefix_iff _ _).1 h.2.2;have:=congrArg List.length hr;simp only [List.length_append,len_toList,List.length_cons,List.length_nil] at this;omega
theorem nd_small {l:Nodes} {room:Nat} (O:TreeOk l room) (hr:room<=1048576) (p:ByteArray):(readE l p).1.data.size<=1048576:=by
 unfold readE;split
 ·split
  ·rename_i n hn;have h1:=mem_used (findA_mem hn);have h2:=O.used;have h3:64+n.data.size<=usedL l:=h1
   show n.data.size<=1048576
   omega
  ·have h0:nd0.data.size=0:=rfl
   show nd0.data.size<=1048576
   omega
 ·have h0:nd0.data.size=0:=rfl
  show nd0.data.size<=1048576
  omega
def clipW (x:ByteArray×Nd):ByteArray×Nd:=if x.1.size<=160/\x.2.data.size<=1048576 then x else (⟨#[]⟩,nd0)
theorem clipW_le (x:ByteArray×Nd):(clipW x).1.size<=160/\(clipW x).2.data.size<=1048576:=by
 unfold clipW;split
 ·rename_i h;exact h
 ·exact ⟨by decide,by decide⟩
theorem clipW_eq {x:ByteArray×Nd} (h1:x.1.size<=160) (h2:x.2.data.size<=1048576):clipW x=x:=if_pos ⟨h1,h2⟩
def encW (x:ByteArray×Nd):Array Value:=#[.string (clipW x).1,nv (clipW x).2]
set_option maxRecDepth 100000 in
set_option maxHeartbeats 4000000 in
theorem each_stops (n:Nat) (hn:1<=n) {wb w0:World} {K:World->List Nat} {n0 d Bd Br:Nat} {M I:List Nat} {D:Dk} {m:Nat} (root:ByteArray) (Eb:Env wb) (xb:Ext wb w0) (hK:Reads K n0) (hn0:n0<=w0.heap.size) (hKlt:∀ b∈K w0,b<w0.heap.size)
  (hD:DkAt w0 d M I D) (R:DkRun m D) (O:DkFit D) (hI:∀ b∈I,b∉K w0) (hBd:w0.cell? ⟨Bd,0,none⟩=some (.pointer (some ⟨d,0,none⟩))) (hBr:w0.cell? ⟨Br,0,none⟩=some (.string root)) (hBrK:Br∉K w0) (hr:root.size<4294967280) :
  SeqStopsK Fence.wide n prog 79 #[.pointer (some ⟨Bd,0,none⟩),.pointer (some ⟨Br,0,none⟩)] encW (KpK K wb.heap.size) (fun ys=>ys=eachL D root) (fun pre=>pre<+:eachL D root) (eachL D root).length w0:=fun l J Jx W hW hJ hJx hY h0=>by
 have xW:Ext w0 W:=hW;have hDW:=hD.ext xW;have HR:=lh (rooted_any hDW O.ok (Eb.ext (xb.trans xW)) root (by omega));have bd:W.cell? ⟨Bd,0,none⟩=some (.pointer (some ⟨d,0,none⟩)):=(xW.cell (lt_of_cell hBd)).trans hBd;have br:W.cell? ⟨Br,0,none⟩=some (.string root):=(xW.cell (lt_of_cell hBr)).trans hBr;have KW:K W=K w0:=hK w0 W fun b hb=>xW.block (by omega);have HEL:=lh (show eachL D root=if rootE D.live root=0 then inRoot root D.live else [] from rfl);refine callsIn_of_wp func79 rfl trivial ?_ rfl;simp only [ntmps79,List.size_toArray,List.length_cons,List.length_nil,Nat.reduceAdd,Nat.reduceSub,Array.replicate_succ,Array.replicate_zero,List.push_toArray,List.append_toArray,List.nil_append,List.cons_append];by_cases hroot:rootE D.live root=0
 ·have HS:=lh (show eachL D root=inRoot root D.live from by rw [HEL.out,if_pos hroot]);rw [hroot] at HR;gi_wp2;refine ⟨trivial,(callsIn_wide.2 HR.out).mono ?_⟩;rintro e w1 ⟨rfl,x1⟩;have hD1:=hDW.ext x1;have bd1:w1.cell? ⟨Bd,0,none⟩=some (.pointer (some ⟨d,0,none⟩)):=(x1.cell (lt_of_cell bd)).trans bd;have HC:=lh (Copy_any hD1 O);gi_wp2;refine ⟨trivial,(callsIn_wide.2 HC.out).mono ?_⟩;rintro e w2 ⟨c,M',rfl,hC2,x2,hM'⟩;have HP:=lh (Paths_any hC2 O.ok);gi_wp2;refine ⟨trivial,(callsIn_wide.2 HP.out).mono ?_⟩;rintro e w3 ⟨v,rfl,hrow,x3⟩;obtain ⟨F,hF⟩:∃ F:List Nat,F=M'++I++rowB v++[Br]:=⟨_,rfl⟩;have x03:Ext w0 w3:=((xW.trans x1).trans x2).trans x3;have hC3:=hC2.ext x3;have br3:w3.cell? ⟨Br,0,none⟩=some (.string root):=(((x1.trans x2).trans x3).cell (lt_of_cell br)).trans br
  have hFlt:∀ b∈F,b<w3.heap.size:=by
   intro b hb;rw [hF] at hb;simp only [List.mem_append,List.mem_singleton] at hb;rcases hb with ((hb | hb) | hb) | hb
   ·exact hC3.lt.1 b hb
   ·exact hC3.lt.2 b hb
   ·exact own_lt hrow b (mem_rowB.1 hb)
   ·subst hb;exact lt_of_cell br3
  have K3:K w3=K w0:=hK w0 w3 fun b hb=>x03.block (by omega)
  have hS3:Sf K F w3 w3:=⟨Nat.le_refl _,fun _ _ _ ho _=>ho,fun b hb hm=>by
   rw [K3] at hm;have hlt:=hKlt b hm;rw [hF] at hb;simp only [List.mem_append,List.mem_singleton] at hb;rcases hb with ((hb | hb) | hb) | hb
   ·have:=hM' b hb;have:=(xW.trans x1).size;omega
   ·exact hI b hb hm
   ·have:=own_ge hrow b (mem_rowB.1 hb);have:=((xW.trans x1).trans x2).size;omega
   ·subst hb;exact hBrK hm⟩
  have hJ3:J [] w3:=AbidesFrom.ext hJ h0 ((x1.trans x2).trans x3);have hb3:Ext wb w3:=xb.trans x03;have hlen:=live_few R;obtain ⟨ra,rcap,rfl⟩:=rowk_shape hrow;have HT3:=lh (TextsOwn.of hrow (by simp));gi_wp2;gi_loopw [18] (fun i wr=>∃ k:Nat,i=.int .i64 (k:Int)/\k<=D.live.length/\Hid (J (inRoot root (D.live.take k)) wr/\Sf K F w3 wr/\Ext wb wr)) (fun i _=>D.live.length - (intOf i).toNat)
  case atStart=>exact ⟨0,rfl,Nat.zero_le _,hJ3,hS3,hb3⟩
  case round =>
   obtain ⟨k,rfl,hk,hin⟩:=hrel;rcases Nat.lt_or_ge k D.live.length with hlt | hge
   ·obtain ⟨⟨xp,nk,ndt,nt,ntm⟩,hx⟩:∃ x,D.live[k]?=some x:=⟨_,List.getElem?_eq_getElem hlt⟩;obtain ⟨hrd,hxs⟩:=read_at R hx;have hJk:=lh hin.out.1;have hSk:=lh hin.out.2.1;have hbk:=lh hin.out.2.2;have Ek:=Eb.ext hbk.out;have hCk:=lh (hC3.keptF hSk.out.size hSk.out.same (fun b hb=>by rw [hF];simp [hb]) (fun b hb=>by rw [hF];simp [hb]));have brk:wr.cell? ⟨Br,0,none⟩=some (.string root):=hSk.out.same.cell (by rw [hF];simp) br3;obtain ⟨g,hra,hck⟩:=HT3.out.get ra D.live.length rcap rfl k xp (by rw [List.getElem?_map,hx];rfl);subst hra;have cell:wr.cell? ⟨g,k,none⟩=some (.string xp):=hSk.out.same.cell (by rw [hF];simp [rowB,Value.ownBlock]) hck;have HWi:=lh (within_any xp root wr (by have:xp.size<=160:=hxs;omega) hr Ek);have HIn:=lh (inRoot_next (r:=root) hx);have hcap:=HT3.out.shape;clear hin hck;gi_wp2;refine ⟨trivial,(callsIn_wide.2 HWi.out).mono ?_⟩;rintro e w5 ⟨rfl,x5⟩
    cases hw:withinB xp root with
    | false =>
     have HN:=lh (show inRoot root (D.live.take (k+1))=inRoot root (D.live.take k) from by rw [HIn.out,hw];simp);gi_wp2;go_roundw
     case rel=>exact ⟨k+1,by simp,by omega,by rw [HN.out];exact AbidesFrom.ext hJ hJk.out x5,hSk.out.ext hK x5 (by have:=x03.size;have:=hSk.out.size;omega),hbk.out.trans x5⟩
     case measure=>simp [intOf];omega
    | true =>
     have HRd:=lh (Read_any (hCk.out.ext x5) (Ek.ext x5) xp (by omega));rw [hrd] at HRd;unfold nv at HRd;dsimp only at HRd;gi_wp2;refine ⟨trivial,(callsIn_wide.2 HRd.out).mono ?_⟩;rintro e w6 ⟨rfl,x6⟩
     have hsz:root.size+1<=xp.size:=by
      have hm:=mayRoot hroot;exact within_more hm hw
     have brs:w6.cell? ⟨Br,0,none⟩=some (.string root):=((x5.trans x6).cell (lt_of_cell brk)).trans brk;have br7:(w6.alloc (.cells #[.int .i64 nk,.string ndt,.string nt,.int .i64 ntm] 84 (0,0))).cell? ⟨Br,0,none⟩=some (.string root):=(cell_alloc_old (lt_of_cell brs)).trans brs;have hnb:=block_alloc_new w6 (.cells #[.int .i64 nk,.string ndt,.string nt,.int .i64 ntm] 84 (0,0));have n0:(w6.alloc (.cells #[.int .i64 nk,.string ndt,.string nt,.int .i64 ntm] 84 (0,0))).cell? ⟨w6.heap.size,0,none⟩=some (.int .i64 nk):=cellB hnb;have n1:(w6.alloc (.cells #[.int .i64 nk,.string ndt,.string nt,.int .i64 ntm] 84 (0,0))).cell? ⟨w6.heap.size,1,none⟩=some (.string ndt):=cellB hnb;have n2:(w6.alloc (.cells #[.int .i64 nk,.string ndt,.string nt,.int .i64 ntm] 84 (0,0))).cell? ⟨w6.heap.size,2,none⟩=some (.string nt):=cellB hnb;have n3:(w6.alloc (.cells #[.int .i64 nk,.string ndt,.string nt,.int .i64 ntm] 84 (0,0))).cell? ⟨w6.heap.size,3,none⟩=some (.int .i64 ntm):=cellB hnb;clear hnb;have hmx:xp.size<=160:=hxs;have hs0:IntKind.i64.wrap ((root.size:Int)+1)=(root.size:Int)+1:=IntWalk.i64_in _ ⟨by omega,by omega⟩;have hs1:(0:Int)<=IntKind.i64.wrap ((root.size:Int)+1):=by rw [hs0];omega
     have hs2:IntKind.i64.wrap ((root.size:Int)+1)<=(xp.size:Int):=by rw [hs0];omega
     have hs3:xp.extract (IntKind.i64.wrap ((root.size:Int)+1)).toNat xp.size=xp.extract (root.size+1) xp.size:=by rw [hs0];rfl
     clear hs0;have HClip:=lh (show clipW (relS root xp,⟨nk,ndt,nt,ntm⟩)=(relS root xp,⟨nk,ndt,nt,ntm⟩) from clipW_eq (by show (relS root xp).size<=160;unfold relS;simp;omega) (by have:=nd_small R.ok.live R.ok.r2 xp;rw [hrd] at this;exact this));have hJ7:J (inRoot root (D.live.take k)) (w6.alloc (.cells #[.int .i64 nk,.string ndt,.string nt,.int .i64 ntm] 84 (0,0))).drew:=AbidesFrom.ext hJ hJk.out (((x5.trans x6).alloc _).drew);have HN:=lh (show inRoot root (D.live.take (k+1))=inRoot root (D.live.take k)++[(relS root xp,⟨nk,ndt,nt,ntm⟩)] from by rw [HIn.out];simp [hw])
     have hpl:(inRoot root (D.live.take k)).length<(eachL D root).length:=by
      have h1:=(inRoot_prefix root D.live (k+1)).length_le;rw [HN.out,<-HS.out,List.length_append] at h1;simp only [List.length_cons,List.length_nil] at h1;omega
     obtain ⟨fn,tmps,assign,body,hy,hR⟩:=(hY (inRoot root (D.live.take k)) (relS root xp,⟨nk,ndt,nt,ntm⟩) _ hJ7 hpl).mono (R':=fun e W'=>∃ b,e=.returned (.bool b)/\Hid ((b=true/\J (inRoot root (D.live.take (k+1))) W'/\KpK K wb.heap.size (w6.alloc (.cells #[.int .i64 nk,.string ndt,.string nt,.int .i64 ntm] 84 (0,0))).drew W')\/(b=false/\Jx (inRoot root (D.live.take (k+1))) W'))) (by
      rintro e W' (⟨rfl,h1,h2⟩ | ⟨rfl,h1⟩)
      ·exact ⟨_,rfl,.inl ⟨rfl,by rw [HN.out];exact h1,h2⟩⟩
      ·exact ⟨_,rfl,.inr ⟨rfl,by rw [HN.out];exact h1⟩⟩)
     rw [encW,HClip.out] at hy;dsimp only [relS,nv] at hy;have xk:Ext wr (w6.alloc (.cells #[.int .i64 nk,.string ndt,.string nt,.int .i64 ntm] 84 (0,0))).drew:=((x5.trans x6).alloc _).drew;have hS7:=lh (hSk.out.ext hK xk (by have:=x03.size;have:=hSk.out.size;omega));have hb7:=lh (hbk.out.trans xk);clear hJ7 hpl hJk hSk hbk hCk HWi HRd Ek HR HC HP HClip;gi_wp2;gi_region_with (with_reducible refine hR.mono ?_;rintro e W9 ⟨b,rfl,h9⟩;go_simp)
     all_goals
      cases b with
      | true =>
       have h10:J (inRoot root (D.live.take (k+1))) W9/\KpK K wb.heap.size (w6.alloc (.cells #[.int .i64 nk,.string ndt,.string nt,.int .i64 ntm] 84 (0,0))).drew W9:=h9.out.elim (fun h=>h.2) fun h=>absurd h.1 (by simp);gi_wp2;go_roundw
       case rel=>exact ⟨k+1,by simp,by omega,h10.1,hS7.out.round hFlt h10.2,Below.trans hb7.out h10.2.low⟩
       case measure=>simp [intOf];omega
      | false =>
       have h10:Jx (inRoot root (D.live.take (k+1))) W9:=h9.out.elim (fun h=>absurd h.1 (by simp)) fun h=>h.2;gi_wp2;refine bodyPost_ret (results_none rfl _ _ _) rfl ?_;exact ⟨⟨_,rfl⟩,.inr ⟨_,by rw [HS.out];exact inRoot_prefix root D.live (k+1),h10⟩⟩
   ·obtain rfl:k=D.live.length:=by omega
    gi_wp2;go_end0;exact ⟨⟨_,rfl⟩,.inl ⟨_,by rw [List.take_length,HS.out],hin.out.1⟩⟩
 ·have HS:=lh (show eachL D root=[] from by rw [HEL.out,if_neg hroot]);generalize rootE D.live root=RE at *;gi_wp2;refine ⟨trivial,(callsIn_wide.2 HR.out).mono ?_⟩;rintro e w1 ⟨rfl,x1⟩;gi_wp2;refine bodyPost_ret (results_none rfl _ _ _) rfl ?_;exact ⟨⟨_,rfl⟩,.inl ⟨_,HS.out.symm,AbidesFrom.ext hJ h0 x1⟩⟩
end
section
open Go.RowKit
theorem rec0_is:rec0=#[.string ⟨#[]⟩,.int .i64 0,.bool false,.int .i64 0,.int .i64 0,.int .i64 0,.int .u32 0,.int .u32 0,.int .u32 0,.int .u32 0,.int .u32 0,.int .u32 0,.int .u32 0,.int .u32 0,.int .u32 0,.int .u32 0,.int .u32 0,.int .u32 0,.int .u32 0,.int .u32 0,.int .u32 0,.int .u32 0,.int .i64 0,.slice none 0 0,.string ⟨#[]⟩,.int .i64 0,.int .i64 0]:=rfl
theorem owns_down {w:World} {base base' k n:Nat} {e:TypeId} {v:Value} {xs:List Value} (h:w.ownsRow base e k v n xs) (hb:base'<=base):w.ownsRow base' e k v n xs :=
 ⟨h.1,h.2.elim .inl fun ⟨g,cap,cur,hv,hg,hh,hr⟩=>.inr ⟨g,cap,cur,hv,Nat.le_trans hb hg,hh,hr⟩⟩
theorem owns_touch2 {w w':World} {base g k n:Nat} {e:TypeId} {v:Value} {xs:List Value} (h:w.ownsRow base e k v n xs) (x:Touch g w w') (hg:g<base):w'.ownsRow base e k v n xs:=by
 refine ⟨h.1,?_⟩;rcases h.2 with h1 | ⟨b,cap,cur,hv,hb,hh,hr⟩
 ·exact .inl h1
 ·exact .inr ⟨b,cap,cur,hv,hb,(x.block b (ltB hh) (fun e=>by have:=Option.some.inj e;omega)).trans hh,hr⟩
set_option maxRecDepth 100000 in
set_option maxHeartbeats 4000000 in
theorem item_any (p:ByteArray) (n:Nd) (w:World) (T:ShaTabs w) (hn:n.data.size<=1048576) :
  Calls prog 71 #[.string p,nv n] w fun e w'=>∃ C x,e=.returned (.tuple #[.agg C,.int .i64 x])/\Hid (ItemIs w.heap.size w' p n C x/\Ext w w'):=by
 obtain ⟨nk,nd,nt,ntm⟩:=n;unfold nv;dsimp only;have hn':nd.size<=1048576:=hn;have HX2:=lh ((((Ext.refl w).alloc (.cells #[.int .i64 nk,.string nd,.string nt,.int .i64 ntm] 84 (0,0))).alloc (.cells rec0 45 (0,0))).alloc (.cells rec0 45 (0,0)));have HZ6:=lh (block_alloc_new ((w.alloc (.cells #[.int .i64 nk,.string nd,.string nt,.int .i64 ntm] 84 (0,0))).alloc (.cells rec0 45 (0,0))) (.cells rec0 45 (0,0)));have HZ4:=lh ((block_alloc_old (o:=.cells rec0 45 (0,0)) (by simp only [size_alloc];omega)).trans (block_alloc_new (w.alloc (.cells #[.int .i64 nk,.string nd,.string nt,.int .i64 ntm] 84 (0,0))) (.cells rec0 45 (0,0))));have HZ3:=lh ((block_alloc_old (o:=.cells rec0 45 (0,0)) (by simp only [size_alloc];omega)).trans ((block_alloc_old (o:=.cells rec0 45 (0,0)) (by simp only [size_alloc];omega)).trans (block_alloc_new w (.cells #[.int .i64 nk,.string nd,.string nt,.int .i64 ntm] 84 (0,0)))));simp only [size_alloc] at HZ6 HZ4;rw [rec0_is] at HX2 HZ6 HZ4 HZ3;have HW:=lh (show ∀ sz bs bl,itemC p ⟨nk,nd,nt,ntm⟩ sz bs bl=#[.string p,.int .i64 nk,.bool false,.int .i64 sz,.int .i64 ntm,.int .i64 0,.int .u32 0,.int .u32 0,.int .u32 0,.int .u32 0,.int .u32 0,.int .u32 0,.int .u32 0,.int .u32 0,.int .u32 0,.int .u32 0,.int .u32 0,.int .u32 0,.int .u32 0,.int .u32 0,.int .u32 0,.int .u32 0,.int .i64 bs,bl,.string nt,.int .i64 0,.int .i64 0] from fun _ _ _=>rfl);generalize hIC:itemC p ⟨nk,nd,nt,ntm⟩=IC at *;have HA1:=lh (show ∀ sz bs bl,(prog.info? 45).map (·.size)=some (IC sz bs bl).size from fun sz bs bl=>by rw [HW.out];kernel_rfl);have HA2:=lh (show ∀ sz bs bl,27=(IC sz bs bl).size from fun sz bs bl=>by rw [HW.out];rfl);have HA3:=lh (show ∀ sz bs a n c,(IC sz bs (.slice a n c)).all (·.oneCell')=true from fun sz bs a n c=>by rw [HW.out];simp [Value.oneCell']);by_cases hk:nk=1
 ·subst hk;have HLl:=lh (len_toList nd);by_cases h4:nd.size<=4096
  ·go_enter func71,ntmps71
   go_wp2_with (first
    | (refine wpList_buildAs (IC 0 0 (.slice none 0 0)) rfl _ _ rfl (by rw [HW.out];kernel_rfl) ?_;go_frame)
    | (refine wpList_storeT rfl _ _ _ rfl (w.heap.size+2) (IC 0 0 (.slice none 0 0)) rfl rfl 45 _ HZ6.out (HA1.out _ _ _) (HA2.out _ _ _) (HA3.out _ _ _ _ _) ?_;intro w6 hb6 ht6;have HB6:=lh hb6;have X6:=lh (ht6.fresh HX2.out (by omega));have HN6:=(ht6.block w.heap.size (ltB HZ3.out) (by intro e;have:=Option.some.inj e;omega)).trans HZ3.out;have HR6:=lh ((ht6.block (w.heap.size+1) (ltB HZ4.out) (by intro e;have:=Option.some.inj e;omega)).trans HZ4.out);have n0:w6.cell? ⟨w.heap.size,0,none⟩=some (.int .i64 1):=cellB HN6;have n2:w6.cell? ⟨w.heap.size,2,none⟩=some (.string nt):=cellB HN6;have n3:w6.cell? ⟨w.heap.size,3,none⟩=some (.int .i64 ntm):=cellB HN6;have n1:w6.cell? ⟨w.heap.size,1,none⟩=some (.string nd):=cellB HN6;obtain ⟨cv,wc,hcv,hbo,xc⟩:=conv_bytes nd w6 hn';have HN:=lh HN6;have HXC:=lh xc;have HBO:=lh hbo;clear xc hbo;clear hb6 ht6 HN6 HZ6 HZ4 HZ3 HX2;go_frame))
   refine (blist_any nd.toList cv wc (T.ext (X6.out.trans HXC.out)) HBO.out (by rw [HLl.out];exact h4)).mono ?_;rintro e w8 ⟨u,rfl,h8⟩;rw [HLl.out] at h8;have H8:=h8;obtain ⟨ua,ucap,rfl⟩:=rowk_shape h8.out.1;have X8:=lh ((X6.out.trans HXC.out).trans h8.out.2);have Y8:=lh (HXC.out.trans h8.out.2);clear h8 hcv;have HN8:=lh ((Y8.out.block (ltB HN.out)).trans HN.out);have HB8:=lh ((Y8.out.block (ltB HB6.out)).trans HB6.out);have HR8:=lh ((Y8.out.block (ltB HR6.out)).trans HR6.out);clear HN HR6 n0 n1 n2 n3;have n1:w8.cell? ⟨w.heap.size,1,none⟩=some (.string nd):=cellB HN8.out;have HL8:=HB8.out;rw [HW.out] at HL8;have c3:w8.cell? ⟨w.heap.size+2,3,none⟩=some (.int .i64 0):=cellB HL8;have c22:w8.cell? ⟨w.heap.size+2,22,none⟩=some (.int .i64 0):=cellB HL8;have c23:w8.cell? ⟨w.heap.size+2,23,none⟩=some (.slice none 0 0):=cellB HL8;have f8:∀ k,w8.frozen? ⟨w.heap.size+2,k,none⟩=false:=fun k=>frozenB HL8;have HSz:=fun w'=>lh (bsize_any (nd.size:Int) w' (by omega) (by omega));rw [show sizeZ (nd.size:Int)=(sizeN nd.size:Nat) from by unfold sizeZ;rw [if_neg (by omega)];simp] at HSz;clear HL8;obtain ⟨W9,hW9⟩:∃ W9,W9=(((w8.setCell ⟨w.heap.size+2,3,none⟩ (.int .i64 (nd.size:Nat))).setCell ⟨w.heap.size+2,22,none⟩ (.int .i64 (sizeN nd.size:Nat))).setCell ⟨w.heap.size+2,23,none⟩ (.slice ua (countN nd.size) ucap)).drew:=⟨_,rfl⟩
   have HB9:=lh (show W9.heap[w.heap.size+2]?=some (.cells (IC (nd.size:Nat) (sizeN nd.size:Nat) (.slice ua (countN nd.size) ucap)) 45 (0,0)) from by
    have h1:=setCellB (k:=23) (u:=.slice ua (countN nd.size) ucap) (setCellB (k:=22) (u:=.int .i64 (sizeN nd.size:Nat)) (setCellB (k:=3) (u:=.int .i64 (nd.size:Nat)) HB8.out));rw [hW9];refine Eq.trans h1 ?_
    rw [HW.out,HW.out];rfl)
   have HT9:=lh (show Touch (w.heap.size+2) w8 W9 from hW9▸((((Touch.of (Ext.refl w8)).setCell _).setCell _).setCell _).trans (Touch.of (Ext.refl _).drew));have X9:=lh (HT9.out.fresh X8.out (by omega));have HR9:=lh ((HT9.out.block (w.heap.size+1) (ltB HR8.out) (by intro e;have:=Option.some.inj e;omega)).trans HR8.out)
   have HO9:=lh (show W9.ownsRow (w.heap.size+3) 54 32 (.slice ua (countN nd.size) ucap) (countN nd.size) (hrow (hashesL nd.toList)) from by
    have hlt:=ltB HB6.out;have:=HXC.out.size
    exact owns_down (owns_touch2 H8.out.1 HT9.out (by omega)) (by omega))
   clear HB8 HR8 HT9 X8;go_wp2_with fail;go_region_with ((refine (HSz _).out.mono ?_;rintro _ _ ⟨rfl,rfl⟩))
   all_goals (clear c3 c22 c23 f8 n1)
   all_goals (rw [show w.heap.size+1+1=w.heap.size+2 from rfl,<-hW9];clear hW9)
   all_goals go_wp2_with (first
    | (refine wpList_load_row rfl 45 (.tmp 6) rfl (w.heap.size+2) rfl 45 (IC (nd.size:Nat) (sizeN nd.size:Nat) (.slice ua (countN nd.size) ucap)) (0,0) _ HB9.out underlying45 rfl (HA1.out _ _ _) ?_;go_frame)
    | (refine wpList_storeT rfl _ _ _ rfl (w.heap.size+1) (IC (nd.size:Nat) (sizeN nd.size:Nat) (.slice ua (countN nd.size) ucap)) rfl rfl 45 _ HR9.out (HA1.out _ _ _) (HA2.out _ _ _) (HA3.out _ _ _ _ _) ?_;intro w7 hb7 ht7;have HB7:=lh hb7;have HT7:=lh ht7;clear hb7 ht7;go_frame))
   all_goals
    refine bodyPost_ret (results_row1 rfl _ _ (w.heap.size+1) 45 _ (0,0) _ rfl HB7.out underlying45 rfl (HA1.out _ _ _)) rfl ⟨_,_,rfl,⟨.inr (.inl ⟨rfl,h4,rfl,_,by rw [<-hIC],owns_down (owns_touch2 HO9.out HT7.out (by omega)) (by omega)⟩),HT7.out.fresh X9.out (by omega)⟩⟩
  ·have h5:4096<nd.size:=by omega
   go_enter func71,ntmps71
   go_wp2_with (first
    | (refine wpList_buildAs (IC 0 0 (.slice none 0 0)) rfl _ _ rfl (by rw [HW.out];kernel_rfl) ?_;go_frame)
    | (refine wpList_storeT rfl _ _ _ rfl (w.heap.size+2) (IC 0 0 (.slice none 0 0)) rfl rfl 45 _ HZ6.out (HA1.out _ _ _) (HA2.out _ _ _) (HA3.out _ _ _ _ _) ?_;intro w6 hb6 ht6;have HB6:=lh hb6;have X6:=lh (ht6.fresh HX2.out (by omega));have HN6:=(ht6.block w.heap.size (ltB HZ3.out) (by intro e;have:=Option.some.inj e;omega)).trans HZ3.out;have HR6:=lh ((ht6.block (w.heap.size+1) (ltB HZ4.out) (by intro e;have:=Option.some.inj e;omega)).trans HZ4.out);have n0:w6.cell? ⟨w.heap.size,0,none⟩=some (.int .i64 1):=cellB HN6;have n2:w6.cell? ⟨w.heap.size,2,none⟩=some (.string nt):=cellB HN6;have n3:w6.cell? ⟨w.heap.size,3,none⟩=some (.int .i64 ntm):=cellB HN6;have n1:w6.cell? ⟨w.heap.size,1,none⟩=some (.string nd):=cellB HN6;obtain ⟨cv,wc,hcv,hbo,xc⟩:=conv_bytes nd w6 hn';have HN:=lh HN6;have HXC:=lh xc;have HBO:=lh hbo;clear xc hbo;clear hb6 ht6 HN6 HZ6 HZ4 HZ3 HX2;go_frame))
   refine (blist_long nd.toList cv _ wc HBO.out (by rw [HLl.out];exact h5)).mono ?_;rintro e w8 ⟨rfl,hw8⟩;obtain rfl:=hw8.symm;clear hw8 hcv;have X8:=lh (X6.out.trans HXC.out);have HR8:=lh ((HXC.out.block (ltB HR6.out)).trans HR6.out);have HA02:=lh (show 27=rec0.size from rfl);have HA03:=lh (show rec0.all (·.oneCell')=true from by rw [rec0_is];simp [Value.oneCell']);have HA0:=lh (show (prog.info? 45).map (·.size)=some rec0.size from by rw [rec0_is];kernel_rfl)
   go_wp2_with (first
    | (refine wpList_buildAs rec0 rfl _ _ rfl (by rw [rec0_is];kernel_rfl) ?_;go_frame)
    | (refine wpList_storeT rfl _ _ _ rfl (w.heap.size+1) rec0 rfl rfl 45 _ HR8.out HA0.out HA02.out HA03.out ?_;intro w7 hb7 ht7;have HB7:=lh hb7;have X7:=lh (ht7.fresh X8.out (by omega));clear hb7 ht7;go_frame))
   exact bodyPost_ret (results_row1 rfl _ _ (w.heap.size+1) 45 _ (0,0) _ rfl HB7.out underlying45 rfl HA0.out) rfl ⟨_,_,rfl,⟨  .inr (.inr ⟨rfl,h5,rfl,rfl⟩),X7.out⟩⟩
 ·have dk:decide (nk=1)=false:=decide_eq_false hk;go_enter func71,ntmps71
  go_wp2_with (first
   | (refine wpList_buildAs (IC 0 0 (.slice none 0 0)) rfl _ _ rfl (by rw [HW.out];kernel_rfl) ?_;go_frame)
   | (refine wpList_storeT rfl _ _ _ rfl (w.heap.size+2) (IC 0 0 (.slice none 0 0)) rfl rfl 45 _ HZ6.out (HA1.out _ _ _) (HA2.out _ _ _) (HA3.out _ _ _ _ _) ?_;intro w6 hb6 ht6;have HB6:=lh hb6;have X6:=lh (ht6.fresh HX2.out (by omega));have HN6:=(ht6.block w.heap.size (ltB HZ3.out) (by intro e;have:=Option.some.inj e;omega)).trans HZ3.out;have HR6:=lh ((ht6.block (w.heap.size+1) (ltB HZ4.out) (by intro e;have:=Option.some.inj e;omega)).trans HZ4.out);have n0:w6.cell? ⟨w.heap.size,0,none⟩=some (.int .i64 nk):=cellB HN6;have n2:w6.cell? ⟨w.heap.size,2,none⟩=some (.string nt):=cellB HN6;have n3:w6.cell? ⟨w.heap.size,3,none⟩=some (.int .i64 ntm):=cellB HN6;clear hb6 ht6 HN6 HZ6 HZ4 HZ3 HX2;go_frame)
   | (refine wpList_load_row rfl 45 (.tmp 6) rfl (w.heap.size+2) rfl 45 (IC 0 0 (.slice none 0 0)) (0,0) _ HB6.out underlying45 rfl (HA1.out _ _ _) ?_;go_frame)
   | (refine wpList_storeT rfl _ _ _ rfl (w.heap.size+1) (IC 0 0 (.slice none 0 0)) rfl rfl 45 _ HR6.out (HA1.out _ _ _) (HA2.out _ _ _) (HA3.out _ _ _ _ _) ?_;intro w7 hb7 ht7;have HB7:=lh hb7;have X7:=lh (ht7.fresh X6.out (by omega));clear hb7 ht7;go_frame))
  refine bodyPost_ret (results_row1 rfl _ _ (w.heap.size+1) 45 _ (0,0) _ rfl HB7.out underlying45 rfl (HA1.out _ _ _)) rfl ⟨_,_,rfl,⟨.inl ⟨hk,?_,rfl⟩,X7.out⟩⟩;rw [<-hIC]
end
section
open Go.RowKit
set_option maxHeartbeats 1000000 in
theorem each_any (v:Option Addr) (root:ByteArray) (w:World) :
  Calls prog 25 #[.pointer v,.string root] w fun e w'=>e=.returned (.func (.func 79) #[] #[.pointer (some ⟨w.heap.size,0,none⟩),.pointer (some ⟨w.heap.size+1,0,none⟩)]) /\
   w'=(w.alloc (.cells #[.pointer v] 26)).alloc (.cells #[.string root] 9):=by
 go_enter func25,ntmps25;go_wp2_with fail;go_ret;exact ⟨rfl,rfl⟩
def OneIs (base:Nat) (w':World) (l:Nodes) (root p:ByteArray) (C:Array Value) (e:Int):Prop :=
 ((mayB root&&mayB p)=false/\C=rec0/\e=10) \/
 ((mayB root&&mayB p)=true/\(readE l (root++⟨#[47]⟩++p)).2≠0/\C=rec0/\e=(readE l (root++⟨#[47]⟩++p)).2) \/
 ((mayB root&&mayB p)=true/\(readE l (root++⟨#[47]⟩++p)).2=0/\ItemIs base w' p (readE l (root++⟨#[47]⟩++p)).1 C e)
theorem item_shape {base:Nat} {w':World} {p:ByteArray} {n:Nd} {C:Array Value} {e:Int} (h:ItemIs base w' p n C e):C.size=27/\C.all (·.oneCell')=true:=by
 rcases h with ⟨_,rfl,_⟩ | ⟨_,_,_,u,rfl,hu⟩ | ⟨_,_,_,rfl⟩
 ·exact ⟨rfl,by simp [itemC,Value.oneCell']⟩
 ·obtain ⟨a,c,rfl⟩:=rowk_shape hu;exact ⟨rfl,by simp [itemC,Value.oneCell']⟩
 ·exact ⟨rfl,by rw [rec0_is];simp [Value.oneCell']⟩
theorem item_keep {base b:Nat} {w w':World} {p:ByteArray} {n:Nd} {C:Array Value} {e:Int} (h:ItemIs base w p n C e) (x:Touch b w w') (hb:b<base):ItemIs base w' p n C e:=by
 rcases h with h | ⟨h1,h2,h3,u,h4,hu⟩ | h
 ·exact .inl h
 ·exact .inr (.inl ⟨h1,h2,h3,u,h4,owns_touch2 hu x hb⟩)
 ·exact .inr (.inr h)
theorem item_down {base base':Nat} {w:World} {p:ByteArray} {n:Nd} {C:Array Value} {e:Int} (h:ItemIs base w p n C e) (hb:base'<=base):ItemIs base' w p n C e:=by
 rcases h with h | ⟨h1,h2,h3,u,h4,hu⟩ | h
 ·exact .inl h
 ·exact .inr (.inl ⟨h1,h2,h3,u,h4,owns_down hu hb⟩)
 ·exact .inr (.inr h)
set_option maxRecDepth 100000 in
set_option maxHeartbeats 4000000 in
theorem Item_any {w:World} {d m:Nat} {M I:List Nat} {D:Dk} (h:DkAt w d M I D) (R:DkRun m D) (E:Env w) (T:ShaTabs w) (root p:ByteArray) (hr:root.size<=100000) (hp:p.size<=100000) :
  Calls prog 24 #[.pointer (some ⟨d,0,none⟩),.string root,.string p] w fun e w'=>∃ C x,e=.returned (.tuple #[.agg C,.int .i64 x])/\Hid (OneIs w.heap.size w' D.live root p C x/\Ext w w'):=by
 have HX:=lh ((Ext.refl w).alloc (.cells rec0 45 (0,0)));have HZ:=lh (block_alloc_new w (.cells rec0 45 (0,0)));have HA02:=lh (show 27=rec0.size from rfl);have HA03:=lh (show rec0.all (·.oneCell')=true from by rw [rec0_is];simp [Value.oneCell']);have HA0:=lh (show (prog.info? 45).map (·.size)=some rec0.size from by rw [rec0_is];kernel_rfl);have HM1:=fun w' (x:Ext w w')=>lh (may_any root w' (by omega) (E.ext x));have HM2:=fun w' (x:Ext w w')=>lh (may_any p w' (by omega) (E.ext x));have hjs:(root++⟨#[47]⟩++p).size<4294967281:=by simp [ByteArray.size_append,size_mk];omega
 have HRd:=fun w' (x:Ext w w')=>lh (Read_any (h.ext x) (E.ext x) (root++⟨#[47]⟩++p) hjs);have hns:=nd_small R.ok.live R.ok.r2 (root++⟨#[47]⟩++p);unfold OneIs;generalize hRE:readE D.live (root++⟨#[47]⟩++p)=RE at *;obtain ⟨RN,RI⟩:=RE;dsimp only at hns HRd ⊢;have HIt:=fun w' (x:Ext w w')=>lh (item_any p RN w' (T.ext x) hns);have h1:root.size<=100000:=hr;have h2:p.size<=100000:=hp;clear h R E T hns hjs;rw [rec0_is] at HX HZ
 cases hm1:mayB root with
 | false =>
  rw [hm1] at HM1;go_enter func24,ntmps24;go_wp2_with fail;refine (HM1 _ HX.out).out.mono ?_;rintro e w1 ⟨rfl,x1⟩;have X1:=lh (HX.out.trans x1);have HZ1:=lh ((x1.block (ltB HZ.out)).trans HZ.out)
  go_wp2_with (first
   | (refine wpList_buildAs rec0 rfl _ _ rfl (by rw [rec0_is];kernel_rfl) ?_;go_frame)
   | (refine wpList_storeT rfl _ _ _ rfl w.heap.size rec0 rfl rfl 45 _ HZ1.out HA0.out HA02.out HA03.out ?_;intro w7 hb7 ht7;have HB7:=lh hb7;have X7:=lh (ht7.fresh X1.out (Nat.le_refl _));clear hb7 ht7;go_frame))
  exact bodyPost_ret (results_row1 rfl _ _ w.heap.size 45 _ (0,0) _ rfl HB7.out underlying45 rfl HA0.out) rfl ⟨_,_,rfl,⟨(.inl ⟨rfl,rfl,rfl⟩),X7.out⟩⟩
 | true =>
  rw [hm1] at HM1
  cases hm2:mayB p with
  | false =>
   rw [hm2] at HM2;go_enter func24,ntmps24;go_wp2_with fail;refine (HM1 _ HX.out).out.mono ?_;rintro e w1 ⟨rfl,x1⟩;go_wp2_with fail;refine (HM2 _ (HX.out.trans x1)).out.mono ?_;rintro e w2 ⟨rfl,x2⟩;have X1:=lh ((HX.out.trans x1).trans x2);have HZ1:=lh (((x1.trans x2).block (ltB HZ.out)).trans HZ.out)
   go_wp2_with (first
    | (refine wpList_buildAs rec0 rfl _ _ rfl (by rw [rec0_is];kernel_rfl) ?_;go_frame)
    | (refine wpList_storeT rfl _ _ _ rfl w.heap.size rec0 rfl rfl 45 _ HZ1.out HA0.out HA02.out HA03.out ?_;intro w7 hb7 ht7;have HB7:=lh hb7;have X7:=lh (ht7.fresh X1.out (Nat.le_refl _));clear hb7 ht7;go_frame))
   exact bodyPost_ret (results_row1 rfl _ _ w.heap.size 45 _ (0,0) _ rfl HB7.out underlying45 rfl HA0.out) rfl ⟨_,_,rfl,⟨(.inl ⟨rfl,rfl,rfl⟩),X7.out⟩⟩
  | true =>
   rw [hm2] at HM2;go_enter func24,ntmps24;go_wp2_with fail;refine (HM1 _ HX.out).out.mono ?_;rintro e w1 ⟨rfl,x1⟩;go_wp2_with fail;refine (HM2 _ (HX.out.trans x1)).out.mono ?_;rintro e w2 ⟨rfl,x2⟩;have X2:=lh ((HX.out.trans x1).trans x2);have HZ2:=lh (((x1.trans x2).block (ltB HZ.out)).trans HZ.out);by_cases hI0:RI=0
   ·subst hI0;obtain ⟨nk,ndt,nt,ntm⟩:=RN;have HIu:=HIt;unfold nv at HRd HIt;dsimp only at HRd HIt;go_wp2_with fail;refine (HRd _ X2.out).out.mono ?_;rintro e w3 ⟨rfl,x3⟩;have X4:=lh ((X2.out.trans x3).alloc (.cells #[.int .i64 nk,.string ndt,.string nt,.int .i64 ntm] 84 (0,0)));have HZ4:=lh (((x3.alloc (.cells #[.int .i64 nk,.string ndt,.string nt,.int .i64 ntm] 84 (0,0))).block (ltB HZ2.out)).trans HZ2.out);go_wp2_with fail;refine (HIt _ X4.out).out.mono ?_;rintro e w5 ⟨C,y,rfl,h5⟩;have X5:=lh (X4.out.trans h5.out.2);have HZ5:=lh ((h5.out.2.block (ltB HZ4.out)).trans HZ4.out);obtain ⟨hs1,hs2⟩:=item_shape h5.out.1;have HC1:=lh (show (prog.info? 45).map (·.size)=some C.size from by rw [hs1];kernel_rfl);have HC2:=lh (show 27=C.size from hs1.symm);have HC3:=lh hs2;clear hs1 hs2;go_wp2_with (refine wpList_storeT rfl _ _ _ rfl w.heap.size C rfl rfl 45 _ HZ5.out HC1.out HC2.out HC3.out ?_;intro w7 hb7 ht7;have HB7:=lh hb7;have HT7:=lh ht7;clear hb7 ht7;go_frame)
    have hsz:w.heap.size<w3.heap.size:=by
     have h1:=ltB HZ2.out;have h2:=x3.size;omega
    have hI7:=lh (item_down (base':=w.heap.size) (item_keep h5.out.1 HT7.out (by rw [size_alloc];omega)) (by rw [size_alloc];omega));exact bodyPost_ret (results_row1 rfl _ _ w.heap.size 45 _ (0,0) _ rfl HB7.out underlying45 rfl HC1.out) rfl ⟨_,_,rfl,⟨by first | exact hI7.out | exact .inr (.inr ⟨rfl,rfl,hI7.out⟩),HT7.out.fresh X5.out (Nat.le_refl _)⟩⟩
   ·have d0:decide (RI=0)=false:=decide_eq_false hI0;obtain ⟨nk,ndt,nt,ntm⟩:=RN;unfold nv at HRd;dsimp only at HRd;go_wp2_with fail;refine (HRd _ X2.out).out.mono ?_;rintro e w3 ⟨rfl,x3⟩;have X4:=lh ((X2.out.trans x3).alloc (.cells #[.int .i64 nk,.string ndt,.string nt,.int .i64 ntm] 84 (0,0)));have HZ4:=lh (((x3.alloc (.cells #[.int .i64 nk,.string ndt,.string nt,.int .i64 ntm] 84 (0,0))).block (ltB HZ2.out)).trans HZ2.out)
    go_wp2_with (first
     | (refine wpList_buildAs rec0 rfl _ _ rfl (by rw [rec0_is];kernel_rfl) ?_;go_frame)
     | (refine wpList_storeT rfl _ _ _ rfl w.heap.size rec0 rfl rfl 45 _ HZ4.out HA0.out HA02.out HA03.out ?_;intro w7 hb7 ht7;have HB7:=lh hb7;have X7:=lh (ht7.fresh X4.out (Nat.le_refl _));clear hb7 ht7;go_frame))
    exact bodyPost_ret (results_row1 rfl _ _ w.heap.size 45 _ (0,0) _ rfl HB7.out underlying45 rfl HA0.out) rfl ⟨_,_,rfl,⟨.inr (.inl ⟨rfl,hI0,rfl,rfl⟩),X7.out⟩⟩
end
section
open Go.RowKit
end
section
open Go.RowKit
end
section
open Go.RowKit
def isTempB (s:ByteArray):Bool:=Lib.hasPrefix (baseS s).toList [126,116,126]
theorem isTemp_any (s:ByteArray) (w:World) (hs:s.size<4611686018427387904) :
  Calls prog 27 #[.string s] w fun e w'=>e=.returned (.bool (isTempB s))/\∃ n,w'=w.drewN n:=by
 have HS:=lh (split_any s w hs);have HP:=fun w=>lh (Tryz.strings_HasPrefix (baseS s) ⟨#[126,116,126]⟩ w);have HF:=lh (show Lib.hasPrefix (baseS s).data.toList (⟨#[126,116,126]⟩:ByteArray).data.toList=isTempB s from by unfold isTempB;rw [Lib.toList_data]);generalize isTempB s=r at *;generalize Lib.hasPrefix (baseS s).data.toList (⟨#[126,116,126]⟩:ByteArray).data.toList=q at *;generalize baseS s=b at *;generalize parentS s=p at *;go_enter func27,ntmps27;go_wp2_with fail;refine HS.out.mono ?_;rintro e w1 ⟨rfl,n,rfl⟩;go_wp2_with fail;refine (HP _).out.mono ?_;rintro e w2 ⟨rfl,rfl⟩;go_wp2_with fail;go_ret;exact ⟨ret_bool HF.out,n,rfl⟩
end
section
open Go.RowKit
structure WSt where
 items:Nodes
 temps:List ByteArray
 ign:List ByteArray
 bad:List ByteArray
 over:ByteArray
def badN (n:Nd):Bool:=decide (n.kind=1)&&decide (4096<n.data.size)
def stepW (ig:ByteArray->Bool) (s:WSt) (x:ByteArray×Nd):WSt :=
 if !s.over.toList.isEmpty&&withinB x.1 s.over then s
 else if isTempB x.1 then { s with temps:=s.temps++[x.1],over:=x.1 }
 else if ig x.1 then { s with ign:=s.ign++[x.1],over:=x.1 }
 else if badN x.2 then { s with bad:=s.bad++[x.1],over:=x.1 }
 else { s with items:=s.items++[x],over:=⟨#[]⟩ }
def wst0:WSt:=⟨[],[],[],[],⟨#[]⟩⟩
def walkS (ig:ByteArray->Bool) (l:Nodes):WSt:=l.foldl (stepW ig) wst0
theorem walkS_snoc (ig:ByteArray->Bool) (pre:Nodes) (x:ByteArray×Nd):walkS ig (pre++[x])=stepW ig (walkS ig pre) x:=by simp [walkS]
def itemU (x:ByteArray×Nd) (u:Value):List Value :=
 if x.2.kind=1 then (itemC x.1 x.2 (x.2.data.size:Nat) (sizeN x.2.data.size:Nat) u).toList else (itemC x.1 x.2 0 0 u).toList
def HashU (w:World) (base:Nat) (F:List Nat) (x:ByteArray×Nd) (u:Value):Prop :=
 (x.2.kind≠1/\u=.slice none 0 0)\/(x.2.kind=1/\x.2.data.size<=4096/\w.ownsRow base 54 32 u (countN x.2.data.size) (hrow (hashesL x.2.data.toList))/\∀ b,u.ownBlock=some b->b∉F)
def foundB (cs:Array Value):List Nat:=rowB (cs.getD 0 undef)++rowB (cs.getD 1 undef)++rowB (cs.getD 2 undef)++rowB (cs.getD 3 undef)
def walkK (b6 b9:Nat) (W:World):List Nat:=[b6,b9]++(match W.heap[b6]? with | some (.cells cs _ _)=>foundB cs | _=>[])
theorem walkK_reads {b6 b9 n0:Nat} (h:b6<n0):Reads (walkK b6 b9) n0:=fun W W' hb=>by
 unfold walkK;rw [hb b6 h]
end
section
open Go.RowKit
def whyB (ig:ByteArray->Bool) (x:ByteArray×Nd):Bool:=isTempB x.1||ig x.1||badN x.2
def covB (ig:ByteArray->Bool) (l:Nodes) (p:ByteArray):Bool:=l.any fun y=>withinB p y.1&&whyB ig y
structure Tidy (l:Nodes):Prop where
 sorted:Sorted l
 may:∀ x∈l,mayB x.1=true
structure WalkInv (ig:ByteArray->Bool) (l pre post:Nodes) (s:WSt):Prop where
 items:s.items=pre.filter fun x=>!covB ig l x.1&&!whyB ig x
 temps:s.temps=(pre.filter fun x=>!covB ig l x.1&&isTempB x.1).map (·.1)
 ign:s.ign=(pre.filter fun x=>!covB ig l x.1&&(!isTempB x.1&&ig x.1)).map (·.1)
 bad:s.bad=(pre.filter fun x=>!covB ig l x.1&&(!isTempB x.1&&!ig x.1&&badN x.2)).map (·.1)
 over:s.over.toList.isEmpty=false->∃ y∈pre,y.1=s.over/\whyB ig y=true
 cov:∀ z∈post,covB ig pre z.1=true->s.over.toList.isEmpty=false/\withinB z.1 s.over=true
end
section
open Go.RowKit
theorem Things.back {w0 w1 w:World} {L:List Thing} (h:Things w1 w L) (x:Ext w0 w1):Things w0 w L:=by
 obtain ⟨h1,X,hX,hall,hp⟩:=h;exact ⟨x.trans h1,X,hX,fun y hy=>⟨(hall y hy).1,fun b hb=>Nat.le_trans x.size ((hall y hy).2 b hb)⟩,hp⟩
def nF1:ByteArray:=⟨#[102,49]⟩
def nA:ByteArray:=⟨#[102,49,47,97]⟩
def nD:ByteArray:=⟨#[102,49,47,100]⟩
def nE:ByteArray:=⟨#[102,49,47,100,47,101]⟩
def nY:ByteArray:=⟨#[102,49,47,100,47,101,47,121]⟩
def nT:ByteArray:=⟨#[102,49,47,100,47,126,116,126,120]⟩
def nZ:ByteArray:=⟨#[102,49,47,122]⟩
def tAbc:ByteArray:=⟨#[97,98,99]⟩
def dirN:Nd:=⟨2,emp,emp,0⟩
def gPuts:List PutR:=[⟨2,nE,⟨#[]⟩,0,0⟩,⟨1,nA,tAbc,3,5⟩,⟨1,nT,⟨#[]⟩,0,0⟩,⟨1,nY,⟨#[121]⟩,5000,0⟩,⟨3,nZ,⟨#[97]⟩,0,6⟩]
def gY:ByteArray:=longS ⟨#[121]⟩ 5000
theorem gY_size:gY.size=5000:=longS_size _ _
def g3L:Nodes:=[(nF1,dirN),(nA,⟨1,tAbc,emp,5⟩),(nD,dirN),(nE,dirN),(nT,⟨1,emp,emp,0⟩)]
def g4L (Y:ByteArray):Nodes:=[(nF1,dirN),(nA,⟨1,tAbc,emp,5⟩),(nD,dirN),(nE,dirN),(nY,⟨1,Y,emp,0⟩),(nT,⟨1,emp,emp,0⟩)]
def gLv (Y:ByteArray):Nodes:=[(nF1,dirN),(nA,⟨1,tAbc,emp,5⟩),(nD,dirN),(nE,dirN),(nY,⟨1,Y,emp,0⟩),(nT,⟨1,emp,emp,0⟩),(nZ,⟨3,emp,⟨#[97]⟩,6⟩)]
def gD:Dk:=madeD gPuts
def g3D:Dk:=⟨g3L,[],262144,[.mkdir nF1,.mkdir nD,.mkdir nE,.write nA tAbc 5,.write nT emp 0],false,-5⟩
theorem g3_is:madeD (gPuts.take 3)=g3D:=by kernel_rfl
theorem act_write {D:Dk} {p d:ByteArray} {t:Int} (ho:D.off=false) (hp:mayB p=true) (ht:clockB t=true) (hh:homeE D.live p=0) (hf:fileE D.live p=0) (hd:d.size<=1048576) (hu:usedL (insS D.live p ⟨1,d,emp,t⟩)<=D.room) :
  (D.act (.write p d t)).2={ D with live:=insS D.live p ⟨1,d,emp,t⟩,log:=D.log++[.write p d t],left:=D.left - 1 }:=by
 have hc:cutTo full d=d:=cutTo_ge hd
 have he:effE D.live D.room full (.write p d t)=(0,insS D.live p ⟨1,d,emp,t⟩):=by
  show writeE D.live D.room p (cutTo full d) t=_
  unfold writeE putE;rw [if_pos hh,if_pos hf,hc,if_pos hu]
 rw [act_eff D (.write p d t) ho (by simp [Eff.paths,hp]) (show (Eff.write p d t).right=true from ht),he];rfl
theorem act_link {D:Dk} {p g:ByteArray} {t:Int} (ho:D.off=false) (hp:mayB p=true) (hr:(Eff.link p g t).right=true) (hh:homeE D.live p=0) (hf:(findA D.live p).isSome=false) (hu:usedL (insS D.live p ⟨3,emp,g,t⟩)<=D.room) :
  (D.act (.link p g t)).2={ D with live:=insS D.live p ⟨3,emp,g,t⟩,log:=D.log++[.link p g t],left:=D.left - 1 }:=by
 have he:effE D.live D.room full (.link p g t)=(0,insS D.live p ⟨3,emp,g,t⟩):=by
  show layE D.live D.room p ⟨3,emp,g,t⟩=_
  unfold layE putE;rw [if_pos hh,hf,if_neg (by simp),if_pos hu]
 rw [act_eff D (.link p g t) ho (by simp [Eff.paths,hp]) hr,he];rfl
def g4D (Y:ByteArray):Dk:=⟨g4L Y,[],262144,[.mkdir nF1,.mkdir nD,.mkdir nE,.write nA tAbc 5,.write nT emp 0,.write nY Y 0],false,-6⟩
theorem g4_is:putD g3D ⟨1,nY,⟨#[121]⟩,5000,0⟩=g4D gY:=by
 rw [putD_1 rfl]
 show ((mkAll g3D (waysT nY)).act (.write nY gY 0)).2=_
 rw [show mkAll g3D (waysT nY)=g3D from by kernel_rfl];have hY:=gY_size;generalize gY=Y at *;have hi:insS g3D.live nY ⟨1,Y,emp,0⟩=g4L Y:=by kernel_rfl
 rw [act_write (by kernel_rfl) (by kernel_rfl) (by kernel_rfl) (by kernel_rfl) (by kernel_rfl) (by omega) (by
  rw [hi];have hu:usedL (g4L Y)=64+emp.size+(64+tAbc.size+(64+emp.size+(64+emp.size+(64+Y.size+(64+emp.size+0))))):=rfl;rw [hu,hY]
  show _<=262144
  decide),hi]
 rfl
theorem gD_live:gD.live=gLv gY:=by
 unfold gD;rw [show gPuts=(gPuts.take 3++[⟨1,nY,⟨#[121]⟩,5000,0⟩])++[⟨3,nZ,⟨#[97]⟩,0,6⟩] from rfl,madeD_snoc,madeD_snoc,g3_is,g4_is,putD_3 rfl];have hY:=gY_size;generalize gY=Y at *
 show ((mkAll (g4D Y) (waysT nZ)).act (.link nZ ⟨#[97]⟩ 6)).2.live=_
 rw [show mkAll (g4D Y) (waysT nZ)=g4D Y from by kernel_rfl];have hi:insS (g4D Y).live nZ ⟨3,emp,⟨#[97]⟩,6⟩=gLv Y:=by kernel_rfl
 rw [act_link (by kernel_rfl) (by kernel_rfl) (by kernel_rfl) (by kernel_rfl) (by kernel_rfl) (by
  rw [hi];have hu:usedL (gLv Y)=64+emp.size+(64+tAbc.size+(64+emp.size+(64+emp.size+(64+Y.size+(64+emp.size+(64+emp.size+0)))))):=rfl;rw [hu,hY]
  show _<=262144
  decide),hi]
theorem gD_run:RunF 1005 gD:=RunF.made gPuts
def gE (Y:ByteArray):Nodes:=[(⟨#[97]⟩,⟨1,tAbc,emp,5⟩),(⟨#[100]⟩,dirN),(⟨#[100,47,101]⟩,dirN),(⟨#[100,47,101,47,121]⟩,⟨1,Y,emp,0⟩),(⟨#[100,47,126,116,126,120]⟩,⟨1,emp,emp,0⟩),(⟨#[122]⟩,⟨3,emp,⟨#[97]⟩,6⟩)]
theorem gD_root:rootE gD.live nF1=0:=by
 rw [gD_live];generalize gY=Y
 kernel_rfl
theorem gD_each:eachL gD nF1=gE gY:=by
 unfold eachL;rw [if_pos gD_root,gD_live];generalize gY=Y
 kernel_rfl
end
section
open Go.RowKit
def gCells:Array Value:=#[.int .i64 2,.string ⟨#[102,49,47,100,47,101]⟩,.string ⟨#[]⟩,.int .i64 0,.int .i64 0,.int .i64 1,.string ⟨#[102,49,47,97]⟩,.string ⟨#[97,98,99]⟩,.int .i64 3,.int .i64 5,.int .i64 1,.string ⟨#[102,49,47,100,47,126,116,126,120]⟩,.string ⟨#[]⟩,.int .i64 0,.int .i64 0,.int .i64 1,.string ⟨#[102,49,47,100,47,101,47,121]⟩,.string ⟨#[121]⟩,.int .i64 5000,.int .i64 0,.int .i64 3,.string ⟨#[102,49,47,122]⟩,.string ⟨#[97]⟩,.int .i64 0,.int .i64 6]
theorem gPuts_in (w:World):PutsIn (w.alloc (.cells gCells 126 (0,0))) (.slice (some ⟨w.heap.size,0,none⟩) 5 5) gPuts:=by
 refine ⟨_,5,rfl,by decide,by decide,fun k x hk=>?_⟩;have hb:=block_alloc_new w (.cells gCells 126 (0,0))
 have key:∀ (j:Nat) u,(putVal x)[j]?=some u->gCells[k*5+j]?=some u:=fun j u hj=>by
  have hk5:k<5:=(List.getElem?_eq_some_iff.1 hk).1;have hj5:j<5:=(List.getElem?_eq_some_iff.1 hj).1;have e1:k=0\/k=1\/k=2\/k=3\/k=4:=by omega
  have e2:j=0\/j=1\/j=2\/j=3\/j=4:=by omega
  rcases e1 with rfl | rfl | rfl | rfl | rfl <;> cases hk <;> rcases e2 with rfl | rfl | rfl | rfl | rfl <;> cases hj <;> rfl
 refine ⟨?_,w.heap.size,0,rfl,fun j u hj=>?_⟩
 ·have hk5:k<5:=(List.getElem?_eq_some_iff.1 hk).1;have e1:k=0\/k=1\/k=2\/k=3\/k=4:=by omega
  rcases e1 with rfl | rfl | rfl | rfl | rfl <;> cases hk <;> exact ⟨by decide,by decide,by decide,by decide⟩
 ·rw [Nat.zero_add];exact (cellB hb).trans (key j u hj)
theorem gPuts_fit:∀ x∈gPuts,x.p.size<=400/\x.text.size<=8000:=by
 intro x hx;simp only [gPuts,List.mem_cons,List.not_mem_nil,or_false] at hx;rcases hx with rfl | rfl | rfl | rfl | rfl <;> decide
set_option maxRecDepth 100000 in
set_option maxHeartbeats 2000000 in
theorem given_any (w:World) (E:Env w):Calls prog 19 #[] w fun e w'=>∃ d,e=.returned (.pointer (some ⟨d,0,none⟩))/\Hid (Things w w' [.disk d gD]):=by
 have X1:=lh ((Ext.refl w).alloc (.cells gCells 126 (0,0)));have HM:=lh (made_any (Things.start (Ext.refl (w.alloc (.cells gCells 126 (0,0))))) (E.ext X1.out) (gPuts_in w) (by decide) gPuts_fit);unfold gCells at HM X1;clear E;go_enter func19,ntmps19;go_wp2_with fail;refine HM.out.mono ?_;rintro e w2 ⟨d,r,rfl,h2⟩
 have HT:=lh (show Things w w2 [.disk d gD] from (h2.out.back X1.out).fewer (by
  exact List.Sublist.cons_cons _ (List.nil_sublist _)))
 clear h2 HM;go_wp2_with fail;go_ret;exact ⟨d,rfl,HT.out⟩
theorem e_parse:parseL (fsL [(⟨#[105]⟩,⟨#[101]⟩)]) (⟨#[105]⟩:ByteArray).toList=.ok [[101]]:=by
 simp only [fsL,List.map_cons,List.map_nil,Lib.toList_data]
 kernel_rfl
set_option maxRecDepth 100000 in
set_option maxHeartbeats 2000000 in
theorem list_any (w:World) (E:Env w):Calls prog 20 #[.string ⟨#[101]⟩] w fun e w'=>∃ ll,e=.returned (.pointer (some ⟨ll,0,none⟩))/\Hid (IsList w' ll [[101]]/\Ext w w'):=by
 have HP:=lh (parse_ok e_parse (texts_one (w:=w) (a:=⟨#[105]⟩) (b:=⟨#[101]⟩) (t:=128)) (fun f hf=>by rw [List.mem_singleton.1 hf];exact ⟨by decide,by decide⟩) (by decide) (E.ext ((Ext.refl w).alloc _)));clear E;go_enter func20,ntmps20;go_wp2_with fail;refine HP.out.mono ?_;rintro e w2 ⟨ll,rfl,h1,h2⟩;have H1:=lh h1;have H2:=lh h2;clear h1 h2 HP;go_wp2_with fail;go_ret;exact ⟨ll,rfl,⟨H1.out.out,((Ext.refl w).alloc _).trans H2.out⟩⟩
end
section
open Go.RowKit
def rowsU (l:Nodes) (us:List Value):List Value:=(l.zip us).flatMap fun p=>itemU p.1 p.2
def rowOf (s:WSt) (us:List Value):Nat->TypeId×Nat×Nat×List Value
 | 0=>(45,27,s.items.length,rowsU s.items us)
 | 1=>(9,1,s.temps.length,s.temps.map Value.string)
 | 2=>(9,1,s.ign.length,s.ign.map Value.string)
 | _=>(9,1,s.bad.length,s.bad.map Value.string)
structure FoundIn (n0 b6 b9:Nat) (s:WSt) (w:World) (vs:Nat->Value) (us:List Value):Prop where
 blk:w.heap[b6]?=some (.cells #[vs 0,vs 1,vs 2,vs 3] 37 (0,0))
 over:w.heap[b9]?=some (.cells #[.string s.over] 9 (0,0))
 row:∀ j,j<4->w.ownsRow n0 (rowOf s us j).1 (rowOf s us j).2.1 (vs j) (rowOf s us j).2.2.1 (rowOf s us j).2.2.2
 nd:∀ i j,i<4->j<4->i≠j->∀ b,(vs i).ownBlock=some b->(vs j).ownBlock≠some b
 len:us.length=s.items.length
 hs:∀ (k:Nat) x u,s.items[k]?=some x->us[k]?=some u->HashU w n0 [] x u
 hd:∀ (k:Nat) u,us[k]?=some u->∀ b,u.ownBlock=some b->∀ j,j<4->(vs j).ownBlock≠some b
 lt:b6<n0/\b9<n0/\b6≠b9
theorem FoundIn.below {n0 b6 b9:Nat} {s:WSt} {w:World} {vs:Nat->Value} {us:List Value} (h:FoundIn n0 b6 b9 s w vs us) (j:Nat) (hj:j<4) (b:Nat) (hb:(vs j).ownBlock=some b):n0<=b/\b<w.heap.size:=⟨own_ge (h.row j hj) b hb,own_lt (h.row j hj) b hb⟩
theorem FoundIn.add {n0 b6 b9:Nat} {s s':WSt} {w w1:World} {vs:Nat->Value} {us us':List Value} {v':Value} {j:Nat} {news:List Value} (h:FoundIn n0 b6 b9 s w vs us) (hj:j<4)
  (hr:w1.ownsRow n0 (rowOf s us j).1 (rowOf s us j).2.1 v' ((rowOf s us j).2.2.1+1) ((rowOf s us j).2.2.2++news)) (hg:w.grownBy w1 (vs j).ownBlock) (hw:v'.ownBlock=(vs j).ownBlock\/v'.ownBlock=some w.heap.size)
  (hs':rowOf s' us' j=((rowOf s us j).1,(rowOf s us j).2.1,(rowOf s us j).2.2.1+1,(rowOf s us j).2.2.2++news)) (ho:∀ i,i<4->i≠j->rowOf s' us' i=rowOf s us i) (hov:s'.over=s.over) (hlen:us'.length=s'.items.length)
  (hsn:∀ (k:Nat) x u,s'.items[k]?=some x->us'[k]?=some u->HashU w n0 [] x u) (hdn:∀ (k:Nat) u,us'[k]?=some u->∀ b,u.ownBlock=some b->b<w.heap.size/\∀ i,i<4->(vs i).ownBlock≠some b) :
  FoundIn n0 b6 b9 s' (w1.setCell ⟨b6,j,none⟩ v') (fun i=>if i=j then v' else vs i) us':=by
 have hsz:w.heap.size<=w1.heap.size:=hg.size;have hb6:b6<w.heap.size:=ltB h.blk;have hvj:=h.below j hj;have hold:∀ b,b<w.heap.size->(vs j).ownBlock≠some b->b≠b6->(w1.setCell ⟨b6,j,none⟩ v').heap[b]?=w.heap[b]?:=fun b hb hn h6=>(setCellO h6).trans (hg.block b hb fun e=>hn e.symm);have h6j:(vs j).ownBlock≠some b6:=fun e=>by have:=(hvj b6 e).1;have:=h.lt.1;omega
 have h9j:(vs j).ownBlock≠some b9:=fun e=>by have:=(hvj b9 e).1;have:=h.lt.2.1;omega
 have hb61:w1.heap[b6]?=some (.cells #[vs 0,vs 1,vs 2,vs 3] 37 (0,0)):=(hg.block b6 hb6 fun e=>h6j e.symm).trans h.blk
 have hv':∀ b,v'.ownBlock=some b->b≠b6/\n0<=b:=fun b hb=>by
  have:=own_ge hr b hb;exact ⟨by have:=h.lt.1;omega,this⟩
 refine ⟨?_,?_,?_,?_,hlen,?_,?_,h.lt⟩
 ·have h1:=setCellB (k:=j) (u:=v') hb61;refine h1.trans ?_
  match j,hj with
  | 0,_=>rfl
  | 1,_=>rfl
  | 2,_=>rfl
  | 3,_=>rfl
 ·rw [hov];exact (hold b9 (ltB h.over) h9j (Ne.symm h.lt.2.2)).trans h.over
 ·intro i hi;by_cases e:i=j
  ·subst e;rw [hs',if_pos rfl];exact owns_blocks hr fun b hb=>setCellO (hv' b hb).1
  ·rw [ho i hi e,if_neg e];exact owns_blocks (h.row i hi) fun b hb=>hold b (h.below i hi b hb).2 (fun e2=>h.nd j i hj hi (Ne.symm e) b e2 hb) (fun e6=>by have:=(h.below i hi b hb).1;have:=h.lt.1;omega)
 ·intro i k hi hk hne b hb hb2;by_cases ei:i=j
  ·rw [if_pos ei] at hb;have ek:k≠j:=fun e=>hne (ei.trans e.symm);rw [if_neg ek] at hb2;rcases hw with e | e
   ·rw [hb] at e;exact h.nd j k hj hk (Ne.symm ek) b e.symm hb2
   ·rw [hb] at e;have:=(h.below k hk b hb2).2;have:=Option.some.inj e;omega
  ·rw [if_neg ei] at hb;by_cases ek:k=j
   ·rw [if_pos ek] at hb2;rcases hw with e | e
    ·rw [hb2] at e;exact h.nd j i hj hi (Ne.symm ei) b e.symm hb
    ·rw [hb2] at e;have:=(h.below i hi b hb).2;have:=Option.some.inj e;omega
   ·rw [if_neg ek] at hb2;exact h.nd i k hi hk hne b hb hb2
 ·intro k x u hx hu;rcases hsn k x u hx hu with h1 | ⟨h1,h2,h3,h4⟩
  ·exact .inl h1
  ·refine .inr ⟨h1,h2,owns_blocks h3 fun b hb=>?_,h4⟩;obtain ⟨h5,h6⟩:=hdn k u hu b hb;exact hold b h5 (h6 j hj) (fun e6=>by have:=own_ge h3 b hb;have:=h.lt.1;omega)
 ·intro k u hu b hb i hi hi2;obtain ⟨h5,h6⟩:=hdn k u hu b hb;by_cases e:i=j
  ·rw [if_pos e] at hi2;rcases hw with e2 | e2
   ·rw [hi2] at e2;exact h6 j hj e2.symm
   ·rw [hi2] at e2;have:=Option.some.inj e2;omega
  ·rw [if_neg e] at hi2;exact h6 i hi hi2
end
section
open Go.RowKit
theorem KpK.ext {K:World->List Nat} {nb n0:Nat} (hK:Reads K n0) {W W':World} (x:Ext W W') (h0:n0<=W.heap.size) (hb:nb<=W.heap.size):KpK K nb W W' :=
 ⟨Below.mono x hb,fun _ _ ho _ _=>(x.block (ltB ho)).trans ho,fun b hm=>.inl (by rw [hK W W' fun b hb=>x.block (by omega)] at hm;exact hm)⟩
theorem ko_ext {W W':World} (x:Ext W W'):KeepsOthers W W':=⟨x.size,fun _ _ ho _=>(x.block (ltB ho)).trans ho⟩
theorem rowOf_over (s:WSt) (p:ByteArray) (us:List Value) (j:Nat):rowOf { s with over:=p } us j=rowOf s us j:=by
 match j with
 | 0=>rfl
 | 1=>rfl
 | 2=>rfl
 | _+3=>rfl
theorem FoundIn.k {n0 b6 b9:Nat} {s:WSt} {w:World} {vs:Nat->Value} {us:List Value} (h:FoundIn n0 b6 b9 s w vs us):walkK b6 b9 w=[b6,b9]++(rowB (vs 0)++rowB (vs 1)++rowB (vs 2)++rowB (vs 3)):=by
 unfold walkK;rw [h.blk];rfl
theorem FoundIn.mem_k {n0 b6 b9:Nat} {s:WSt} {w:World} {vs:Nat->Value} {us:List Value} (h:FoundIn n0 b6 b9 s w vs us) (b:Nat):b∈walkK b6 b9 w↔b=b6\/b=b9\/∃ j,j<4/\(vs j).ownBlock=some b:=by
 rw [h.k];simp only [List.mem_append,List.mem_cons,List.not_mem_nil,or_false,mem_rowB];constructor
 ·rintro ((h | h) | ((h | h) | h) | h)
  ·exact .inl h
  ·exact .inr (.inl h)
  ·exact .inr (.inr ⟨0,by omega,h⟩)
  ·exact .inr (.inr ⟨1,by omega,h⟩)
  ·exact .inr (.inr ⟨2,by omega,h⟩)
  ·exact .inr (.inr ⟨3,by omega,h⟩)
 ·rintro (h | h | ⟨j,hj,h⟩)
  ·exact .inl (.inl h)
  ·exact .inl (.inr h)
  ·match j,hj with
   | 0,_=>exact .inr (.inl (.inl (.inl h)))
   | 1,_=>exact .inr (.inl (.inl (.inr h)))
   | 2,_=>exact .inr (.inl (.inr h))
   | 3,_=>exact .inr (.inr h)
structure Rnd (b6 b9 nb:Nat) (W W':World):Prop where
 ko:KeepsOthers W W'
 kp:KpK (walkK b6 b9) nb W W'
theorem Rnd.trans {b6 b9 nb:Nat} {A B C:World} (h:Rnd b6 b9 nb A B) (k:Rnd b6 b9 nb B C):Rnd b6 b9 nb A C:=⟨h.ko.trans k.ko,h.kp.trans k.kp⟩
theorem Rnd.ext {b6 b9 nb:Nat} {W W':World} (x:Ext W W') (h6:b6<W.heap.size) (hb:nb<=W.heap.size):Rnd b6 b9 nb W W':=⟨ko_ext x,KpK.ext (walkK_reads (b9:=b9) (n0:=b6+1) (by omega)) x (by omega) hb⟩
theorem HashU.kept {w w':World} {n0:Nat} {x:ByteArray×Nd} {u:Value} (h:HashU w n0 [] x u) (k:∀ b,u.ownBlock=some b->w'.heap[b]?=w.heap[b]?):HashU w' n0 [] x u:=by
 rcases h with h1 | ⟨h1,h2,h3,h4⟩
 ·exact .inl h1
 ·exact .inr ⟨h1,h2,owns_blocks h3 k,h4⟩
theorem HashU.own {w:World} {n0:Nat} {x:ByteArray×Nd} {u:Value} (h:HashU w n0 [] x u) (b:Nat) (hb:u.ownBlock=some b):n0<=b/\b<w.heap.size:=by
 rcases h with ⟨_,rfl⟩ | ⟨_,_,h3,_⟩
 ·simp [Value.ownBlock] at hb
 ·exact ⟨own_ge h3 b hb,own_lt h3 b hb⟩
theorem FoundIn.kept {n0 b6 b9:Nat} {s:WSt} {w w':World} {vs:Nat->Value} {us:List Value} (h:FoundIn n0 b6 b9 s w vs us) (k:∀ b,b<w.heap.size->(∃ c t f,w.heap[b]?=some (.cells c t f))->w'.heap[b]?=w.heap[b]?):FoundIn n0 b6 b9 s w' vs us:=by
 have kr:∀ {e:TypeId} {m n:Nat} {v:Value} {xs:List Value},w.ownsRow n0 e m v n xs->∀ b,v.ownBlock=some b->w'.heap[b]?=w.heap[b]?:=fun {e m n v xs} hr b hb=>by
  refine k b (own_lt hr b hb) ?_;rcases hr.2 with ⟨he,_⟩ | ⟨g,cap,cur,he,_,hh,_⟩
  ·rw [he] at hb;simp [Value.ownBlock] at hb
  ·rw [he] at hb;simp [Value.ownBlock] at hb;subst hb;exact ⟨_,_,_,hh⟩
 refine ⟨(k b6 (ltB h.blk) ⟨_,_,_,h.blk⟩).trans h.blk,(k b9 (ltB h.over) ⟨_,_,_,h.over⟩).trans h.over,fun j hj=>owns_blocks (h.row j hj) (kr (h.row j hj)),h.nd,h.len,fun i x u hx hu=>?_,h.hd,h.lt⟩;rcases h.hs i x u hx hu with h1 | ⟨h1,h2,h3,h4⟩
 ·exact .inl h1
 ·exact .inr ⟨h1,h2,owns_blocks h3 (kr h3),h4⟩
theorem FoundIn.ext {n0 b6 b9:Nat} {s:WSt} {w w':World} {vs:Nat->Value} {us:List Value} (h:FoundIn n0 b6 b9 s w vs us) (x:Ext w w'):FoundIn n0 b6 b9 s w' vs us:=h.kept fun _ hb _=>x.block hb
theorem FoundIn.setOver {n0 b6 b9 nb:Nat} {s:WSt} {w:World} {vs:Nat->Value} {us:List Value} (h:FoundIn n0 b6 b9 s w vs us) (p:ByteArray) (hb:nb<=b9) :
  FoundIn n0 b6 b9 { s with over:=p } (w.setCell ⟨b9,0,none⟩ (.string p)) vs us/\Rnd b6 b9 nb w (w.setCell ⟨b9,0,none⟩ (.string p)):=by
 have hne:=h.lt.2.2;have ho:∀ b,b≠b9->(w.setCell ⟨b9,0,none⟩ (.string p)).heap[b]?=w.heap[b]?:=fun b hb=>setCellO hb;have h9:=setCellB (k:=0) (u:=.string p) h.over;have hl9:=ltB h.over;have c:Chg [b9] w (w.setCell ⟨b9,0,none⟩ (.string p)):=Chg.setCell w ⟨b9,0,none⟩ _ (by simp);refine ⟨⟨(ho b6 hne).trans h.blk,h9,fun j hj=>?_,h.nd,h.len,fun i x u hx hu=>(h.hs i x u hx hu).kept fun b hb=>?_,h.hd,h.lt⟩,⟨c.size,fun k o hk hc=>?_⟩,⟨c.os,c.tape,c.output,c.size,fun k hk=>?_⟩,fun b o hbo hs hn=>?_,fun b hm=>.inl ?_⟩
 ·rw [rowOf_over];exact owns_blocks (h.row j hj) fun b hb=>ho b (by have:=(h.below j hj b hb).1;have:=h.lt.2.1;omega)
 ·exact ho b (by have:=((h.hs i x u hx hu).own b hb).1;have:=h.lt.2.1;omega)
 ·refine (ho k fun e=>?_).trans hk;subst e;rw [h.over] at hk
  cases hk
  cases hc
 ·exact ho k (by omega)
 ·refine (ho b fun e=>hn ?_).trans hbo;rw [h.k,e];simp
 ·unfold walkK at hm ⊢;rw [ho b6 hne] at hm;exact hm
theorem FoundIn.addR {n0 b6 b9 nb:Nat} {s:WSt} {w w1:World} {vs:Nat->Value} {us:List Value} {v':Value} {j:Nat} (h:FoundIn n0 b6 b9 s w vs us) (hj:j<4)
  (hg:w.grownBy w1 (vs j).ownBlock) (hw:v'.ownBlock=(vs j).ownBlock\/v'.ownBlock=some w.heap.size) (hb:nb<=b6) (hb2:nb<=n0):Rnd b6 b9 nb w (w1.setCell ⟨b6,j,none⟩ v'):=by
 have hb6:b6<w.heap.size:=ltB h.blk
 have c:Chg (b6::rowB (vs j)) w (w1.setCell ⟨b6,j,none⟩ v') :=
  ((Chg.grownO hg (F:=rowB (vs j)) fun b hb=>.inl (mem_rowB.2 hb)).mono (fun x hx=>List.mem_cons_of_mem _ hx)).trans (Chg.setCell w1 ⟨b6,j,none⟩ v' (F:=[b6]) (by simp)) fun x hx=>.inl (by rw [List.mem_singleton.1 hx];simp)
 have h6j:(vs j).ownBlock≠some b6:=fun e=>by have:=(h.below j hj b6 e).1;have:=h.lt.1;omega
 have hb61:w1.heap[b6]?=some (.cells #[vs 0,vs 1,vs 2,vs 3] 37 (0,0)):=(hg.block b6 hb6 fun e=>h6j e.symm).trans h.blk;refine ⟨⟨c.size,fun k o hk hc=>?_⟩,⟨c.os,c.tape,c.output,c.size,fun k hk=>c.block k (by omega) fun hm=>?_⟩,fun b o hbo hs hn=>?_,fun b hm=>?_⟩
 ·refine (c.block k (ltB hk) fun hm=>?_).trans hk;rcases List.mem_cons.1 hm with e | e
  ·subst e;rw [h.blk] at hk
   cases hk
   cases hc
  ·have e:=mem_rowB.1 e;rcases (h.row j hj).2 with ⟨he,_⟩ | ⟨g,cap,cur,he,_,hh,_⟩
   ·rw [he] at e;simp [Value.ownBlock] at e
   ·rw [he] at e;simp [Value.ownBlock] at e;subst e;rw [hh] at hk
    cases hk
    cases hc
 ·rcases List.mem_cons.1 hm with e | e
  ·omega
  ·have:=(h.below j hj k (mem_rowB.1 e)).1;omega
 ·refine (c.block b (ltB hbo) fun hm=>hn ?_).trans hbo;rw [h.mem_k];rcases List.mem_cons.1 hm with e | e
  ·exact .inl e
  ·exact .inr (.inr ⟨j,hj,mem_rowB.1 e⟩)
 ·rw [h.mem_k];have h1:=setCellB (k:=j) (u:=v') hb61;unfold walkK at hm;rw [h1] at hm
  have key:∀ i,i<4->((fun i=>if i=j then v' else vs i) i).ownBlock=some b->(b=b6\/b=b9\/∃ j,j<4/\(vs j).ownBlock=some b)\/w.heap.size<=b:=fun i hi hb=>by
   by_cases e:i=j
   ·simp only [e,if_true] at hb;rcases hw with e2 | e2
    ·rw [hb] at e2;exact .inl (.inr (.inr ⟨j,hj,e2.symm⟩))
    ·rw [hb] at e2;exact .inr (by rw [Option.some.inj e2];exact Nat.le_refl _)
   ·simp only [if_neg e] at hb;exact .inl (.inr (.inr ⟨i,hi,hb⟩))
  rcases List.mem_append.1 hm with hm | hm
  ·simp only [List.mem_cons,List.not_mem_nil,or_false] at hm;exact .inl (hm.elim .inl fun e=>.inr (.inl e))
  ·have hcs:(#[vs 0,vs 1,vs 2,vs 3]:Array Value).setIfInBounds j v'=#[(fun i=>if i=j then v' else vs i) 0,(fun i=>if i=j then v' else vs i) 1,(fun i=>if i=j then v' else vs i) 2,(fun i=>if i=j then v' else vs i) 3]:=by
    match j,hj with
    | 0,_=>rfl
    | 1,_=>rfl
    | 2,_=>rfl
    | 3,_=>rfl
   dsimp only at hm;rw [hcs] at hm;unfold foundB at hm;simp only [List.mem_append,mem_rowB] at hm;rcases hm with ((hm | hm) | hm) | hm
   ·exact key 0 (by omega) hm
   ·exact key 1 (by omega) hm
   ·exact key 2 (by omega) hm
   ·exact key 3 (by omega) hm
theorem FoundIn.own {β:Type} {n0 b6 b9 b5 B:Nat} {w0:World} {o5:Array Value} {t5:TypeId} {f5:Nat×Nat} (S:β->WSt) (hB:w0.heap.size<=B) :
  OwnFrom B (fun pre W=>∃ vs us,Hid (FoundIn n0 b6 b9 (S pre) W vs us/\Ext w0 W/\W.heap[b5]?=some (.cells o5 t5 f5))):=by
 rintro pre W W' row ⟨vs,us,h,x,h5⟩ hg hr
 have key:∀ (b:Nat) (c:Array Value) (t:TypeId) (f:Nat×Nat),W.heap[b]?=some (Obj.cells c t f)->W'.heap[b]?=W.heap[b]?:=fun b c t f hc=>hg.block b (ltB hc) fun e=>by
  obtain ⟨_,o,ho,hn⟩:=hr b e.symm;rw [hc] at ho
  cases ho
  cases hn
 exact ⟨vs,us,h.kept fun b hb ⟨c,t,f,hc⟩=>key b c t f hc,x.grown hg x.size fun k e=>Nat.le_trans hB (hr k e).1,(key _ _ _ _ h5).trans h5⟩
theorem Rnd.keep {n0 b6 b9 nb b5:Nat} {s:WSt} {W W':World} {vs:Nat->Value} {us:List Value} {o5:Array Value} {t5:TypeId} {f5:Nat×Nat} (h:Rnd b6 b9 nb W W') (hF:FoundIn n0 b6 b9 s W vs us) (h5:W.heap[b5]?=some (.cells o5 t5 f5)) (hn:b5<n0) (h6:b5≠b6) (h9:b5≠b9):W'.heap[b5]?=some (.cells o5 t5 f5):=by
 refine h.kp.same b5 _ h5 (.inl rfl) fun hm=>?_;rcases (hF.mem_k b5).1 hm with e | e | ⟨j,hj,e⟩
 ·exact h6 e
 ·exact h9 e
 ·have:=(hF.below j hj b5 e).1;omega
def addT (s:WSt) (p:ByteArray):Nat->WSt
 | 1=>{ s with temps:=s.temps++[p] }
 | 2=>{ s with ign:=s.ign++[p] }
 | _=>{ s with bad:=s.bad++[p] }
theorem FoundIn.addText {n0 b6 b9:Nat} {s:WSt} {w w1:World} {vs:Nat->Value} {us:List Value} {v':Value} {j:Nat} (h:FoundIn n0 b6 b9 s w vs us) (h1:1<=j) (hj:j<4) (p:ByteArray)
  (hr:w1.ownsRow n0 9 1 v' ((rowOf s us j).2.2.1+1) ((rowOf s us j).2.2.2++[.string p])) (hg:w.grownBy w1 (vs j).ownBlock) (hw:v'.ownBlock=(vs j).ownBlock\/v'.ownBlock=some w.heap.size) :
  FoundIn n0 b6 b9 (addT s p j) (w1.setCell ⟨b6,j,none⟩ v') (fun i=>if i=j then v' else vs i) us:=by
 have hd:∀ (k:Nat) u,us[k]?=some u->∀ b,u.ownBlock=some b->b<w.heap.size/\∀ i,i<4->(vs i).ownBlock≠some b:=fun k u hu b hb=>by
  have hk:k<s.items.length:=by rw [<-h.len];exact (List.getElem?_eq_some_iff.1 hu).1
  exact ⟨((h.hs k _ u (List.getElem?_eq_getElem hk) hu).own b hb).2,h.hd k u hu b hb⟩
 have h3:j=1\/j=2\/j=3:=by omega
 rcases h3 with rfl | rfl | rfl
 ·exact h.add (s':=addT s p 1) (j:=1) (by omega) hr hg hw (by simp [rowOf,addT]) (fun i hi hne=>by rcases (by omega:i=0\/i=2\/i=3) with rfl | rfl | rfl <;> rfl) rfl h.len h.hs hd
 ·exact h.add (s':=addT s p 2) (j:=2) (by omega) hr hg hw (by simp [rowOf,addT]) (fun i hi hne=>by rcases (by omega:i=0\/i=1\/i=3) with rfl | rfl | rfl <;> rfl) rfl h.len h.hs hd
 ·exact h.add (s':=addT s p 3) (j:=3) (by omega) hr hg hw (by simp [rowOf,addT]) (fun i hi hne=>by rcases (by omega:i=0\/i=1\/i=2) with rfl | rfl | rfl <;> rfl) rfl h.len h.hs hd
theorem rowsU_snoc {l:Nodes} {us:List Value} (h:us.length=l.length) (x:ByteArray×Nd) (u:Value):rowsU (l++[x]) (us++[u])=rowsU l us++itemU x u:=by
 unfold rowsU;rw [List.zip_append h.symm];simp
theorem FoundIn.addItem {n0 b6 b9:Nat} {s:WSt} {w w1:World} {vs:Nat->Value} {us:List Value} {v' u:Value} (h:FoundIn n0 b6 b9 s w vs us) (x:ByteArray×Nd)
  (hr:w1.ownsRow n0 45 27 v' (s.items.length+1) (rowsU s.items us++itemU x u)) (hg:w.grownBy w1 (vs 0).ownBlock) (hw:v'.ownBlock=(vs 0).ownBlock\/v'.ownBlock=some w.heap.size)
  (hu:HashU w n0 [] x u) (hun:∀ b,u.ownBlock=some b->∀ i,i<4->(vs i).ownBlock≠some b) :
  FoundIn n0 b6 b9 { s with items:=s.items++[x] } (w1.setCell ⟨b6,0,none⟩ v') (fun i=>if i=0 then v' else vs i) (us++[u]):=by
 have snoc:∀ {α:Type} {l:List α} {k:Nat} {a y:α},(l++[a])[k]?=some y->l[k]?=some y\/(k=l.length/\y=a):=fun {α l k a y} hk=>by
  rcases Nat.lt_trichotomy k l.length with h | h | h
  ·rw [List.getElem?_append_left h] at hk;exact .inl hk
  ·subst h;simp at hk;exact .inr ⟨rfl,hk.symm⟩
  ·rw [List.getElem?_append_right (by omega)] at hk;rw [List.getElem?_eq_none (by simp;omega)] at hk
   cases hk
 refine h.add (s':={ s with items:=s.items++[x] }) (j:=0) (news:=itemU x u) (by omega) hr hg hw ?_ (fun i hi hne=>by rcases (by omega:i=1\/i=2\/i=3) with rfl | rfl | rfl <;> rfl) rfl (by simp [h.len]) (fun k y z hy hz=>?_) (fun k z hz b hb=>?_)
 ·simp [rowOf,rowsU_snoc h.len]
 ·rcases snoc hz with hz | ⟨hk,rfl⟩
  ·rcases snoc hy with hy | ⟨hk,rfl⟩
   ·exact h.hs k y z hy hz
   ·have:=(List.getElem?_eq_some_iff.1 hz).1;have:=h.len;omega
  ·rcases snoc hy with hy | ⟨_,rfl⟩
   ·have:=(List.getElem?_eq_some_iff.1 hy).1;have:=h.len;omega
   ·exact hu
 ·rcases snoc hz with hz | ⟨hk,rfl⟩
  ·have hk:k<s.items.length:=by rw [<-h.len];exact (List.getElem?_eq_some_iff.1 hz).1
   exact ⟨((h.hs k _ z (List.getElem?_eq_getElem hk) hz).own b hb).2,h.hd k z hz b hb⟩
  ·exact ⟨(hu.own b hb).2,hun b hb⟩
def WSt.total (s:WSt):Nat:=s.items.length+s.temps.length+s.ign.length+s.bad.length
theorem stepW_total (ig:ByteArray->Bool) (s:WSt) (x:ByteArray×Nd):(stepW ig s x).total<=s.total+1:=by
 unfold stepW WSt.total;split
 ·omega
 ·split
  ·simp;omega
  ·split
   ·simp;omega
   ·split
    ·simp;omega
    ·simp;omega
theorem walkS_total (ig:ByteArray->Bool) (pre:Nodes):(walkS ig pre).total<=pre.length:=by
 have key:∀ (l:Nodes) (s:WSt),(l.foldl (stepW ig) s).total<=s.total+l.length:=by
  intro l
  induction l with
  | nil=>intro s;simp
  | cons x r ih =>
   intro s;have h1:=ih (stepW ig s x);have h2:=stepW_total ig s x;rw [List.foldl_cons,List.length_cons];omega
 have:=key pre wst0;have h0:wst0.total=0:=rfl;unfold walkS;omega
theorem rowOf_le (s:WSt) (us:List Value) (j:Nat) (h:j<4):(rowOf s us j).2.2.1<=s.total:=by
 unfold WSt.total
 match j,h with
 | 0,_=>show s.items.length<=_;omega
 | 1,_=>show s.temps.length<=_;omega
 | 2,_=>show s.ign.length<=_;omega
 | 3,_=>show s.bad.length<=_;omega
theorem stepW_skip {ig:ByteArray->Bool} {s:WSt} {x:ByteArray×Nd} (h:(!s.over.toList.isEmpty&&withinB x.1 s.over)=true):stepW ig s x=s:=by
 unfold stepW;rw [h,if_pos rfl]
theorem stepW_temp {ig:ByteArray->Bool} {s:WSt} {x:ByteArray×Nd} (h:(!s.over.toList.isEmpty&&withinB x.1 s.over)=false) (h1:isTempB x.1=true):stepW ig s x=addT { s with over:=x.1 } x.1 1:=by
 unfold stepW;rw [h,if_neg (by simp),h1,if_pos rfl];rfl
theorem stepW_ign {ig:ByteArray->Bool} {s:WSt} {x:ByteArray×Nd} (h:(!s.over.toList.isEmpty&&withinB x.1 s.over)=false) (h1:isTempB x.1=false) (h2:ig x.1=true):stepW ig s x=addT { s with over:=x.1 } x.1 2:=by
 unfold stepW;rw [h,if_neg (by simp),h1,if_neg (by simp),h2,if_pos rfl];rfl
theorem stepW_bad {ig:ByteArray->Bool} {s:WSt} {x:ByteArray×Nd} (h:(!s.over.toList.isEmpty&&withinB x.1 s.over)=false) (h1:isTempB x.1=false) (h2:ig x.1=false) (h3:badN x.2=true):stepW ig s x=addT { s with over:=x.1 } x.1 3:=by
 unfold stepW;rw [h,if_neg (by simp),h1,if_neg (by simp),h2,if_neg (by simp),h3,if_pos rfl];rfl
theorem stepW_item {ig:ByteArray->Bool} {s:WSt} {x:ByteArray×Nd} (h:(!s.over.toList.isEmpty&&withinB x.1 s.over)=false) (h1:isTempB x.1=false) (h2:ig x.1=false) (h3:badN x.2=false):stepW ig s x={ ({ s with over:=x.1 }:WSt) with items:=s.items++[x],over:=⟨#[]⟩ }:=by
 unfold stepW;rw [h,if_neg (by simp),h1,if_neg (by simp),h2,if_neg (by simp),h3,if_neg (by simp)]
theorem walkS_over (ig:ByteArray->Bool) (pre:Nodes) (h:∀ z∈pre,z.1.size<=160):(walkS ig pre).over.size<=160:=by
 have key:∀ (l:Nodes) (s:WSt),(∀ z∈l,z.1.size<=160)->s.over.size<=160->(l.foldl (stepW ig) s).over.size<=160:=by
  intro l
  induction l with
  | nil=>intro s _ hs;exact hs
  | cons x r ih =>
   intro s hl hs;rw [List.foldl_cons];refine ih _ (fun z hz=>hl z (by simp [hz])) ?_;have hx:=hl x (by simp);unfold stepW;split
   ·exact hs
   ·split
    ·exact hx
    ·split
     ·exact hx
     ·split
      ·exact hx
      ·show (0:Nat)<=160;omega
 exact key pre wst0 h (by show (0:Nat)<=160;omega)
end
section
open Go.RowKit
theorem wpListIn_run {F:Fence} {m:Nat} {P:Program} {ops:Array Oper} {rest:List Oper} {o:Oper} {a:Act} {Q:Exit->Act->World->Prop} {w w':World} {v:Value} (hgd:o.guard=none) (hd:∀ c,o.op≠.defer c) (hc:∀ c,o.op≠.call c)
  (hr:(execOp a.eval o).run P w=.ok (.value v) w') (h:wpListIn F m P ops Q rest (a.put o.dst v) w'):wpListIn F m P ops Q (o::rest) a w:=by
 refine wpListIn_plain hgd fun K hK=>?_;unfold Oper.wpIn;refine ⟨fun f hf=>?_,?_⟩
 ·unfold Oper.about at hf;split at hf
  ·rename_i c e;exact absurd e (hc c)
  ·cases hf
 ·rw [Oper.semAt_plain F _ _ hd,hr];exact hK _ _ h
theorem wpListIn_runs {F:Fence} {m:Nat} {P:Program} {ops:Array Oper} {rest:List Oper} {o:Oper} {a:Act} {Q:Exit->Act->World->Prop} {w w':World} (hgd:o.guard=none) (hd:∀ c,o.op≠.defer c) (hc:∀ c,o.op≠.call c)
  (hr:(execOp a.eval o).run P w=.ok .skip w') (h:wpListIn F m P ops Q rest (a.put o.dst undef) w'):wpListIn F m P ops Q (o::rest) a w:=by
 refine wpListIn_plain hgd fun K hK=>?_;unfold Oper.wpIn;refine ⟨fun f hf=>?_,?_⟩
 ·unfold Oper.about at hf;split at hf
  ·rename_i c e;exact absurd e (hc c)
  ·cases hf
 ·rw [Oper.semAt_plain F _ _ hd,hr];exact hK _ _ h
theorem wpListIn_load_row {F:Fence} {m:Nat} {P:Program} {ops:Array Oper} {rest:List Oper} {o:Oper} {a:Act} {Q:Exit->Act->World->Prop} {w:World} (hgd:o.guard=none) (ty:TypeId) (x:Operand) (ho:o.op=.load ty x)
  (g:Nat) (hx:a.eval x=.pointer (some ⟨g,0,none⟩)) (t:TypeId) (cs:Array Value) (fr:Nat×Nat) (d:TypeDesc) (hg:w.heap[g]?=some (.cells cs t fr))
  (hu:P.underlying ty=some d) (hd:(match d with | .struct _ | .array _ _=>true | _=>false)=true) (hi:(P.info? ty).map (·.size)=some cs.size)
  (h:wpListIn F m P ops Q rest (a.put o.dst (.agg cs)) w):wpListIn F m P ops Q (o::rest) a w:=by
 refine wpListIn_run hgd (fun c e=>by rw [ho] at e;cases e) (fun c e=>by rw [ho] at e;cases e) ?_ h;unfold execOp;simp only [ho,hx,Instr.loadAt,Instr.sureAddr,Sem.run_bind,Sem.run_pure,Result.andThen_ok,run_loadVar_row w g t ty cs fr d hg hu hd hi]
theorem wpListIn_storeT {F:Fence} {m:Nat} {P:Program} {ops:Array Oper} {rest:List Oper} {o:Oper} {a:Act} {Q:Exit->Act->World->Prop} {w:World} (hgd:o.guard=none) (ty:TypeId) (x y:Operand) (ho:o.op=.store ty x y)
  (g:Nat) (cells:Array Value) (hx:a.eval x=.pointer (some ⟨g,0,none⟩)) (hy:a.eval y=.agg cells)
  (t:TypeId) (old:Array Value) (hg:w.heap[g]?=some (.cells old t (0,0))) (hi:(P.info? ty).map (·.size)=some cells.size)
  (hold:old.size=cells.size) (h1:cells.all (·.oneCell')=true)
  (h:∀ w1,w1.heap[g]?=some (.cells cells t (0,0))->Touch g w w1->wpListIn F m P ops Q rest (a.put o.dst undef) w1):wpListIn F m P ops Q (o::rest) a w:=by
 have h':=h _ (setRow_heap _ _ _ _ _ _ hg) ⟨rfl,rfl,rfl,by rw [setRow_size];exact Nat.le_refl _,fun i _ hne=>setRow_other _ _ _ _ fun e=>hne (by rw [e])⟩;refine wpListIn_runs hgd (fun c e=>by rw [ho] at e;cases e) (fun c e=>by rw [ho] at e;cases e) ?_ h';unfold execOp;simp only [ho,hx,hy,Instr.storeAt,Instr.sureAddr,Sem.run_bind,Sem.run_pure,Result.andThen_ok,run_storeVar_row w g t ty old cells hg hi hold h1]
theorem wpListIn_store1 {F:Fence} {m:Nat} {P:Program} {ops:Array Oper} {rest:List Oper} {o:Oper} {a:Act} {Q:Exit->Act->World->Prop} {w:World} (hgd:o.guard=none) (ty:TypeId) (x y:Operand) (ho:o.op=.store ty x y)
  (g k:Nat) (v:Value) (hx:a.eval x=.pointer (some ⟨g,k,none⟩)) (hy:a.eval y=v) (hi:(P.info? ty).map (·.size)=some 1) (h1:v.oneCell'=true)
  (cs:Array Value) (t:TypeId) (hg:w.heap[g]?=some (.cells cs t (0,0))) (hk:k<cs.size)
  (h:∀ w1,w1=w.setCell ⟨g,k,none⟩ v->wpListIn F m P ops Q rest (a.put o.dst undef) w1):wpListIn F m P ops Q (o::rest) a w:=by
 refine wpListIn_runs hgd (fun c e=>by rw [ho] at e;cases e) (fun c e=>by rw [ho] at e;cases e) ?_ (h _ rfl)
 cases hq:P.info? ty with
 | none=>simp [hq] at hi
 | some i =>
  have hs:i.size=1:=by simpa [hq] using hi
  have hc:w.cell? ⟨g,k,none⟩=some cs[k]:=(cellB hg).trans (Array.getElem?_eq_getElem hk);unfold execOp;simp only [ho,hx,hy,Instr.storeAt,Instr.sureAddr,Sem.run_bind,Sem.run_pure,Result.andThen_ok,Lib.rl_storeVar_one ty i hq hs ⟨g,k,none⟩ v cs[k] h1 w hc (frozenB hg)]
end
end Go.Proofs.YtodickpibbbiiaaGreatDoor
