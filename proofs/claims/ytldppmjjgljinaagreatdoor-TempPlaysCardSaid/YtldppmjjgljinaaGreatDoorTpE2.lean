import Derived.Test.YtldppmjjgljinaaGreatDoorTpE1
import Derived.Test.YtldppmjjgljinaaGreatDoorTpA2
import Derived.Test.YtldppmjjgljinaaGreatDoorTpB2
import Derived.Test.YtldppmjjgljinaaGreatDoorTpC3
import Derived.Test.YtldppmjjgljinaaGreatDoorTpD3
import Derived.KernelRfl
open Go.Proofs.Tryz
namespace Go.Proofs.YtldppmjjgljinaaGreatDoor
section
open Go.RowKit
set_option maxRecDepth 100000 in
set_option maxHeartbeats 2000000 in
theorem open_path (root:ByteArray) (r:RecS) (C:Array Value) (bl f:Value) (dv:Addr) (w:World) (hC:RecC C r bl) (E:Env w) (T:ShaTabs w) (hs:r.path.size<4294967281) (hr:root.size<=2147483648) (hp:placeB root r.path=false) :
  Calls prog 15 #[.pointer (some dv),.string root,.agg C,f] w fun e w'=>e=.returned (.tuple #[.pointer none,.int .i64 10])/\Ext w w':=by
 have HX:=lh ((Ext.refl w).alloc (.cells C 31));have HPl:=lh (place_any root r.path _ hs hr (E.ext HX.out) (T.ext HX.out));rw [hp] at HPl;have k0:=(cellB (k:=0) (block_alloc_new w (.cells C 31 (0,0)))).trans hC.c0;generalize placeS root r.path=name at *;clear hC E T hs hr hp;go_enter func15,ntmps15;go_wp2_with fail;refine HPl.out.mono ?_;rintro e w1 ⟨rfl,x1⟩;have HX1:=lh (HX.out.trans x1);clear x1 HPl k0;go_wp2_with fail;go_ret2;exact ⟨rfl,HX1.out⟩
set_option maxRecDepth 100000 in
set_option maxHeartbeats 4000000 in
theorem open_err (root:ByteArray) (r:RecS) (C:Array Value) (bl f:Value) (w:World) (hC:RecC C r bl) (hb:∃ a cap,bl=.slice a r.hs.length cap) (hlo:-9223372036854775808<=r.size) (hhi:r.size<=9223372036854775807) (E:Env w) (T:ShaTabs w) (hs:r.path.size<4294967281) (hr:root.size<=2147483648) (hp:placeB root r.path=true) (hw:r.wanted≠0)
  (d:Nat) (M I:List Nat) (K:Dk) (hd:DkAt w d M I K) (hdt:(readE K.live (placeS root r.path)).1.data.size<=1048576) :
  Calls prog 15 #[.pointer (some ⟨d,0,none⟩),.string root,.agg C,f] w fun e w'=>e=.returned (.tuple #[.pointer none,.int .i64 r.wanted])/\Ext w w':=by
 have HX:=lh ((Ext.refl w).alloc (.cells C 31));have HPl:=lh (place_any root r.path _ hs hr (E.ext HX.out) (T.ext HX.out));rw [hp] at HPl
 have hnz:(placeS root r.path).size<4294967281:=by
  have:=tempR_le r.path;unfold placeS;simp only [ByteArray.size_append,size_mk];simp;omega
 have HRd:=fun w' (x:Ext w w')=>lh (Read_any (hd.ext x) (E.ext x) (placeS root r.path) hnz);unfold nv at HRd;have HPn:=fun w' v=>lh (cplan_err r C bl f v w' hC hb hlo hhi hw);have hB:=block_alloc_new w (.cells C 31 (0,0));have HB:=lh hB;have k0:=(cellB (k:=0) hB).trans hC.c0;have HCz:=lh (show (prog.info? 31).map (·.size)=some C.size from by rw [hC.n];kernel_rfl);have W0:=lh (show (r.wanted != 0)=true from by rw [bne_iff_ne];exact hw);generalize placeS root r.path=name at *;generalize (readE K.live name).1=nd at *;generalize (readE K.live name).2=z at *;generalize r.wanted=wt at *;obtain ⟨nk,ndt,nt,ntm⟩:=nd;have HDt:=lh hdt;clear hC E T hs hr hp hnz hB hd hb hlo hhi hw hdt;go_enter func15,ntmps15;go_wp2_with fail;refine HPl.out.mono ?_;rintro e w1 ⟨rfl,x1⟩;have HX1:=lh (HX.out.trans x1);have HB1:=lh ((x1.block (ltB HB.out)).trans HB.out);clear x1 HPl k0;go_wp2_with fail;refine (HRd _ HX1.out).out.mono ?_;rintro e w2 ⟨rfl,x2⟩;have HX2:=lh ((HX1.out.trans x2).alloc (.cells #[.int .i64 nk,.string ndt,.string nt,.int .i64 ntm] 57));have HB2:=lh (((x2.alloc (.cells #[.int .i64 nk,.string ndt,.string nt,.int .i64 ntm] 57)).block (ltB HB1.out)).trans HB1.out);obtain ⟨cv,wc,hcv,hbo,xc⟩:=conv_bytes ndt (w2.alloc (.cells #[.int .i64 nk,.string ndt,.string nt,.int .i64 ntm] 57)) HDt.out;have HXc:=lh (HX2.out.trans xc);have HPc:=HPn wc cv;clear x2 HRd HPn hbo xc;go_wp2_with (refine wpList_load_row rfl 31 (.tmp 6) rfl w.heap.size rfl 31 C (0,0) _ HB2.out underlying31 rfl HCz.out ?_;go_frame);refine HPc.out.mono ?_;rintro e w4 ⟨rfl,x4⟩;have HX4:=lh (HXc.out.trans x4);have w0:=W0.out;clear x4 HPc hcv;go_wp2_with fail;go_ret2;exact ⟨rfl,HX4.out⟩
end
section
open Go.RowKit
theorem cells27 {C:Array Value} (h:C.size=27):∃ a0 a1 a2 a3 a4 a5 a6 a7 a8 a9 a10 a11 a12 a13 a14 a15 a16 a17 a18 a19 a20 a21 a22 a23 a24 a25 a26,C=#[a0,a1,a2,a3,a4,a5,a6,a7,a8,a9,a10,a11,a12,a13,a14,a15,a16,a17,a18,a19,a20,a21,a22,a23,a24,a25,a26]:=by
 obtain ⟨l⟩:=C
 replace h:l.length=27:=h
 iterate 27
  rcases l with _ | ⟨_,l⟩
  ·simp at h
 rcases l with _ | ⟨_,l⟩
 ·exact ⟨_,_,_,_,_,_,_,_,_,_,_,_,_,_,_,_,_,_,_,_,_,_,_,_,_,_,_,rfl⟩
 ·simp at h
set_option maxRecDepth 100000 in
theorem built_wanted {C:Array Value} (h:C.size=27):prog.built 115 [(0,.agg C)]=some C:=by
 obtain ⟨a0,a1,a2,a3,a4,a5,a6,a7,a8,a9,a10,a11,a12,a13,a14,a15,a16,a17,a18,a19,a20,a21,a22,a23,a24,a25,a26,rfl⟩:=cells27 h
 kernel_rfl
set_option maxRecDepth 100000 in
theorem built_draft {C:Array Value} (h:C.size=27) (nm:ByteArray) (a:Option Addr) (n c:Nat):prog.built 118 [(0,.agg C),(1,.string nm),(2,.slice a n c)]=some (C++#[.string nm,.slice a n c]):=by
 obtain ⟨a0,a1,a2,a3,a4,a5,a6,a7,a8,a9,a10,a11,a12,a13,a14,a15,a16,a17,a18,a19,a20,a21,a22,a23,a24,a25,a26,rfl⟩:=cells27 h
 kernel_rfl
theorem RecC.turned {C:Array Value} {r:RecS} {bl u:Value} (h:RecC C r bl):RecC (C.setIfInBounds 23 u) r u where
 n:=by rw [Array.size_setIfInBounds];exact h.n
 c0:=by rw [Array.getElem?_setIfInBounds_ne (by decide)];exact h.c0
 c1:=by rw [Array.getElem?_setIfInBounds_ne (by decide)];exact h.c1
 c2:=by rw [Array.getElem?_setIfInBounds_ne (by decide)];exact h.c2
 c3:=by rw [Array.getElem?_setIfInBounds_ne (by decide)];exact h.c3
 c4:=by rw [Array.getElem?_setIfInBounds_ne (by decide)];exact h.c4
 c22:=by rw [Array.getElem?_setIfInBounds_ne (by decide)];exact h.c22
 c23:=by rw [Array.getElem?_setIfInBounds_self_of_lt (by rw [h.n];decide)]
theorem DrIn.new {w:World} {p g:Nat} {C:Array Value} {u:Value} {I:List Nat} {r:RecS} {N:Nat} {name:ByteArray} (G:r.Good N) (hC:RecC C r u) (hp:w.heap[p]?=some (.cells (C++#[.string name,.slice (some ⟨g,0,none⟩) (countN N) (countN N)]) 118 (0,0)))
  (hg:w.heap[g]?=some (.cells (Array.replicate (countN N) (.slice none 0 0)) 22 (0,0))) (hh:HashesAt w u r.hs) (hI:∀ b o n c,u=.slice (some ⟨b,o,none⟩) n c->b∈I) (him:∀ b∈I,b≠g/\b<w.heap.size) (hs:p∈I) :
  DrIn w p g (C++#[.string name,.slice (some ⟨g,0,none⟩) (countN N) (countN N)]) (Array.replicate (countN N) (.slice none 0 0)) u I r N name (List.replicate (countN N) none) where
 good:=G
 blk:=hp
 n:=by rw [Array.size_append,hC.n];rfl
 rc:=by
  rw [Array.extract_append,hC.n];simp only [Nat.sub_self,Nat.zero_sub,Array.extract_zero,Array.append_empty];rw [show C.extract 0 27=C from by rw [<-hC.n];exact Array.extract_size];exact hC
 c27:=by rw [Array.getElem?_append_right (by rw [hC.n];decide),hC.n];rfl
 c28:=by rw [Array.getElem?_append_right (by rw [hC.n];decide),hC.n,List.length_replicate];rfl
 hs:=hh
 hsI:=hI
 len:=List.length_replicate ..
 row:=hg
 size:=by simp
 parts:=fun k x hx=>by
  rw [List.getElem?_replicate] at hx;split at hx
  ·rename_i hk
   cases hx
   exact ⟨.slice none 0 0,by rw [Array.getElem?_replicate,if_pos hk],rfl⟩
  ·cases hx
 imm:=him
 self:=hs
end
section
def openTo (N:Nat) (hs:List (List UInt8)) (t:List UInt8):Nat->List (Option (List UInt8))
 | 0=>List.replicate (countN N) none
 | k+1=>if rightB N hs k (placedL N t k)=true then fillP N hs k (placedL N t k) (openTo N hs t k) else openTo N hs t k
theorem fillP_len (N:Nat) (hs:List (List UInt8)) (i:Nat) (l:List UInt8) (ps:List (Option (List UInt8))):(fillP N hs i l ps).length=ps.length:=by simp [fillP]
theorem openTo_len (N:Nat) (hs:List (List UInt8)) (t:List UInt8):∀ k,(openTo N hs t k).length=countN N
 | 0=>by simp [openTo]
 | k+1=>by
  unfold openTo;split
  ·rw [fillP_len,openTo_len N hs t k]
  ·exact openTo_len N hs t k
theorem haveB_fill (N:Nat) (hs:List (List UInt8)) (i:Nat) (l:List UInt8) (ps:List (Option (List UInt8))) {k:Nat} (hk:k<ps.length):haveB (fillP N hs i l ps) k=(haveB ps k||sameL N hs l i k):=by
 unfold haveB fillP;rw [List.getElem?_mapIdx,List.getElem?_eq_getElem hk];simp only [Option.map_some]
 cases h:sameL N hs l i k
 ·simp
 ·simp
theorem sameL_same {N:Nat} {hs:List (List UInt8)} {l:List UInt8} {i k:Nat} (h:l.length=lenN N i):sameL N hs l i k=sameB N hs k i:=by
 unfold sameL sameB;rw [h]
theorem sameB_iff {N:Nat} {hs:List (List UInt8)} {i k:Nat}:sameB N hs i k=true↔hs[i]?=hs[k]?/\lenN N i=lenN N k:=by simp [sameB]
theorem sameB_symm {N:Nat} {hs:List (List UInt8)} {i k:Nat} (h:sameB N hs i k=true):sameB N hs k i=true:=by
 rw [sameB_iff] at h ⊢;exact ⟨h.1.symm,h.2.symm⟩
theorem sameB_trans {N:Nat} {hs:List (List UInt8)} {i j k:Nat} (h:sameB N hs i j=true) (h2:sameB N hs j k=true):sameB N hs i k=true:=by
 rw [sameB_iff] at h h2 ⊢;exact ⟨h.1.trans h2.1,h.2.trans h2.2⟩
def ShutP (N:Nat) (hs:List (List UInt8)) (ps:List (Option (List UInt8))):Prop:=∀ i k,i<countN N->k<countN N->sameB N hs i k=true->haveB ps i=true->haveB ps k=true
theorem ShutP.fill {N:Nat} {hs:List (List UInt8)} {ps:List (Option (List UInt8))} (h:ShutP N hs ps) (hl:ps.length=countN N) {j:Nat} {l:List UInt8} (hr:l.length=lenN N j):ShutP N hs (fillP N hs j l ps):=fun i k hi hk hs2 hh=>by
 rw [haveB_fill _ _ _ _ _ (by omega),sameL_same hr,Bool.or_eq_true] at hh ⊢;rcases hh with hh | hh
 ·exact .inl (h i k hi hk hs2 hh)
 ·exact .inr (sameB_trans (sameB_symm hs2) hh)
theorem haveB_none (n k:Nat):haveB (List.replicate n none) k=false:=by
 unfold haveB;rw [List.getElem?_replicate];split <;> simp_all
theorem PsOk.none (N:Nat) (hs:List (List UInt8)) (n:Nat):PsOk N hs (List.replicate n none):=fun k l h=>by
 rw [List.getElem?_replicate] at h;split at h <;> cases h
theorem openTo_spec (N:Nat) (hs:List (List UInt8)) (t:List UInt8):∀ n,n<=countN N->PsOk N hs (openTo N hs t n)/\ShutP N hs (openTo N hs t n)/\∀ k,k<countN N->haveB (openTo N hs t n) k=(List.range n).any fun i=>rightB N hs i (placedL N t i)&&sameB N hs k i
 | 0,_=>by
  refine ⟨PsOk.none _ _ _,fun i k hi _ _ h=>?_,fun k _=>?_⟩
  ·simp [openTo,haveB_none] at h
  ·simp [openTo,haveB_none]
 | n+1,hn=>by
  obtain ⟨h1,h2,h3⟩:=openTo_spec N hs t n (by omega);unfold openTo;have hlen:=openTo_len N hs t n
  cases hr:rightB N hs n (placedL N t n)
  ·rw [if_neg (by simp)];refine ⟨h1,h2,fun k hk=>?_⟩;rw [h3 k hk,List.range_succ];simp [hr]
  ·rw [if_pos rfl];have hl:=right_len hr;refine ⟨h1.fill hr,h2.fill hlen hl,fun k hk=>?_⟩;rw [haveB_fill _ _ _ _ _ (by omega),sameL_same hl,h3 k hk,List.range_succ];simp [hr]
theorem hashesL_len (l:List UInt8):(hashesL l).length=countN l.length:=by simp [hashesL]
theorem openTo_none (N:Nat) (hs:List (List UInt8)):∀ n,n<=countN N->openTo N hs [] n=List.replicate (countN N) none
 | 0,_=>rfl
 | n+1,h=>by
  unfold openTo;have hp:placedL N [] n=[]:=by unfold placedL;simp
  rw [hp,if_neg,openTo_none N hs n (by omega)];intro hr;have:=right_len hr;have:=lenN_pos (N:=N) (i:=n) (by omega);simp at *;omega
end
section
open Go.RowKit
theorem mkParts (w:World) (n:Nat) (hn:n<=1048576):(Instr.makeSlice 116 (.int .i64 n) (.int .i64 n)).run prog w=.ok (.slice (some ⟨w.heap.size,0,none⟩) n n) (w.alloc (.cells (Array.replicate n (.slice none 0 0)) 22)):=by
 obtain ⟨i,hi,hz0,hz1,hz2⟩:=info_parts (show (prog.info? 22).map (fun i=>(i.zero,i.size,i.bytes))=some (some (.slice none 0 0),1,24) from by kernel_rfl);have h:=run_make w 116 22 i (.slice none 0 0) underlying116 hi hz0 .i64 .i64 (n:Int) (n:Int) (by omega) (Int.le_refl _) (by rw [hz2];omega) (by omega);rw [hz1,Int.toNat_natCast,Nat.mul_one] at h
 have e:madeCells (Value.slice none 0 0).cells n=Array.replicate n (.slice none 0 0):=by
  apply Array.ext
  ·simp [madeCells]
  ·intro j h1 h2;simp [madeCells,Value.cells,Nat.mod_one]
 rw [e] at h;exact h
theorem conv_part (s:ByteArray) (w:World) (hs:s.size<=1048576) (h0:0<s.size):∃ cap w',(convert 9 22 (.string s)).run prog w=.ok (.slice (some ⟨w.heap.size,0,none⟩) s.toList.length cap) w'/\Ext w w'/\w.heap.size<w'.heap.size/\PartAt w' [w.heap.size] (.slice (some ⟨w.heap.size,0,none⟩) s.toList.length cap) (some s.toList):=by
 have h:=Lib.run_convert_string_bytes (P:=prog) w 9 22 5 s underlying9 underlying22 (by kernel_rfl);rw [<-len_toList] at h;refine ⟨_,_,h,⟨rfl,rfl,rfl,by rw [Lib.bytesWorld_size];omega,fun i hi=>Lib.bytesWorld_at_old _ _ _ _ hi⟩,by rw [Lib.bytesWorld_size];omega,w.heap.size,0,_,rfl,by rw [len_toList];exact h0,by rw [len_toList];exact grownCap_ge _ _ _ _,grownCap_le_maxLen _ _ _ _ (by rw [len_toList];unfold maxLen;omega),by simp,fun j u hj=>?_⟩;rw [List.getElem?_map] at hj;obtain ⟨x,hx,rfl⟩:=Option.map_eq_some_iff.1 hj;have hj':j<s.size:=by rw [<-len_toList];exact (List.getElem?_eq_some_iff.1 hx).1
 rw [Nat.zero_add,Lib.bytesWorld_cell _ _ _ _ hj',<-Lib.toList_data,List.getD_eq_getElem?_getD,hx];rfl
theorem placed_some {N k:Nat} {hs:List (List UInt8)} {t:List UInt8} (h:rightB N hs k (placedL N t k)=true) (hk:k<countN N):k*sizeN N+lenN N k<=t.length/\placedL N t k=(t.drop (k*sizeN N)).take (lenN N k):=by
 have h1:=right_len h;have h2:=lenN_pos hk;unfold placedL at h1 ⊢;split
 ·exact ⟨‹_›,rfl⟩
 ·rename_i h3;rw [if_neg h3] at h1;simp at h1;omega
theorem stepL_len (N:Nat) (hs:List (List UInt8)) (t:List UInt8) (k:Nat):(stepL N hs t k).length=5:=rfl
theorem stepsL_get {N c k j:Nat} {hs:List (List UInt8)} {t:List UInt8} {u:Value} (hk:k<c) (hj:(stepL N hs t k)[j]?=some u):(stepsL N hs t c)[k*5+j]?=some u:=by
 have hj5:j<5:=(List.getElem?_eq_some_iff.1 hj).1
 have hlen:∀ n,(stepsL N hs t n).length=n*5:=fun n=>by
  induction n with
  | zero=>rfl
  | succ n ih =>
   rw [show stepsL N hs t (n+1)=stepsL N hs t n++stepL N hs t n from by simp [stepsL,List.range_succ],List.length_append,ih,stepL_len];omega
 induction c with
 | zero=>omega
 | succ c ih =>
  rw [show stepsL N hs t (c+1)=stepsL N hs t c++stepL N hs t c from by simp [stepsL,List.range_succ]];by_cases h:k=c
  ·subst h;rw [List.getElem?_append_right (by rw [hlen];omega),hlen,Nat.add_sub_cancel_left];exact hj
  ·rw [List.getElem?_append_left (by rw [hlen];omega)];exact ih (by omega)
set_option maxRecDepth 100000 in
set_option maxHeartbeats 4000000 in
theorem open_ok (root:ByteArray) (r:RecS) (C:Array Value) (bl:Value) (N:Nat) (w:World) (hC:RecC C r bl) (G:r.Good N) (hb:HashesAt w bl r.hs) (hsh:∃ a n c,bl=.slice a n c/\(a=none\/∃ g o,a=some ⟨g,o,none⟩)) (E:Env w) (T:ShaTabs w) (hs:r.path.size<4294967281) (hr:root.size<=2147483648) (hp:placeB root r.path=true)
  (d:Nat) (M I:List Nat) (K:Dk) (hd:DkAt w d M I K) (hdt:(readE K.live (placeS root r.path)).1.data.size<=1048576) :
  Calls prog 15 #[.pointer (some ⟨d,0,none⟩),.string root,.agg C,.pointer none] w fun e w'=>∃ p g D cs u J,e=.returned (.tuple #[.pointer (some ⟨p,0,none⟩),.int .i64 0])/\Hid (Ext w w'/\DrIn w' p g D cs u J r N (placeS root r.path) (openTo N r.hs (readE K.live (placeS root r.path)).1.data.toList (countN N))/\w.heap.size<=g/\∀ b∈J,w.heap.size<=b):=by
 have HX:=lh ((Ext.refl w).alloc (.cells C 31));have HPl:=lh (place_any root r.path _ hs hr (E.ext HX.out) (T.ext HX.out));rw [hp] at HPl
 have hnz:(placeS root r.path).size<4294967281:=by
  have:=tempR_le r.path;unfold placeS;simp only [ByteArray.size_append,size_mk];simp;omega
 have HRd:=fun w' (x:Ext w w')=>lh (Read_any (hd.ext x) (E.ext x) (placeS root r.path) hnz);unfold nv at HRd;have HPn:=fun w' v t (x:Ext w w') (hv:BytesOff w'.heap.size w' v t)=>lh (cplan_ok r C bl N t v w' (T.ext x) hC (hb.ext x) G hv);have hc32:=count_le G.small;have hcn:=G.count;have HCl:=fun w' (x:Ext w w')=>lh (cloneHashes_any r.hs bl w' (hb.ext x) (by omega) hsh);have hB:=block_alloc_new w (.cells C 31 (0,0));have HB:=lh hB;have k0:=(cellB (k:=0) hB).trans hC.c0;have HCz:=lh (show (prog.info? 31).map (·.size)=some C.size from by rw [hC.n];kernel_rfl);have HC:=lh hC;have HG:=lh G;have HC23:=lh hC.c23;obtain ⟨ba,bn,bc,rfl,_⟩:=hsh;generalize placeS root r.path=name at *;generalize (readE K.live name).1=nd at *;generalize (readE K.live name).2=z at *;obtain ⟨nk,ndt,nt,ntm⟩:=nd;have HDt:=lh hdt;obtain ⟨c,hcc⟩:∃ c,c=countN N:=⟨_,rfl⟩;have HCc:=lh hcc;rw [<-hcc] at HPn hc32 hcn;clear hC E T hs hr hp hnz hB hd hb hdt hcc G;go_enter func15,ntmps15;go_wp2_with fail;refine HPl.out.mono ?_;rintro e w1 ⟨rfl,x1⟩;have HX1:=lh (HX.out.trans x1);have HB1:=lh ((x1.block (ltB HB.out)).trans HB.out);clear x1 HPl k0;go_wp2_with fail;refine (HRd _ HX1.out).out.mono ?_;rintro e w2 ⟨rfl,x2⟩;have HX2:=lh ((HX1.out.trans x2).alloc (.cells #[.int .i64 nk,.string ndt,.string nt,.int .i64 ntm] 57));have HB2:=lh (((x2.alloc (.cells #[.int .i64 nk,.string ndt,.string nt,.int .i64 ntm] 57)).block (ltB HB1.out)).trans HB1.out);have HW2:=lh (show w.heap.size<w2.heap.size from ltB ((x2.block (ltB HB1.out)).trans HB1.out));have HNd:=lh (block_alloc_new w2 (.cells #[.int .i64 nk,.string ndt,.string nt,.int .i64 ntm] 57 (0,0)));obtain ⟨cv,wc,hcv,hbo,xc⟩:=conv_bytes ndt (w2.alloc (.cells #[.int .i64 nk,.string ndt,.string nt,.int .i64 ntm] 57)) HDt.out;have HXc:=lh (HX2.out.trans xc);have HBc:=lh ((xc.block (ltB HB2.out)).trans HB2.out);have HNc:=lh ((xc.block (ltB HNd.out)).trans HNd.out);have HPc:=HPn wc cv _ HXc.out hbo;clear x2 HRd HPn hbo xc;go_wp2_with (refine wpList_load_row rfl 31 (.tmp 6) rfl w.heap.size rfl 31 C (0,0) _ HB2.out underlying31 rfl HCz.out ?_;go_frame);refine HPc.out.mono ?_;rintro e w4 ⟨sv,rfl,h4⟩;have H4:=h4;obtain ⟨sa,scap,rfl⟩:=rowk_shape h4.out.1;have HX4:=lh (HXc.out.trans h4.out.2);have HB4:=lh ((h4.out.2.block (ltB HBc.out)).trans HBc.out);have HN4:=lh ((h4.out.2.block (ltB HNc.out)).trans HNc.out);have k23:=(cellB (k:=23) HB4.out).trans HC23.out;have HC4:=HCl _ HX4.out;clear h4 HPc hcv HCl;go_wp2_with fail;refine HC4.out.mono ?_;rintro e w5 ⟨u,rfl,h5⟩;have H5:=h5;have HX5:=lh (HX4.out.trans h5.out.1);have hb5:=(h5.out.1.block (ltB HB4.out)).trans HB4.out;have HB5:=lh hb5;have k23':=(cellB (k:=23) hb5).trans HC23.out;have f23':=frozenB (k:=23) hb5
 obtain ⟨ua,un,uc,hu⟩:∃ a n c,u=.slice a n c:=by
  rcases h5.out.2.2.2 with h | ⟨_,_,h⟩
  ·exact ⟨_,_,_,h⟩
  ·exact ⟨_,_,_,h⟩
 subst hu;clear h5 HC4 k23 hb5;go_wp2_with fail;obtain ⟨W6,hW6⟩:∃ W6,W6=w5.setCell ⟨w.heap.size,23,none⟩ (.slice ua un uc):=⟨_,rfl⟩;have HX6:=lh (show Ext w W6 from hW6▸HX5.out.setCell (Nat.le_refl _) _);have HB6:=lh (show W6.heap[w.heap.size]?=some (.cells (C.setIfInBounds 23 (.slice ua un uc)) 31 (0,0)) from hW6▸setCellB HB5.out);have HC2:=lh (HC.out.turned (u:=.slice ua un uc));have HO6:=lh (show ∀ b,b≠w.heap.size->W6.heap[b]?=w5.heap[b]? from fun b hb=>hW6▸setCellO hb);have HS6:=lh (show w5.heap.size<=W6.heap.size from by rw [hW6];simp);rw [<-hW6];have hmk:=mkParts W6.drew c (by omega);clear hW6 k23' f23'
 have HQ6:=lh (show ∀ w',(∃ y:After W6,w'=y.v)->w'.heap[w.heap.size]?=some (.cells (C.setIfInBounds 23 (.slice ua un uc)) 31 (0,0)) from by
  rintro _ ⟨y,rfl⟩
  exact (y.x.block (ltB HB6.out)).trans HB6.out)
 have HC2z:=lh (show (prog.info? 31).map (·.size)=some (C.setIfInBounds 23 (.slice ua un uc)).size from by rw [HC2.out.n];kernel_rfl);generalize C.setIfInBounds 23 (.slice ua un uc)=C2 at *
 obtain ⟨Bs,hBs1,hBs2⟩:∃ Bs:List Nat,(∀ b∈Bs,w.heap.size<=b/\b<w5.heap.size)/\∀ b o n c,(.slice ua un uc:Value)=.slice (some ⟨b,o,none⟩) n c->b∈Bs:=by
  have h:=H5.out.2.2.1;have hx:=HX4.out.size
  match ua,h with
  | none,_=>exact ⟨[],fun b hb=>(by cases hb),fun b o n c e=>(by cases e)⟩
  | some ⟨b,o,s⟩,h =>
   refine ⟨[b],fun b' hb=>?_,fun b' o' n c e=>by cases e;simp⟩;obtain rfl:=List.mem_singleton.1 hb;rcases H5.out.2.2.2 with e | ⟨g',c',e⟩
   ·cases e
   ·cases e
    have:=h b' 0 _ _ rfl;exact ⟨by omega,this.2⟩
 have HBs:=lh (And.intro hBs1 hBs2);clear hBs1 hBs2;have hW6s:w5.heap.size<=W6.heap.size:=HS6.out;obtain ⟨g,hg⟩:∃ g,g=W6.heap.size:=⟨_,rfl⟩;have HGq:=lh hg;refine wp_region_held (S:=fun w'=>w'.heap[w.heap.size]?=some (.cells C2 31 (0,0))) (by kernel_rfl) ?_;change wpAnyH _ _ _ _ _ _ _ _ (World.drew _);have s0:=HQ6.out _ ⟨⟨W6.drew,(Ext.refl W6).drew⟩,rfl⟩;refine wpAnyH_takeL (i:=0) (v:=.agg C2) rfl (by kernel_rfl) (by kernel_rfl) (by kernel_rfl) (fun _ _ _ h=>h) (yieldsIf_load_row rfl 31 (.tmp 6) rfl w.heap.size rfl 31 C2 (0,0) _ (fun _ h=>h) underlying31 rfl HC2z.out) s0 ?_;go_frame;refine wpAnyH_takeL (i:=1) (v:=.agg C2) rfl (by kernel_rfl) (by kernel_rfl) (by kernel_rfl) (fun _ _ _ h=>h) (yieldsIf_build rfl _ _ rfl C2 (built_wanted HC2.out.n)) s0 ?_;go_frame;refine wpAnyH_takeL (i:=2) (v:=.string name) rfl (by kernel_rfl) (by kernel_rfl) (by kernel_rfl) (fun _ _ _ h=>h) (yieldsIf_move rfl _ rfl rfl) s0 ?_;go_frame;refine wpAnyH_takeL (i:=3) (v:=.slice sa c scap) rfl (by kernel_rfl) (by kernel_rfl) (by kernel_rfl) (fun _ _ _ h=>h) (yieldsIf_move rfl _ rfl rfl) s0 ?_;go_frame;refine wpAnyH_takeL (i:=4) (v:=.int .i64 c) rfl (by kernel_rfl) (by kernel_rfl) (by kernel_rfl) (fun _ _ _ h=>h) (Or.inl ⟨rfl,fun w' _=>by go_simp⟩) s0 ?_;go_frame;have s1:(W6.drew.alloc (.cells (Array.replicate c (.slice none 0 0)) 22)).heap[w.heap.size]?=some (.cells C2 31 (0,0)):=(block_alloc_old (ltB s0)).trans s0;refine wpAnyH_one (i:=5) (by kernel_rfl) rfl rfl (run_makeOp _ _ _ rfl _ _ _ hmk) s1 ?_;go_frame;refine wpAnyH_takeL (i:=6) (v:=.agg (C2++#[.string name,.slice (some ⟨W6.drew.heap.size,0,none⟩) c c])) rfl (by kernel_rfl) (by kernel_rfl) (by kernel_rfl) (fun _ _ _ h=>h) (yieldsIf_build rfl _ _ rfl _ (built_draft HC2.out.n _ _ _ _)) s1 ?_;go_frame;have s2:((W6.drew.alloc (.cells (Array.replicate c (.slice none 0 0)) 22)).alloc (.cells (C2++#[.string name,.slice (some ⟨W6.drew.heap.size,0,none⟩) c c]) 118)).heap[w.heap.size]?=some (.cells C2 31 (0,0)):=(block_alloc_old (ltB s1)).trans s1;refine wpAnyH_one (i:=7) (by kernel_rfl) rfl rfl (run_boxOp _ _ rfl _ (C2++#[.string name,.slice (some ⟨W6.drew.heap.size,0,none⟩) c c]) rfl) s2 ?_;go_frame;refine wpAnyH_takeL (i:=8) (v:=.pointer (some ⟨W6.heap.size+1,0,none⟩)) rfl (by kernel_rfl) (by kernel_rfl) (by kernel_rfl) (fun _ _ _ h=>h) (yieldsIf_assign rfl _ rfl (by rw [show W6.heap.size+1=(W6.drew.alloc (.cells (Array.replicate c (.slice none 0 0)) 22)).heap.size from (size_alloc _ _).symm];rfl)) s2 ?_;go_frame;refine wpAnyH_done (by kernel_rfl) ?_ _;obtain ⟨W8,hW8⟩:∃ W8,W8=(W6.drew.alloc (.cells (Array.replicate c (.slice none 0 0)) 22)).alloc (.cells (C2++#[.string name,.slice (some ⟨W6.drew.heap.size,0,none⟩) c c]) 118):=⟨_,rfl⟩;have hds:W6.drew.heap.size=W6.heap.size:=rfl;rw [hds] at hW8 s2 ⊢;rw [<-hW8] at s2 ⊢;have hx68:Ext W6 W8:=hW8▸((Ext.refl W6).drew.alloc _).alloc _;have HX8:=lh (HX6.out.trans hx68)
 have hp8:W8.heap[W6.heap.size+1]?=some (.cells (C2++#[.string name,.slice (some ⟨W6.heap.size,0,none⟩) c c]) 118 (0,0)):=by
  rw [hW8,show W6.heap.size+1=(W6.drew.alloc (.cells (Array.replicate c (.slice none 0 0)) 22)).heap.size from (size_alloc _ _).symm];exact block_alloc_new _ _
 have hg8:W8.heap[W6.heap.size]?=some (.cells (Array.replicate c (.slice none 0 0)) 22 (0,0)):=by
  rw [hW8,block_alloc_old (by rw [size_alloc];exact Nat.lt_succ_self _)];exact block_alloc_new W6.drew _
 have hz8:W8.heap.size=W6.heap.size+2:=by rw [hW8,size_alloc,size_alloc,hds]
 have hxs:=HX5.out.size;have hx4s:=HX4.out.size;have h45:=H5.out.1.size
 have HHs:=lh (show HashesAt W8 (.slice ua un uc) r.hs from H5.out.2.1.kept (by omega) fun b o n c' e hb=>by
  have:=H5.out.2.2.1 b o n c' e;have hw:w.heap.size<w4.heap.size:=ltB HB4.out
  rw [hx68.block (by omega),HO6.out b (by omega)])
 have HN8:=lh (show W8.heap[w2.heap.size]?=some (.cells #[.int .i64 nk,.string ndt,.string nt,.int .i64 ntm] 57 (0,0)) from by
  have h5:=(H5.out.1.block (ltB HN4.out)).trans HN4.out;have hw:w.heap.size<w2.heap.size:=by have:=ltB HB1.out;have:=HX1.out.size;have:=HB2.out;have:=HW2.out;omega
  rw [hx68.block (by have:=ltB h5;omega),HO6.out _ (by omega),h5])
 have HStep:=lh (show ∀ wr,Chg [W6.heap.size] W8 wr->∀ k,k<c->∃ gs,sa=some ⟨gs,0,none⟩/\wr.rangeAt gs (k*5) (stepL N r.hs ndt.toList k) from fun wr x k hk=>by
  rcases H4.out.1.2 with ⟨_,h0⟩ | ⟨gs,cap',cur,he,hgs,hh,_⟩
  ·omega
  ·cases he
   refine ⟨gs,rfl,fun j u hj=>?_⟩;have hlt:=ltB hh;have hlo:w.heap.size<wc.heap.size:=ltB HBc.out
   have hblk:wr.heap[gs]?=w4.heap[gs]?:=by
    rw [x.block gs (by omega) (by simp;omega),hx68.block (by omega),HO6.out gs (by omega),H5.out.1.block hlt]
   have:=H4.out.1.cells (g:=gs) rfl (k*5+j) u (stepsL_get hk hj);rw [append_kw.add_off,Nat.zero_add] at this;unfold World.cell? at this ⊢
   rw [hblk];exact this)
 have HD8:=lh (show DrIn W8 (W6.heap.size+1) W6.heap.size (C2++#[.string name,.slice (some ⟨W6.heap.size,0,none⟩) c c]) (Array.replicate c (.slice none 0 0)) (.slice ua un uc) ((W6.heap.size+1)::Bs) r N name (openTo N r.hs ndt.toList 0) from by
  have hc:=HCc.out;subst hc;refine DrIn.new HG.out HC2.out hp8 hg8 HHs.out (fun b o n c' e=>List.mem_cons_of_mem _ (HBs.out.2 b o n c' e)) (fun b hb=>?_) List.mem_cons_self;rcases List.mem_cons.1 hb with rfl | hb
  ·exact ⟨by omega,by omega⟩
  ·have:=HBs.out.1 b hb
   exact ⟨by omega,by omega⟩)
 have HJ8:=lh (show ∀ b∈(W6.heap.size+1)::Bs,w.heap.size<=b from fun b hb=>by
  rcases List.mem_cons.1 hb with rfl | hb
  ·omega
  ·exact (HBs.out.1 b hb).1)
 have hgw2:w2.heap.size<W6.heap.size:=by have:=ltB HN4.out;omega
 have hgw:w.heap.size<W6.heap.size:=by have:=HW2.out;omega
 obtain ⟨D8,hD8⟩:∃ D8,D8=C2++#[.string name,.slice (some ⟨W6.heap.size,0,none⟩) c c]:=⟨_,rfl⟩;rw [<-hD8] at HD8;have HB8:=lh s2;clear hp8 hg8 s0 s1 s2 hW8 hD8 hds hxs hx4s h45 HO6 HQ6 hmk hx68 hW6s HS6;generalize W6.heap.size=g at *;go_wp2_with fail;go_loopw [66] (fun iv wr=>Hid (∃ k:Nat,k<=c/\iv=.int .i64 k/\Chg [g] W8 wr/\∃ cs J,DrIn wr (g+1) g D8 cs (.slice ua un uc) J r N name (openTo N r.hs ndt.toList k)/\∀ b∈J,w.heap.size<=b)) (fun iv _=>c - (intOf iv).toNat)
 case atStart=>exact ⟨0,Nat.zero_le _,rfl,Chg.refl _ _,_,_,HD8.out,HJ8.out⟩
 case round =>
  obtain ⟨k,hk,rfl,hx,cs,J,hd,hJ⟩:=hrel.out;clear hrel;have HX:=lh hx;have HDk:=lh hd;have HJk:=lh hJ;by_cases hlt:k<c
  ·obtain ⟨gs,rfl,hrg⟩:=HStep.out wr hx k hlt;have HSz:=lh (show ∀ a b c d e:Value,(prog.info? 128).map (·.size)=some (#[a,b,c,d,e]:Array Value).size from fun _ _ _ _ _=>by kernel_rfl);by_cases hr:rightB N r.hs k (placedL N ndt.toList k)=true
   ·rw [show stepL N r.hs ndt.toList k=[.int .i64 k,.int .i64 1,.string ⟨#[]⟩,.int .i64 0,.int .i64 0] from by unfold stepL stepP;rw [if_pos hr]] at hrg;have HRg:=lh hrg;have hbk:=(hx.block w.heap.size (ltB HB8.out) (by simp only [List.mem_singleton];omega)).trans HB8.out;have HBk:=lh hbk;have HNk:=lh ((hx.block w2.heap.size (ltB HN8.out) (by simp only [List.mem_singleton];omega)).trans HN8.out);have k22:=(cellB (k:=22) hbk).trans HC2.out.c22;rw [HG.out.bs] at k22;obtain ⟨sz,hsz⟩:∃ sz,sz=sizeN N:=⟨_,rfl⟩;have HSzN:=lh hsz;rw [<-hsz] at k22;have k22:(wr.alloc (.cells #[.int .i64 k,.int .i64 1,.string ⟨#[]⟩,.int .i64 0,.int .i64 0] 128)).cell? ⟨w.heap.size,22,none⟩=some (.int .i64 sz):=(((Ext.refl wr).alloc _).cell (lt_of_cell k22)).trans k22;obtain ⟨m,hm⟩:∃ m,m=k*sz:=⟨_,rfl⟩;have HM:=lh hm
    have hmN:m<N:=by
     have:=(count_spec N k).1 (by rw [<-HCc.out];exact hlt);rw [hm,hsz];exact this
    have hNs:=HG.out.small
    have q1:IntKind.i64.wrap ((k:Int)*(sz:Int))=(m:Int):=by
     rw [<-Int.natCast_mul,<-hm];exact IntWalk.i64_in _ (by omega)
    clear hrg hx hd hJ hbk hm hsz;go_wp2_with (refine wpList_load_at rfl 128 (.tmp 69) rfl gs (k*5) rfl #[.int .i64 k,.int .i64 1,.string ⟨#[]⟩,.int .i64 0,.int .i64 0] _ HRg.out underlying128 rfl (HSz.out _ _ _ _ _) ?_;go_frame);obtain ⟨Wa,hWa⟩:∃ Wa,Wa=wr.alloc (.cells #[.int .i64 k,.int .i64 1,.string ⟨#[]⟩,.int .i64 0,.int .i64 0] 128):=⟨_,rfl⟩;have hxa:Ext wr Wa:=hWa▸(Ext.refl wr).alloc _;rw [<-hWa];have HBa:=lh ((hxa.block (ltB HBk.out)).trans HBk.out);have HNa:=lh ((hxa.block (ltB HNk.out)).trans HNk.out);have HDa:=lh (HDk.out.ext hxa);have HXa:=lh (HX.out.trans_ext hxa);have hla:lenN N k<=128:=lenN_le N k;obtain ⟨hln1,hln2⟩:=placed_some hr (by rw [<-HCc.out];exact hlt);rw [<-HSzN.out,<-HM.out] at hln1 hln2
    have HLn:=fun w'=>lh (show Calls prog 77 #[.agg C2,.int .i64 k] w' (fun e w''=>e=.returned (.int .i64 (lenN N k:Nat))/\Ext w' w'') from by
     rw [<-HG.out.len (by rw [<-HCc.out];exact hlt)];obtain ⟨a,cap,hb,_⟩:=HHs.out
     exact clength_any r _ _ k w' HC2.out ⟨a,cap,hb⟩ (by rw [HG.out.size];omega) (by rw [HG.out.size];omega))
    obtain ⟨ln,hl⟩:∃ ln,ln=lenN N k:=⟨_,rfl⟩;have HL:=lh hl;rw [<-hl] at hla hln1 hln2 HLn
    have q2:IntKind.i64.wrap ((m:Int)+(ln:Int))=((m+ln:Nat):Int):=by
     rw [<-Int.natCast_add];exact IntWalk.i64_in _ (by omega)
    have hsz2:ndt.toList.length=ndt.size:=len_toList _;clear hWa hxa k22 hl q1;refine wp_region_held (S:=fun w'=>Chg [g] Wa w') (by kernel_rfl) ?_;change wpAnyH _ _ _ _ _ _ _ _ (World.drew _);have sS:Chg [g] Wa Wa.drew:=(Ext.refl Wa).drew.chg [g];refine wpAnyH_takeL (i:=0) (v:=.pointer (some ⟨g+1,0,none⟩)) rfl (by kernel_rfl) (by kernel_rfl) (by kernel_rfl) (fun _ _ _ h=>h) (yieldsIf_move rfl _ rfl rfl) sS ?_;go_frame;refine wpAnyH_takeL (i:=1) (v:=.int .i64 k) rfl (by kernel_rfl) (by kernel_rfl) (by kernel_rfl) (fun _ _ _ h=>h) (yieldsIf_move rfl _ rfl rfl) sS ?_;go_frame;refine wpAnyH_takeL (i:=2) (v:=.pointer (some ⟨w2.heap.size,1,none⟩)) rfl (by kernel_rfl) (by kernel_rfl) (by kernel_rfl) (fun _ _ _ h=>h) (Or.inl ⟨rfl,fun w' _=>by go_simp⟩) sS ?_;go_frame
    refine wpAnyH_takeL (i:=3) (v:=.string ndt) rfl (by kernel_rfl) (by kernel_rfl) (by kernel_rfl) (fun _ _ _ h=>h) (Or.inl ⟨rfl,fun w' hw'=>by
     have hc:w'.cell? ⟨w2.heap.size,1,none⟩=some (.string ndt):=cellB (k:=1) ((hw'.block _ (ltB HNa.out) (by simp only [List.mem_singleton];omega)).trans HNa.out)
     go_simp⟩) sS ?_
    go_frame;refine wpAnyH_takeL (i:=4) (v:=.int .i64 m) rfl (by kernel_rfl) (by kernel_rfl) (by kernel_rfl) (fun _ _ _ h=>h) (yieldsIf_move rfl _ rfl rfl) sS ?_;go_frame;refine wpAnyH_takeL (i:=5) (v:=.int .i64 m) rfl (by kernel_rfl) (by kernel_rfl) (by kernel_rfl) (fun _ _ _ h=>h) (yieldsIf_move rfl _ rfl rfl) sS ?_;go_frame;refine wpAnyH_takeL (i:=6) (v:=.agg C2) rfl (by kernel_rfl) (by kernel_rfl) (by kernel_rfl) (fun _ _ _ h=>h) (yieldsIf_load_row rfl 31 (.tmp 6) rfl w.heap.size rfl 31 C2 (0,0) _ (fun w' hw'=>(hw'.block _ (ltB HBa.out) (by simp only [List.mem_singleton];omega)).trans HBa.out) underlying31 rfl HC2z.out) sS ?_;go_frame;refine wpAnyH_takeL (i:=7) (v:=.int .i64 k) rfl (by kernel_rfl) (by kernel_rfl) (by kernel_rfl) (fun _ _ _ h=>h) (yieldsIf_move rfl _ rfl rfl) sS ?_;go_frame;refine wpAnyH_call (i:=8) (F:=77) (args:=#[.agg C2,.int .i64 k]) (by kernel_rfl) rfl rfl (by go_simp) ?_;refine (HLn _).out.mono ?_;rintro e wb ⟨rfl,xb⟩;have sB:Chg [g] Wa wb:=sS.trans_ext xb;refine ⟨_,rfl,sB,?_⟩;go_frame;refine wpAnyH_takeL (i:=9) (v:=.int .i64 (m+ln:Nat)) rfl (by kernel_rfl) (by kernel_rfl) (by kernel_rfl) (fun _ _ _ h=>h) (Or.inl ⟨rfl,fun w' _=>by go_simp⟩) sB ?_;go_frame
    refine wpAnyH_takeL (i:=10) (v:=.string (ndt.extract m (m+ln))) rfl (by kernel_rfl) (by kernel_rfl) (by kernel_rfl) (fun _ _ _ h=>h) (Or.inl ⟨rfl,fun w' _=>by
     go_simp
     rw [if_pos ⟨by omega,by omega⟩,if_pos (by omega),show ((m:Int)+(ln:Int)).toNat=m+ln from by omega]⟩) sB ?_
    go_frame
    have hcl:(ndt.extract m (m+ln)).toList=placedL N ndt.toList k:=by
     rw [(placed_some hr (by rw [<-HCc.out];exact hlt)).2,<-HSzN.out,<-HM.out,<-HL.out,toList_extract,show m+ln - m=ln from by omega]
    have hpl:(placedL N ndt.toList k).length=ln:=by rw [right_len hr,HL.out]
    have hl1:=lenN_pos (N:=N) (i:=k) (by rw [<-HCc.out];exact hlt);rw [<-HL.out] at hl1;have hcz:(ndt.extract m (m+ln)).size=ln:=by rw [<-len_toList,hcl,hpl]
    obtain ⟨cap,wc2,hcv2,xc2,hnb,hpa⟩:=conv_part (ndt.extract m (m+ln)) wb (by omega) (by omega);rw [hcl] at hcv2 hpa;have sC:Chg [g] Wa wc2:=sB.trans_ext xc2;refine wpAnyH_one (i:=11) (by kernel_rfl) rfl rfl (run_convertOp _ _ _ rfl _ _ _ hcv2) sC ?_;go_frame;have xab:Ext Wa wb:=(Ext.refl Wa).drew.trans xb;have hgl:g<Wa.heap.size:=ltB HDa.out.row;have hgb:=xab.size;have hdc:=(HDa.out.ext (xab.trans xc2)).more (b:=wb.heap.size) (by omega) hnb;have HF:=fill_any wc2 (g+1) g D8 cs (.slice ua un uc) (J++[wb.heap.size]) r N name (openTo N r.hs ndt.toList k) hdc k (by rw [<-HCc.out];exact hlt) (placedL N ndt.toList k) _ (hpa.more fun b hb=>List.mem_append.2 (.inr hb));refine wpAnyH_call (i:=12) (F:=76) (args:=#[.pointer (some ⟨g+1,0,none⟩),.int .i64 k,.slice (some ⟨wb.heap.size,0,none⟩) (placedL N ndt.toList k).length cap]) (by kernel_rfl) rfl rfl (by go_simp) ?_;refine HF.mono ?_;rintro e wd ⟨rfl,hh⟩;have HH:=hh;clear hh HF hdc hcv2 hpa;have sD:Chg [g] Wa wd:=sC.trans HH.out.1 fun _ h=>.inl h;refine ⟨_,rfl,sD,?_⟩;go_frame;refine wpAnyH_done (by kernel_rfl) ?_ _;have HXd:=lh (HXa.out.trans sD fun _ h=>.inl h)
    have HJd:=lh (show ∀ b∈J++[wb.heap.size],w.heap.size<=b from fun b hb=>by
     rcases List.mem_append.1 hb with hb | hb
     ·exact HJk.out b hb
     ·rw [List.mem_singleton.1 hb];omega)
    have HOp:=lh (show openTo N r.hs ndt.toList (k+1)=fillP N r.hs k (placedL N ndt.toList k) (openTo N r.hs ndt.toList k) from by rw [openTo,if_pos hr]);clear sS sB sC sD hr hcl hpl hl1 hcz xab hgl hgb q2 hsz2 hln1 hln2 hla hmN xb xc2 hnb;go_wp2_with fail;go_roundw
    case rel=>exact ⟨k+1,by omega,by go_num,HXd.out,by rw [HOp.out];exact ⟨HH.out.2.choose,_,HH.out.2.choose_spec,HJd.out⟩⟩
    case measure=>simp [intOf] <;> omega
   ·obtain ⟨q,v5,hq,hrow⟩:∃ (q:Int) (v5:Int),(q=3\/q=4)/\stepL N r.hs ndt.toList k=[.int .i64 k,.int .i64 q,.string ⟨#[]⟩,.int .i64 0,.int .i64 v5]:=by
     unfold stepL stepP;rw [if_neg hr];split
     ·exact ⟨3,_,.inl rfl,rfl⟩
     ·exact ⟨4,_,.inr rfl,rfl⟩
    rw [hrow] at hrg;have HRg:=lh hrg;have q1:(q==1)=false:=by rw [beq_eq_false_iff_ne];omega
    have q2:(q==2)=false:=by rw [beq_eq_false_iff_ne];omega
    have HOp:=lh (show openTo N r.hs ndt.toList (k+1)=openTo N r.hs ndt.toList k from by rw [openTo,if_neg hr]);clear hrg hx hd hJ hr hrow hq;go_wp2_with (refine wpList_load_at rfl 128 (.tmp 69) rfl gs (k*5) rfl #[.int .i64 k,.int .i64 q,.string ⟨#[]⟩,.int .i64 0,.int .i64 v5] _ HRg.out underlying128 rfl (HSz.out _ _ _ _ _) ?_;go_frame);go_roundw
    case rel=>exact ⟨k+1,by omega,by go_num,HX.out.trans_ext ((Ext.refl wr).alloc _),by rw [HOp.out];exact ⟨_,_,HDk.out.ext ((Ext.refl wr).alloc _),HJk.out⟩⟩
    case measure=>simp [intOf] <;> omega
  ·obtain rfl:k=c:=by omega
   have nlt:decide ((k:Int)<(k:Int))=false:=by simp
   clear hx hd hJ;go_wp2_with fail;go_ret2;exact ⟨_,_,_,_,_,_,rfl,HX.out.ext HX8.out (by simp;omega),by rw [<-HCc.out];exact HDk.out,by omega,HJk.out⟩
end
section
theorem may_parts {l:List UInt8} (h:mayL l=true):l.length<=160/\(aheadL l).length<=111/\(piecesL l).length<=6/\∀ x∈piecesL l,nameB x=true:=by
 unfold mayL at h;simp only [Bool.and_eq_true,decide_eq_true_eq,List.all_eq_true] at h;exact ⟨h.1.1,h.1.2,h.2.1,h.2.2⟩
theorem may_of {l:List UInt8} (h1:l.length<=160) (h2:(aheadL l).length<=111) (h3:(piecesL l).length<=6) (h4:∀ x∈piecesL l,nameB x=true):mayL l=true:=by
 unfold mayL;simp only [Bool.and_eq_true,decide_eq_true_eq,List.all_eq_true];exact ⟨⟨h1,h2⟩,h3,h4⟩
theorem back_base (s:ByteArray) (h:mayB s=true):nameB (baseS s).toList=true:=by
 rw [(split_toList s).2];exact (may_parts (by rw [<-mayB_list];exact h)).2.2.2 _ (List.getLast_mem _)
theorem nameB_nil:nameB []=false:=rfl
theorem besideS_toList (p b:ByteArray):(besideS p b).toList=(if p.toList.isEmpty then [] else p.toList++[47])++b.toList:=by
 unfold besideS;split
 ·simp
 ·simp [toList_append]
theorem ok_not_slash {l:List UInt8} (h:l.all okByte=true):47∉l:=fun hm=>by
 have:=List.all_eq_true.1 h _ hm;simp [okByte] at this
theorem nameB_ok {l:List UInt8} (h:nameB l=true):l.all okByte=true:=by
 simp only [nameB,Bool.and_eq_true] at h;exact h.2
theorem nameB_lens {l:List UInt8} (h:nameB l=true):1<=l.length/\l.length<=48:=by
 simp only [nameB,Bool.and_eq_true,decide_eq_true_eq] at h;exact ⟨h.1.1.1.1,h.1.1.1.2⟩
theorem nameB_mk {l:List UInt8} (h:l.all okByte=true) (h1:3<=l.length) (h2:l.length<=48):nameB l=true:=by
 simp only [nameB,Bool.and_eq_true,decide_eq_true_eq,h,Bool.not_eq_true',and_true];refine ⟨⟨⟨by omega,h2⟩,?_⟩,?_⟩ <;> rw [beq_eq_false_iff_ne] <;> intro e <;> rw [e] at h1 <;> simp at h1
theorem beside_part (p q:ByteArray) (h:mayB p=true) (hq:nameB q.toList=true) :
  mayB (besideS (parentS p) q)=true/\parentS (besideS (parentS p) q)=parentS p/\baseS (besideS (parentS p) q)=q:=by
 have hp:=may_parts (by rw [<-mayB_list];exact h);have hn:=ok_not_slash (nameB_ok hq);have hlen:=nameB_lens hq;have hsp:=split_toList p;have hb:=besideS_toList (parentS p) q;have hs2:=split_toList (besideS (parentS p) q);rcases last_slash p.toList with hno | ⟨a,b,hl,hbn⟩
 ·rw [aheadL_no hno] at hsp;rw [hsp.1] at hb;have hb':(besideS (parentS p) q).toList=q.toList:=by rw [hb];rfl
  rw [hb',aheadL_no hn,baseL_no hn] at hs2;refine ⟨?_,ba_ext (by rw [hs2.1,hsp.1]),ba_ext hs2.2⟩;rw [mayB_list,hb'];have hpc:piecesL q.toList=[q.toList]:=by unfold piecesL;rw [splitAux_no _ _ hn];rfl
  refine may_of (by omega) (by rw [aheadL_no hn];simp) (by rw [hpc];simp) (by rw [hpc];intro x hx;rw [List.mem_singleton.1 hx];exact hq)
 ·have e1:aheadL p.toList=a:=by rw [hl];exact aheadL_at a b hbn
  have e3:piecesL p.toList=piecesL a++[b]:=by
   rw [hl];unfold piecesL;rw [splitAux_at,splitAux_no b [] hbn];rfl
  rw [e1] at hsp;rw [e1,e3] at hp;obtain ⟨h160,h111,h6,hall⟩:=hp
  have hne:a≠[]:=fun e=>by
   subst e;have:=hall [] (by simp [piecesL,splitAux]);rw [nameB_nil] at this;cases this
  have hb':(besideS (parentS p) q).toList=a++47::q.toList:=by
   rw [hb,hsp.1,if_neg (by simpa using hne)];simp
  rw [hb',aheadL_at a _ hn,baseL_at a _ hn] at hs2;refine ⟨?_,ba_ext (by rw [hs2.1,hsp.1]),ba_ext hs2.2⟩;rw [mayB_list,hb']
  have e4:piecesL (a++47::q.toList)=piecesL a++[q.toList]:=by
   unfold piecesL;rw [splitAux_at,splitAux_no _ [] hn];rfl
  refine may_of (by simp;omega) (by rw [aheadL_at a _ hn];exact h111) (by rw [e4];rw [List.length_append] at h6 ⊢;exact h6) ?_;rw [e4];intro x hx;rcases List.mem_append.1 hx with hx | hx
  ·exact hall x (by simp [hx])
  ·rw [List.mem_singleton.1 hx];exact hq
theorem hexD_ok (n:Nat) (h:n<16):okByte (hexD n)=true:=by
 have:n=0\/n=1\/n=2\/n=3\/n=4\/n=5\/n=6\/n=7\/n=8\/n=9\/n=10\/n=11\/n=12\/n=13\/n=14\/n=15:=by omega
 rcases this with rfl | rfl | rfl | rfl | rfl | rfl | rfl | rfl | rfl | rfl | rfl | rfl | rfl | rfl | rfl | rfl <;> decide
theorem hexL_ok (l:List UInt8):(hexL l).all okByte=true:=by
 rw [List.all_eq_true];intro c hc;unfold hexL at hc;simp only [List.mem_flatten,List.mem_map] at hc;obtain ⟨u,⟨x,_,rfl⟩,hc⟩:=hc;have hx:=x.toNat_lt;simp only [List.mem_cons,List.not_mem_nil,or_false] at hc;rcases hc with rfl | rfl <;> exact hexD_ok _ (by omega)
theorem all_take {l:List UInt8} {f:UInt8->Bool} (h:l.all f=true) (n:Nat):(l.take n).all f=true :=
 List.all_eq_true.2 fun x hx=>List.all_eq_true.1 h x (List.mem_of_mem_take hx)
theorem hex8_toList (p:ByteArray):(hex8 p).toList=(hexL (shaL p.toList)).take 8:=by
 unfold hex8;rw [toList_extract,toList_mk];rfl
def tempPart (p:ByteArray):ByteArray:=⟨#[126,116,126]⟩++(baseS p).extract 0 (min ((baseS p).size:Int) 12).toNat++hex8 p
theorem tempPart_toList (p:ByteArray):(tempPart p).toList=[126,116,126]++((baseS p).toList.take (min ((baseS p).size:Int) 12).toNat++(hexL (shaL p.toList)).take 8):=by
 unfold tempPart;rw [toList_append,toList_append,hex8_toList,toList_extract,show (⟨#[126,116,126]⟩:ByteArray).toList=[126,116,126] from toList_mk _];simp
theorem tempPart_len (p:ByteArray):3<=(tempPart p).toList.length/\(tempPart p).toList.length<=23:=by
 rw [tempPart_toList];simp only [List.length_append,List.length_take,hexL_len,shaL_len,len_toList,List.length_cons,List.length_nil];omega
theorem tempPart_name (p:ByteArray) (h:mayB p=true):nameB (tempPart p).toList=true:=by
 have hl:=tempPart_len p;refine nameB_mk ?_ hl.1 (by omega);rw [tempPart_toList,List.all_append,List.all_append,all_take (nameB_ok (back_base p h)),all_take (hexL_ok _)]
 decide
theorem temp_at {root p:ByteArray} (hr:mayB (root++⟨#[47,120]⟩)=true) (hp:parentS (root++⟨#[47,120]⟩)=root) (h0:root.toList.isEmpty=false) (h:mayB p=true) (hq:parentS p=⟨#[]⟩) :
  root++⟨#[47]⟩++tempR p=besideS root (tempPart p)/\mayB (besideS root (tempPart p))=true/\parentS (besideS root (tempPart p))=root:=by
 have h1:=beside_part _ (tempPart p) hr (tempPart_name p h);rw [hp] at h1;refine ⟨?_,h1.1,h1.2.1⟩;unfold tempR;rw [if_pos h]
 show root++⟨#[47]⟩++besideS (parentS p) (tempPart p)=_
 rw [hq];unfold besideS;rw [if_pos (show (⟨#[]⟩:ByteArray).toList.isEmpty=true from by decide +kernel),if_neg (by rw [h0];simp)]
end
section
open Go.RowKit
def sF1:ByteArray:=⟨#[102,49]⟩
def sW:ByteArray:=⟨#[119]⟩
def tmpW:ByteArray:=placeS sF1 sW
theorem tmpW_form:∃ r,tmpW.toList=sF1.toList++47::r:=by
 refine ⟨(tempR sW).toList,?_⟩;unfold tmpW placeS;rw [toList_append,toList_append,toList_mk];simp
theorem tmpW_may:mayB tmpW=true/\parentS tmpW=sF1:=by
 have h:=temp_at (root:=sF1) (p:=sW) (by decide +kernel) (by decide +kernel) (by decide +kernel) (by decide +kernel) (by decide +kernel);unfold tmpW placeS;rw [h.1];exact h.2
theorem tmpW_place:placeB sF1 sW=true:=by
 unfold placeB;rw [show mayB sW=true from by decide +kernel,show mayB sF1=true from by decide +kernel,show placeS sF1 sW=tmpW from rfl,tmpW_may.1];rfl
theorem tmpW_some:tmpW.toList.isEmpty=false:=by
 obtain ⟨r,h⟩:=tmpW_form;rw [h];simp
theorem tmpW_less:cmpL sF1.toList tmpW.toList=-1:=by
 obtain ⟨r,h⟩:=tmpW_form;rw [h];exact cmpL_prefix _ _ _
theorem tmpW_ne:tmpW≠sF1:=fun e=>by
 have:=tmpW_less;rw [e,cmpL_self] at this
 cases this
def nDir:Nd:=⟨2,emp,emp,0⟩
def kF:Dk:=⟨[(sF1,nDir)],[],65536,[.mkdir sF1],false,-1⟩
theorem kF_made:(Dk.made 65536).act (.mkdir sF1)=(0,kF):=by kernel_rfl
theorem findF:findA [(sF1,nDir)] tmpW=none:=by
 unfold findA;rw [if_neg (Ne.symm tmpW_ne)];rfl
theorem kF_read:readE kF.live tmpW=(nd0,5):=by
 unfold readE;rw [if_pos tmpW_may.1,show kF.live=[(sF1,nDir)] from rfl,findF]
end
section
open Go.RowKit
def draftG (p:Nat) (r:RecS) (N:Nat) (name:ByteArray) (ps:List (Option (List UInt8))):Gen where
 At w M I:=∃ g D cs bl,M=[g]/\DrIn w p g D cs bl I r N name ps
 lt:=by
  rintro w M I ⟨g,D,cs,bl,rfl,h⟩;exact ⟨fun b hb=>(by rw [List.mem_singleton.1 hb];exact ltB h.row),fun b hb=>(h.imm b hb).2⟩
 kept:=by
  rintro w w' M I ⟨g,D,cs,bl,rfl,h⟩ hs hk;refine ⟨g,D,cs,bl,rfl,h.kept hs fun b hb hm=>hk b hb ?_⟩;rcases List.mem_cons.1 hm with rfl | hm
  ·exact .inl (by simp)
  ·exact .inr hm
abbrev Thing.draft (p:Nat) (r:RecS) (N:Nat) (name:ByteArray) (ps:List (Option (List UInt8))):Thing:=.gen (draftG p r N name ps)
section
variable {w0 w:World} {A B:List Thing} {p:Nat} {r:RecS} {N:Nat} {name:ByteArray} {ps:List (Option (List UInt8))}
theorem draft_ext {F:FuncId} {args:Array Value} {P:Ending->World->Prop} (h:Things w0 w (A++.draft p r N name ps::B)) (hc:∀ g D cs bl I,DrIn w p g D cs bl I r N name ps->Calls prog F args w P):Calls prog F args w P:=by
 obtain ⟨M,I,⟨g,D,cs,bl,_,h1⟩,_⟩:=h.opened;exact hc g D cs bl I h1
theorem thave_many (h:Things w0 w (A++.draft p r N name ps::B)) (hnm:name.toList.isEmpty=false) :
  Calls prog 19 #[.pointer (some ⟨p,0,none⟩)] w fun e w'=>∃ u,e=.returned u/\Hid (w'.ownsRow w.heap.size 3 1 u ((List.range (countN N)).filter (haveB ps)).length (((List.range (countN N)).filter (haveB ps)).map iv)/\Ext w w') :=
 draft_ext h fun _ _ _ _ _ hd=>have_any w _ _ _ _ _ _ _ _ _ _ hd hnm
theorem tasked_many (h:Things w0 w (A++.draft p r N name ps::B)) (hnm:name.toList.isEmpty=false) :
  Calls prog 21 #[.pointer (some ⟨p,0,none⟩)] w fun e w'=>∃ u,e=.returned u/\Hid (w'.ownsRow w.heap.size 3 1 u ((List.range (countN N)).filter (askB N r.hs ps)).length (((List.range (countN N)).filter (askB N r.hs ps)).map iv)/\Ext w w') :=
 draft_ext h fun _ _ _ _ _ hd=>asked_any w _ _ _ _ _ _ _ _ _ _ hd hnm
theorem tdone_many (h:Things w0 w (A++.draft p r N name ps::B)) (hnm:name.toList.isEmpty=false) :
  Calls prog 24 #[.pointer (some ⟨p,0,none⟩)] w fun e w'=>e=.returned (.bool (doneB N r.hs ps))/\Ext w w' :=
 draft_ext h fun _ _ _ _ _ hd=>tdone_any w _ _ _ _ _ _ _ _ _ _ hd hnm
theorem tput_many (h:Things w0 w (A++.draft p r N name ps::B)) (T:ShaTabs w) (hnm:name.toList.isEmpty=false) (i:Nat) (hi:i<countN N) (l:List UInt8) (v:Value) (hv:BytesOff w.heap.size w v l) (hr:rightB N r.hs i l=true) :
  Calls prog 16 #[.pointer (some ⟨p,0,none⟩),.int .i64 i,v] w fun e w'=>e=.returned (.int .i64 0)/\Things w0 w' (A++.draft p r N name (fillP N r.hs i l ps)::B):=by
 obtain ⟨M,I,⟨g,D,cs,bl,rfl,h1⟩,_,h3⟩:=h.opened;refine (put_any w T p g D cs bl I r N name ps h1 hnm i hi l v hv (by have:=right_len hr;have:=lenN_le N i;omega)).mono ?_;rintro e w' hp;obtain ⟨he,I',cs',hk,hd⟩:=hp.yes hr;exact ⟨he,h3 w' [g] I' (.draft p r N name (fillP N r.hs i l ps)) ⟨g,D,cs',bl,rfl,hd⟩ hk⟩
theorem tput_wrong (h:Things w0 w (A++.draft p r N name ps::B)) (T:ShaTabs w) (hnm:name.toList.isEmpty=false) (i:Nat) (hi:i<countN N) (l:List UInt8) (v:Value) (hv:BytesOff w.heap.size w v l) (hl:l.length<=1048576) (hr:rightB N r.hs i l=false) :
  Calls prog 16 #[.pointer (some ⟨p,0,none⟩),.int .i64 i,v] w fun e w'=>e=.returned (.int .i64 14)/\Ext w w':=by
 obtain ⟨M,I,⟨g,D,cs,bl,rfl,h1⟩,_,h3⟩:=h.opened;exact (put_any w T p g D cs bl I r N name ps h1 hnm i hi l v hv hl).mono fun e w' hp=>hp.no hr
theorem topen_many {d:Nat} {K:Dk} (h:Things w0 w (A++.disk d K::B)) (root:ByteArray) (r:RecS) (C:Array Value) (bl:Value) (N:Nat) (hC:RecC C r bl) (G:r.Good N) (hb:HashesAt w bl r.hs) (hsh:∃ a n c,bl=.slice a n c/\(a=none\/∃ g o,a=some ⟨g,o,none⟩)) (E:Env w) (T:ShaTabs w) (hs:r.path.size<4294967281) (hr:root.size<=2147483648) (hp:placeB root r.path=true)
  (hdt:(readE K.live (placeS root r.path)).1.data.size<=1048576) :
  Calls prog 15 #[.pointer (some ⟨d,0,none⟩),.string root,.agg C,.pointer none] w fun e w'=>∃ p,e=.returned (.tuple #[.pointer (some ⟨p,0,none⟩),.int .i64 0])/\Hid (Ext w w'/\Things w0 w' (A++.disk d K::B++[.draft p r N (placeS root r.path) (openTo N r.hs (readE K.live (placeS root r.path)).1.data.toList (countN N))])):=by
 obtain ⟨M,I,h1,h2,_⟩:=h.opened;refine (open_ok root r C bl N w hC G hb hsh E T hs hr hp d M I K h1 hdt).mono ?_;rintro e w' ⟨p,g,D,cs,u,J,he,hh⟩;obtain ⟨hx,hd,hg,hJ⟩:=hh.out;exact ⟨p,he,hx,h.add hx (M:=[g]) (I:=J) ⟨g,D,cs,u,rfl,hd⟩ (fun b hb=>(by rw [List.mem_singleton.1 hb];exact hg)) hJ⟩
end
end
section
open Go.RowKit
def repS (c:UInt8) (n:Nat):ByteArray:=⟨(List.replicate n c).toArray⟩
theorem repeatL_one (c:UInt8):∀ n,Lib.repeatL [c] n=List.replicate n c
 | 0=>rfl
 | n+1=>by
  rw [show Lib.repeatL [c] (n+1)=[c]++Lib.repeatL [c] n from rfl,repeatL_one c n];rfl
set_option maxRecDepth 100000 in
theorem times_any (c:UInt8) (n:Nat) (w:World) (hn:n<=100000):Calls prog 69 #[.string ⟨#[c]⟩,.int .i64 n] w fun e w'=>e=.returned (.string (repS c n))/\Ext w w':=by
 have HR:=lh (show Calls prog 63 #[.string ⟨#[c]⟩,.int .i64 n] w (fun e w'=>e=.returned (.string (repS c n))/\Ext w w') from by
  have:=Tryz.strings_Repeat ⟨#[c]⟩ n w (by omega) (by rw [show (⟨#[c]⟩:ByteArray).size=1 from rfl];omega);rw [show (⟨#[c]⟩:ByteArray).data.toList=[c] from rfl,repeatL_one] at this
  exact this)
 clear hn;go_enter func69,ntmps69;go_wp2_with fail;refine HR.out.mono ?_;rintro e w1 ⟨rfl,x1⟩;have HX:=lh x1;clear x1;go_wp2_with fail;go_ret;exact ⟨rfl,HX.out⟩
set_option maxRecDepth 100000 in
theorem made23_any {w0 w:World} {A:List Thing} (h:Things w0 w A) (E:Env w0) :
  Calls prog 13 #[] w fun e w'=>∃ d,e=.returned (.pointer (some ⟨d,0,none⟩))/\Hid (Things w0 w' (A++[.disk d kF])):=by
 have H0:=lh (new_many h 65536 (by decide) (by decide));have HE:=lh E;clear h E;go_enter func13,ntmps13;go_wp2_with fail;refine H0.out.mono ?_;rintro e w1 ⟨d,rfl,h1⟩;have H1:=lh (mkdir_many (A:=A) (B:=[]) h1 ((DkRun.made (room:=65536) (by decide) (by decide)).fit (by decide)) (HE.out.ext h1.is_ext) sF1 (by decide) kF_made);clear h1;go_wp2_with fail;refine H1.out.mono ?_;rintro e w2 ⟨rfl,h2⟩;have H2:=lh h2;clear h2;go_wp2_with fail;go_ret;exact ⟨d,rfl,H2.out⟩
def wantedC (l:List UInt8) (bl:Value):Array Value:=#[.string sW,.int .i64 1,.bool false,.int .i64 (l.length:Nat),.int .i64 5,.int .i64 0,.int .u32 0,.int .u32 0,.int .u32 0,.int .u32 0,.int .u32 0,.int .u32 0,.int .u32 0,.int .u32 0,.int .u32 0,.int .u32 0,.int .u32 0,.int .u32 0,.int .u32 0,.int .u32 0,.int .u32 0,.int .u32 0,.int .i64 (sizeN l.length:Nat),bl,.string ⟨#[]⟩,.int .i64 0,.int .i64 0]
def wantedR (l:List UInt8):RecS:=⟨sW,1,false,(l.length:Nat),5,(sizeN l.length:Nat),hashesL l⟩
theorem wantedC_rec (l:List UInt8) (bl:Value):RecC (wantedC l bl) (wantedR l) bl:=⟨rfl,rfl,rfl,rfl,rfl,rfl,rfl,rfl⟩
theorem wantedR_good (l:List UInt8) (hl:l.length<=4096):(wantedR l).Good l.length:=⟨rfl,rfl,rfl,hl,rfl,by show (hashesL l).length=_;rw [hashesL_len]⟩
theorem owns_touch {w w':World} {base g k n:Nat} {e:TypeId} {v:Value} {xs:List Value} (h:w.ownsRow base e k v n xs) (x:Touch g w w') (hg:g<base):w'.ownsRow (g+1) e k v n xs:=by
 refine ⟨h.1,?_⟩;rcases h.2 with h1 | ⟨b,cap,cur,hv,hb,hh,hr⟩
 ·exact .inl h1
 ·exact .inr ⟨b,cap,cur,hv,by omega,(x.block b (ltB hh) (fun e=>by have:=Option.some.inj e;omega)).trans hh,hr⟩
set_option maxRecDepth 100000 in
set_option maxHeartbeats 1000000 in
theorem wanted23_any (l:List UInt8) (v:Value) (w:World) (T:ShaTabs w) (hv:BytesOff w.heap.size w v l) (hl:l.length<=4096) :
  Calls prog 14 #[v] w fun e w'=>∃ a c,e=.returned (.agg (wantedC l (.slice a (countN l.length) c)))/\Hid (w'.ownsRow (w.heap.size+1) 45 32 (.slice a (countN l.length) c) (countN l.length) (hrow (hashesL l))/\Ext w w'):=by
 have HX:=lh ((Ext.refl w).alloc (.cells (wantedC [] (.slice none 0 0)) 31));have HLi:=fun w' (x:Ext w w')=>lh (blist_any l v w' (T.ext x) (bytesOff_any hv x x.size) hl);have HSz:=fun w'=>lh (bsize_any (l.length:Int) w' (by omega) (by omega));rw [show sizeZ (l.length:Int)=(sizeN l.length:Nat) from by unfold sizeZ;rw [if_neg (by omega)];simp] at HSz;have HW:=lh (show ∀ bl,wantedC l bl=#[.string sW,.int .i64 1,.bool false,.int .i64 (l.length:Nat),.int .i64 5,.int .i64 0,.int .u32 0,.int .u32 0,.int .u32 0,.int .u32 0,.int .u32 0,.int .u32 0,.int .u32 0,.int .u32 0,.int .u32 0,.int .u32 0,.int .u32 0,.int .u32 0,.int .u32 0,.int .u32 0,.int .u32 0,.int .u32 0,.int .i64 (sizeN l.length:Nat),bl,.string ⟨#[]⟩,.int .i64 0,.int .i64 0] from fun _=>rfl);obtain ⟨a,cap,rfl,_⟩:=hv;generalize wantedC l=WC at *;generalize hashesL l=hs at *;generalize sizeN l.length=sz at *;generalize countN l.length=cn at *;generalize l.length=ln at *;clear T hl;go_enter func14,ntmps14;go_wp2_with fail;refine (HLi _ ((Ext.refl w).alloc _)).out.mono ?_;rintro e w2 ⟨u,rfl,h2⟩;have H2:=h2;obtain ⟨sa,cap2,rfl⟩:=rowk_shape h2.out.1;have HX2:=lh (((Ext.refl w).alloc _).trans h2.out.2);have HZ:=lh ((h2.out.2.block (by rw [size_alloc];exact Nat.lt_succ_self _)).trans (block_alloc_new w _));have HA1:=lh (show (prog.info? 31).map (·.size)=some (WC (.slice sa cn cap2)).size from by rw [HW.out];kernel_rfl);have HA2:=lh (show 27=(WC (.slice sa cn cap2)).size from by rw [HW.out];rfl);have HA3:=lh (show (WC (.slice sa cn cap2)).all (·.oneCell')=true from by rw [HW.out];simp [Value.oneCell']);clear h2 HX;go_wp2_with fail;refine (HSz _).out.mono ?_;rintro e w3 ⟨rfl,hw⟩;obtain rfl:=hw.symm;clear hw
 go_wp2_with (first
  | (refine wpList_buildAs (WC (.slice sa cn cap2)) rfl _ _ rfl (by rw [HW.out];kernel_rfl) ?_;go_frame)
  | (refine wpList_storeT rfl _ _ _ rfl w.heap.size (WC (.slice sa cn cap2)) rfl rfl 31 _ HZ.out HA1.out HA2.out HA3.out ?_;intro w6 hb6 ht6;have HB6:=lh hb6;have HT6:=lh ht6;clear hb6 ht6;go_frame))
 have HT:=HT6.out.fresh HX2.out (Nat.le_refl _);refine bodyPost_ret (results_cell_row rfl _ _ w.heap.size 31 _ (0,0) _ rfl HB6.out underlying31 rfl HA1.out) rfl ⟨_,_,rfl,?_,HT⟩;exact owns_touch H2.out.1 HT6.out (by rw [size_alloc];exact Nat.lt_succ_self _)
theorem conv_byte1 (w:World) (c:UInt8):(convert 22 9 (.slice (some ⟨w.heap.size,0,none⟩) 1 1)).run prog (w.alloc (.cells #[.int .u8 c.toNat] 5))=.ok (.string ⟨#[c]⟩) (w.alloc (.cells #[.int .u8 c.toNat] 5)):=by
 exact run_convert_bytes_back (w.alloc (.cells #[.int .u8 c.toNat] 5)) 22 9 5 ⟨w.heap.size,0,none⟩ 1 [c] underlying22 (by kernel_rfl) underlying9 (fun j hj=>by
  have:j=0:=by simp at hj;exact hj
  subst this
  rw [show (⟨w.heap.size,0,none⟩:Addr).add 0=⟨w.heap.size,0,none⟩ from rfl,cellB (heap_alloc_new w _)];rfl)
def digS (L:List Nat):ByteArray:=⟨(L.map fun k=>UInt8.ofNat (48+k % 10)).toArray⟩
theorem digS_next {L:List Nat} {k x:Nat} (h:L[k]?=some x):digS (L.take (k+1))=digS (L.take k)++⟨#[UInt8.ofNat (48+x % 10)]⟩:=by
 apply ba_ext;unfold digS;rw [List.take_add_one,h,toList_mk,toList_append,toList_mk];rw [show (⟨#[UInt8.ofNat (48+x % 10)]⟩:ByteArray).toList=[UInt8.ofNat (48+x % 10)] from toList_mk _];simp
theorem digS_size (L:List Nat):(digS L).size=L.length:=by
 unfold digS;rw [size_mk];simp
set_option maxRecDepth 100000 in
set_option maxHeartbeats 1000000 in
theorem ltext_any (L:List Nat) (v:Value) (base:Nat) (w:World) (hv:w.ownsRow base 3 1 v L.length (L.map iv)) (hL:L.length<=100) (hb:∀ k∈L,k<=1000) :
  Calls prog 71 #[v] w fun e w'=>e=.returned (.string (digS L))/\Ext w w':=by
 have HO:=lh hv;obtain ⟨a,cap,rfl⟩:=rowk_shape hv
 have HC:=lh (show ∀ (k x:Nat),L[k]?=some x->∃ g,a=some ⟨g,0,none⟩/\x<=1000/\∀ wr,Ext w wr->wr.cell? ⟨g,k,none⟩=some (.int .i64 (x:Nat)) from fun k x hx=>by
  rcases hv.2 with ⟨he,h0⟩ | ⟨g,cap',cur,he,hg,hh,_⟩
  ·have:=(List.getElem?_eq_some_iff.1 hx).1;omega
  ·cases he
   refine ⟨g,rfl,hb x (List.mem_of_getElem? hx),fun wr xr=>?_⟩;have:=hv.cells (g:=g) rfl k (iv x) (by rw [List.getElem?_map,hx];rfl);rw [append_kw.add_off,Nat.zero_add] at this
   exact (xr.cell (ltB hh)).trans this)
 have HS:=lh (digS_size L);obtain ⟨F,hF⟩:∃ F,F=digS L:=⟨_,rfl⟩;have HF:=lh hF;rw [<-hF];obtain ⟨n,hn⟩:∃ n,n=L.length:=⟨_,rfl⟩;have HN:=lh hn;rw [<-hn] at hL ⊢;clear hF hv hb hn;go_enter func71,ntmps71;go_wp2_with fail;go_loopw [3,4] (fun sv iv wr=>Hid (∃ (k:Nat) (s:ByteArray),k<=n/\iv=.int .i64 k/\sv=.string s/\s=digS (L.take k)/\s.size=k/\Ext w wr)) (fun _ iv _=>n - (intOf iv).toNat)
 case atStart=>exact ⟨0,⟨#[]⟩,Nat.zero_le _,rfl,rfl,rfl,rfl,Ext.refl _⟩
 case round =>
  obtain ⟨k,s,hk,rfl,rfl,hs,hz,hx⟩:=hrel.out;clear hrel;have HX:=lh hx;have HSs:=lh hs;by_cases hlt:k<n
  ·obtain ⟨x,hxk⟩:∃ x,L[k]?=some x:=⟨_,List.getElem?_eq_getElem (by have:=HN.out;omega)⟩;obtain ⟨g,rfl,hxl,hcell⟩:=HC.out k x hxk;have ck:=hcell wr hx;obtain ⟨c,hc⟩:∃ c,c=UInt8.ofNat (48+x % 10):=⟨_,rfl⟩;have hcn:(48:Int)+(x:Int) % 10=(c.toNat:Int):=by rw [hc,UInt8.toNat_ofNat'];omega
   have HNx:=lh (show digS (L.take (k+1))=s++⟨#[c]⟩ from by rw [digS_next hxk,<-hc,hs]);have hcv:=conv_byte1 wr c;have hcl:=c.toNat_lt;clear hc hs hx hcell;go_wp2_with fail;refine ⟨⟨k+1,s++⟨#[c]⟩,by omega,by go_num,rfl,HNx.out.symm,?_,HX.out.alloc _⟩,by simp [intOf];omega⟩;rw [ByteArray.size_append,hz];rfl
  ·obtain rfl:k=n:=by omega
   have HK:=lh (show s=F from by rw [HF.out,hs,List.take_of_length_le (by rw [<-HN.out];exact Nat.le_refl _)]);clear hs hx;go_wp2_with fail;go_ret;exact ⟨ret_str HK.out,HX.out⟩
end
section
open Go.RowKit
def gL:List UInt8:=List.replicate 32 120++List.replicate 8 121
def gS:ByteArray:=repS 120 32++repS 121 8
theorem repS_list (c:UInt8) (n:Nat):(repS c n).toList=List.replicate n c:=toList_mk _
theorem repS_size (c:UInt8) (n:Nat):(repS c n).size=n:=by rw [<-len_toList,repS_list];simp
theorem gS_list:gS.toList=gL:=by
 unfold gS gL;rw [toList_append,repS_list,repS_list]
theorem gS_size:gS.size=40:=by
 unfold gS;rw [ByteArray.size_append,repS_size,repS_size]
theorem hashes_row {w:World} {base n c:Nat} {a:Option Addr} {l:List UInt8} (h:w.ownsRow base 45 32 (.slice a n c) (countN l.length) (hrow (hashesL l))) :
  HashesAt w (.slice a n c) (hashesL l)/\∃ a' n' c',(.slice a n c:Value)=.slice a' n' c'/\(a'=none\/∃ g o,a'=some ⟨g,o,none⟩):=by
 have h1:=hashes_of_own (hs:=hashesL l) (by rw [hashesL_len];exact h) (fun y hy=>by
  unfold hashesL at hy;obtain ⟨i,_,rfl⟩:=List.mem_map.1 hy
  exact shaL_len _)
 refine ⟨h1.1,a,n,c,rfl,?_⟩;rcases h1.2.2 with e | ⟨g,c',e⟩
 ·cases e;exact .inl rfl
 ·cases e;exact .inr ⟨g,0,rfl⟩
set_option maxRecDepth 100000 in
set_option maxHeartbeats 1000000 in
theorem given23_any (w:World) (T:ShaTabs w) :
  Calls prog 68 #[] w fun e w'=>∃ a c,e=.returned (.agg (wantedC gL (.slice a 3 c)))/\Hid (w'.ownsRow (w.heap.size+1) 45 32 (.slice a 3 c) 3 (hrow (hashesL gL))/\Ext w w'):=by
 have HT1:=fun w'=>lh (times_any 120 32 w' (by decide));have HT2:=fun w'=>lh (times_any 121 8 w' (by decide));have HW:=fun w' v (x:Ext w w') (hv:BytesOff w'.heap.size w' v gL)=>lh (wanted23_any gL v w' (T.ext x) hv (by decide));rw [show countN gL.length=3 from by decide] at HW;have HG:=lh (show repS 120 32++repS 121 8=gS from rfl);have hs1:=repS_size 120 32;have hs2:=repS_size 121 8;have HL:=lh gS_list;have HS:=lh gS_size;have HA1:=fun a c=>lh (show (prog.info? 31).map (·.size)=some (wantedC gL (.slice a 3 c)).size from by kernel_rfl);have HA3:=fun a c=>lh (show (wantedC gL (.slice a 3 c)).all (·.oneCell')=true from by simp [wantedC,Value.oneCell']);have HA2:=fun a c=>lh (show 27=(wantedC gL (.slice a 3 c)).size from rfl);generalize repS 120 32=s1 at *;generalize repS 121 8=s2 at *;generalize gS=s3 at *;generalize wantedC gL=WC at *;generalize hashesL gL=HH at *;clear T;go_enter func68,ntmps68;go_wp2_with fail;refine (HT1 _).out.mono ?_;rintro e w1 ⟨rfl,x1⟩;have HX1:=lh (((Ext.refl w).alloc _).trans x1);have HZ1:=lh ((x1.block (by rw [size_alloc];exact Nat.lt_succ_self _)).trans (block_alloc_new w _));clear x1;go_wp2_with fail;refine (HT2 _).out.mono ?_;rintro e w2 ⟨rfl,x2⟩;have HX2:=lh (HX1.out.trans x2);have HZ2:=lh ((x2.block (ltB HZ1.out)).trans HZ1.out);clear x2;obtain ⟨cv,w3,hcv,hbo,x3⟩:=conv_bytes s3 w2 (by rw [HS.out];decide);rw [HL.out] at hbo;have HX3:=lh (HX2.out.trans x3);have HZ3:=lh ((x3.block (ltB HZ2.out)).trans HZ2.out);have HWc:=HW w3 cv HX3.out hbo;have hg:=HG.out;clear x3 hbo HT1 HT2 HW;go_wp2_with fail;refine HWc.out.mono ?_;rintro e w4 ⟨a,c,rfl,h4⟩;have H4:=h4;have HX4:=lh (HX3.out.trans h4.out.2);have HZ4:=lh ((h4.out.2.block (ltB HZ3.out)).trans HZ3.out);clear h4 HWc hcv hg;go_wp2_with (refine wpList_storeT rfl _ _ _ rfl w.heap.size (WC (.slice a 3 c)) rfl rfl 31 _ HZ4.out (HA1 _ _).out (HA2 _ _).out (HA3 _ _).out ?_;intro w6 hb6 ht6;have HB6:=lh hb6;have HT6:=lh ht6;clear hb6 ht6;go_frame);have HT:=HT6.out.fresh HX4.out (Nat.le_refl _);refine bodyPost_ret (results_cell_row rfl _ _ w.heap.size 31 _ (0,0) _ rfl HB6.out underlying31 rfl (HA1 _ _).out) rfl ⟨_,_,rfl,?_,HT⟩;have hlt:=ltB HZ3.out;exact owns_touch (owns_low H4.out.1 (by omega:w.heap.size+1<=w3.heap.size+1)) HT6.out (by omega)
abbrev dr (p:Nat) (l:List UInt8) (ps:List (Option (List UInt8))):Thing:=.draft p (wantedR l) l.length tmpW ps
theorem open_any23 {w0 w:World} {A B:List Thing} {d:Nat} {K:Dk} {l:List UInt8} {base c:Nat} {a:Option Addr} {nd:Nd} {z:Int} (h:Things w0 w (A++.disk d K::B)) (E:Env w) (T:ShaTabs w) (hl:l.length<=4096) (hr:w.ownsRow base 45 32 (.slice a (countN l.length) c) (countN l.length) (hrow (hashesL l)))
  (hR:readE K.live tmpW=(nd,z)) (hd:nd.data.size<=1048576) :
  Calls prog 15 #[.pointer (some ⟨d,0,none⟩),.string sF1,.agg (wantedC l (.slice a (countN l.length) c)),.pointer none] w fun e w'=>∃ p,e=.returned (.tuple #[.pointer (some ⟨p,0,none⟩),.int .i64 0])/\Hid (Ext w w'/\Things w0 w' (A++.disk d K::B++[dr p l (openTo l.length (hashesL l) nd.data.toList (countN l.length))])):=by
 obtain ⟨h1,h2⟩:=hashes_row hr
 have:=topen_many h sF1 (wantedR l) (wantedC l (.slice a (countN l.length) c)) (.slice a (countN l.length) c) l.length (wantedC_rec _ _) (wantedR_good l hl) h1 h2 E T (show sW.size<4294967281 from by decide) (by decide) tmpW_place (by
  rw [show placeS sF1 (wantedR l).path=tmpW from rfl,hR];exact hd)
 rw [show placeS sF1 (wantedR l).path=tmpW from rfl,hR] at this;exact this
theorem open_new23 {w0 w:World} {A B:List Thing} {d:Nat} {l:List UInt8} {base c:Nat} {a:Option Addr} (h:Things w0 w (A++.disk d kF::B)) (E:Env w) (T:ShaTabs w) (hl:l.length<=4096) (hr:w.ownsRow base 45 32 (.slice a (countN l.length) c) (countN l.length) (hrow (hashesL l))) :
  Calls prog 15 #[.pointer (some ⟨d,0,none⟩),.string sF1,.agg (wantedC l (.slice a (countN l.length) c)),.pointer none] w fun e w'=>∃ p,e=.returned (.tuple #[.pointer (some ⟨p,0,none⟩),.int .i64 0])/\Hid (Ext w w'/\Things w0 w' (A++.disk d kF::B++[dr p l (List.replicate (countN l.length) none)])):=by
 have:=open_any23 h E T hl hr kF_read (by decide);rw [show nd0.data.toList=[] from toList_mk [],openTo_none _ _ _ (Nat.le_refl _)] at this;exact this
theorem text_row {w w1:World} {base:Nat} {u:Value} {L:List Nat} {s:ByteArray} (h:w.ownsRow base 3 1 u L.length (L.map iv)) (x:Ext w w1) (hL:L.length<=100) (hb:∀ k∈L,k<=1000) (hs:digS L=s) :
  Calls prog 71 #[u] w1 fun e w'=>e=.returned (.string s)/\Ext w1 w':=by
 rw [<-hs];exact ltext_any L u base w1 (owns_ext h x) hL hb
theorem gl_len:gL.length=40:=by decide
theorem gc_len:countN gL.length=3:=by decide
def g0:List (Option (List UInt8)):=[none,none,none]
def x16:List UInt8:=List.replicate 16 120
def g1:List (Option (List UInt8)):=fillP 40 (hashesL gL) 1 x16 g0
theorem g_ask0:(List.range (countN 40)).filter (askB 40 (hashesL gL) g0)=[0,2]:=by decide +kernel
theorem g_right1:rightB 40 (hashesL gL) 1 x16=true:=by decide +kernel
theorem g_have1:(List.range (countN 40)).filter (haveB g1)=[0,1]:=by decide +kernel
theorem g_ask1:(List.range (countN 40)).filter (askB 40 (hashesL gL) g1)=[2]:=by decide +kernel
theorem g_done0:doneB 40 (hashesL gL) g0=false:=by unfold doneB;rw [g_ask0];rfl
set_option maxRecDepth 100000 in
set_option maxHeartbeats 2000000 in
theorem awake23_any (w:World) (E:Env w) (T:ShaTabs w):Calls prog 12 #[] w fun e w'=>e=.returned (.bool true)/\Ext w w':=by
 have H0:=lh (made23_any (Things.start (Ext.refl w)) E);have HE:=lh E;have HT:=lh T;clear E T;go_enter func12,ntmps12;go_wp2_with fail;refine H0.out.mono ?_;rintro e w1 ⟨d,rfl,h1⟩;have H1:=h1;have HGv:=lh (given23_any w1 (HT.out.ext h1.out.is_ext));clear h1 H0;go_wp2_with fail;refine HGv.out.mono ?_;rintro e w2 ⟨a,c,rfl,h2⟩;have HT2:=lh (H1.out.ext h2.out.2);have hO:=open_new23 (A:=[]) (B:=[]) (l:=gL) HT2.out (HE.out.ext HT2.out.is_ext) (HT.out.ext HT2.out.is_ext) (by rw [gl_len];decide) (by rw [gc_len];exact h2.out.1);rw [gc_len] at hO;have HO:=lh hO;clear h2 hO HGv H1;go_wp2_with fail;refine HO.out.mono ?_;rintro e w3 ⟨p,rfl,h3⟩;have HT3:=lh (show Things w w3 ([.disk d kF]++dr p gL g0::[]) from h3.out.2);have hA:=tasked_many HT3.out tmpW_some;rw [gl_len,show (wantedR gL).hs=hashesL gL from rfl,g_ask0] at hA;have HA:=lh hA;clear h3 hA HO;go_wp2_with fail;refine HA.out.mono ?_;rintro e w4 ⟨u,rfl,h4⟩;have HTx:=lh (text_row h4.out.1 (Ext.refl w4) (by decide) (by decide) (show digS [0,2]=⟨#[48,50]⟩ from rfl));have HT4:=lh (HT3.out.ext h4.out.2);clear h4 HA;go_wp2_with fail;refine HTx.out.mono ?_;rintro e w5 ⟨rfl,x5⟩;have HT5:=lh (HT4.out.ext x5);have hD:=tdone_many HT5.out tmpW_some;rw [gl_len,show (wantedR gL).hs=hashesL gL from rfl,g_done0] at hD;have HD:=lh hD;clear x5 hD HTx;go_wp2_with fail;refine HD.out.mono ?_;rintro e w6 ⟨rfl,x6⟩;have HT6:=lh (HT5.out.ext x6);have HTm:=lh (times_any 120 16 w6 (by decide));clear x6 HD;go_wp2_with fail;refine HTm.out.mono ?_;rintro e w7 ⟨rfl,x7⟩;have HT7:=lh (HT6.out.ext x7);obtain ⟨cv,w8,hcv,hbo,x8⟩:=conv_bytes (repS 120 16) w7 (by rw [repS_size];decide);rw [repS_list] at hbo;have HT8:=lh (HT7.out.ext x8);have HP:=lh (tput_many HT8.out (HT.out.ext HT8.out.is_ext) tmpW_some 1 (by decide) x16 cv hbo g_right1);clear x7 x8 hbo HTm;go_wp2_with fail;refine HP.out.mono ?_;rintro e w9 ⟨rfl,h9⟩;have HT9:=lh (show Things w w9 ([.disk d kF]++dr p gL g1::[]) from h9);have hA:=thave_many HT9.out tmpW_some;rw [gl_len,g_have1] at hA;have HA:=lh hA;clear h9 hcv hA HP;go_wp2_with fail;refine HA.out.mono ?_;rintro e w10 ⟨u,rfl,h4⟩;have HTx:=lh (text_row h4.out.1 (Ext.refl w10) (by decide) (by decide) (show digS [0,1]=⟨#[48,49]⟩ from rfl));have HT10:=lh (HT9.out.ext h4.out.2);clear h4 HA;go_wp2_with fail;refine HTx.out.mono ?_;rintro e w11 ⟨rfl,x5⟩;have HT11:=lh (HT10.out.ext x5);have hA:=tasked_many HT11.out tmpW_some;rw [gl_len,show (wantedR gL).hs=hashesL gL from rfl,g_ask1] at hA;have HA:=lh hA;clear x5 HTx hA;go_wp2_with fail;refine HA.out.mono ?_;rintro e w12 ⟨u,rfl,h4⟩;have HTx:=lh (text_row h4.out.1 (Ext.refl w12) (by decide) (by decide) (show digS [2]=⟨#[50]⟩ from rfl));have HT12:=lh (HT11.out.ext h4.out.2);clear h4 HA;go_wp2_with fail;refine HTx.out.mono ?_;rintro e w13 ⟨rfl,x5⟩;have HT13:=lh (HT12.out.ext x5);clear x5 HTx;go_wp2_with fail;go_ret;exact ⟨rfl,HT13.out.is_ext⟩
end
section
open Go.RowKit
theorem bytesOff_in {w:World} {v:Value} {l:List UInt8} (h:BytesIn w v l):BytesOff w.heap.size w v l:=by
 obtain ⟨a,cap,rfl,h1,h2,h3,h4⟩:=h;refine ⟨a,cap,rfl,h1,h2,fun hp=>?_⟩;obtain ⟨g,o,rfl,hc⟩:=h4 0 _ (List.getElem?_eq_getElem hp);have hlt:=lt_of_cell hc;refine ⟨g,o,rfl,by omega,hlt,fun j x hj=>?_⟩;obtain ⟨g',o',e,hc'⟩:=h4 j x hj
 cases e
 exact hc'
end
section
open Go.RowKit
theorem Things.opened_with {w0 w:World} {A B:List Thing} {t s:Thing} (h:Things w0 w (A++t::B)) (hs:s∈A++B) :
  ∃ M I M2 I2,ThAt w M I t/\ThAt w M2 I2 s/\Apart M I M2 I2/\∀ w' M' I' t',ThAt w' M' I' t'->DkStep w M I w' M' I'->Things w0 w' (A++t'::B):=by
 obtain ⟨x,X,hX,hall,hp⟩:=h;obtain ⟨XA,XR,rfl,rfl,hR⟩:=List.map_eq_append_iff.1 hX;obtain ⟨y,XB,rfl,rfl,rfl⟩:=List.map_eq_cons_iff.1 hR;obtain ⟨t0,M,I⟩:=y;have hT:Things w0 w (XA.map (·.1)++t0::XB.map (·.1)):=⟨x,XA++(t0,M,I)::XB,by simp,hall,hp⟩;have hy:=hall (t0,M,I) (by simp);obtain ⟨pA,pR,pAR⟩:=List.pairwise_append.1 hp;obtain ⟨pB1,pB⟩:=List.pairwise_cons.1 pR;have hA:∀ z∈XA,Apart M I z.2.1 z.2.2:=fun z hz=>(pAR z hz _ List.mem_cons_self).symm;have hB:∀ z∈XB,Apart M I z.2.1 z.2.2:=fun z hz=>pB1 z hz;have hzl:∀ z,z∈XA\/z∈XB->ThAt w z.2.1 z.2.2 z.1/\∀ b∈z.2.1,w0.heap.size<=b:=fun z hz=>hall z (by rcases hz with hz | hz <;> simp [hz])
 obtain ⟨z,hz,e⟩:∃ z,(z∈XA\/z∈XB)/\z.1=s:=by
  rcases List.mem_append.1 hs with hs | hs
  ·obtain ⟨z,hz,e⟩:=List.mem_map.1 hs;exact ⟨z,.inl hz,e⟩
  ·obtain ⟨z,hz,e⟩:=List.mem_map.1 hs;exact ⟨z,.inr hz,e⟩
 refine ⟨M,I,z.2.1,z.2.2,hy.1,e▸(hzl z hz).1,hz.elim (hA z) (hB z),fun w' M' I' t' h' k=>?_⟩;have hxe:=k.ext x hy.2;refine ⟨hxe.1,XA++(t',M',I')::XB,by simp,fun z hz=>?_,?_⟩
 ·rcases List.mem_append.1 hz with hz | hz
  ·exact ⟨(hzl z (.inl hz)).1.step k (hA z hz),(hzl z (.inl hz)).2⟩
  ·rcases List.mem_cons.1 hz with rfl | hz
   ·exact ⟨h',hxe.2⟩
   ·exact ⟨(hzl z (.inr hz)).1.step k (hB z hz),(hzl z (.inr hz)).2⟩
 ·have st:∀ z,z∈XA\/z∈XB->Apart M I z.2.1 z.2.2->Apart M' I' z.2.1 z.2.2:=fun z hz ha=>ha.step k (hzl z hz).1.lt.1 (hzl z hz).1.lt.2;refine List.pairwise_append.2 ⟨pA,List.pairwise_cons.2 ⟨fun z hz=>st z (.inr hz) (hB z hz),pB⟩,fun z hz y hy=>?_⟩;rcases List.mem_cons.1 hy with rfl | hy
  ·exact (st z (.inl hz) (hA z hz)).symm
  ·exact pAR z hz y (List.mem_cons_of_mem _ hy)
theorem tsave_at {w0 w:World} {A B:List Thing} {p:Nat} {r:RecS} {N:Nat} {name:ByteArray} {ps:List (Option (List UInt8))} {d:Nat} {K K':Dk} {c:Int} (h:Things w0 w (A++.disk d K::B)) (hm:Thing.draft p r N name ps∈A++B) (E:Env w) (hnm:name.toList.isEmpty=false) (ho:PsOk N r.hs ps) (hnz:name.size<4294967281) (O:DkFit K) (hR:K.act (.write name (bytesB (farL N ps)) r.time)=(c,K')) :
  Calls prog 18 #[.pointer (some ⟨p,0,none⟩),.pointer (some ⟨d,0,none⟩)] w fun e w'=>e=.returned (.int .i64 c)/\Things w0 w' (A++.disk d K'::B):=by
 obtain ⟨M,I,M2,I2,h1,⟨g,D,cs,bl,rfl,h2⟩,hA,h3⟩:=h.opened_with hm;refine (save_any w E p g D cs bl I2 r N name ps h2 hnm ho hnz d M I K h1 O (fun hm=>hA.mi p hm h2.self)).mono ?_;rw [hR];rintro e w' ⟨he,M',I',h4,h5⟩;exact ⟨he,h3 w' M' I' (.disk d K') h4 h5⟩
theorem yieldsIf_load_atw {P:Program} {ops:Array Oper} {S:World->Prop} {o:Oper} {a:Act} (hw:Region.wanted o (yielded ops a.tmps)=true) (ty:TypeId) (x:Operand) (ho:o.op=.load ty x) (b off:Nat) (hx:a.eval x=.pointer (some ⟨b,off,none⟩)) (cs:Array Value) (d:TypeDesc)
  (hc:∀ w,S w->w.rangeAt b off cs.toList) (hu:P.underlying ty=some d) (hd:d.isRow=true) (hi:(P.info? ty).map (·.size)=some cs.size):YieldsIf P ops S o (.agg cs) a :=
 .inl ⟨hw,fun w hw=>by
  unfold execOp
  simp only [ho,hx,Instr.loadAt,Instr.sureAddr,Sem.run_bind,Sem.run_pure,Result.andThen_ok,run_loadVar_mid w b off ty cs.toList d (hc w hw) hu hd (by rw [hi];simp)]⟩
end
section
open Go.RowKit
def NoDr (w:World) (pa:Option Addr):Prop:=∀ w',Ext w w'->Calls prog 79 #[.pointer pa] w' fun e w''=>e=.returned (.bool false)/\w''=w'
section
variable {w:World} {pa:Option Addr} (h:NoDr w pa)
include h
end
section
variable {w0 w:World} {A B:List Thing} {p:Nat} {r:RecS} {N:Nat} {name:ByteArray} {ps:List (Option (List UInt8))} (h:Things w0 w (A++.draft p r N name ps::B)) (hnm:name.toList.isEmpty=false)
include h hnm
set_option maxRecDepth 100000 in
theorem name_many:Calls prog 70 #[.pointer (some ⟨p,0,none⟩)] w fun e w'=>e=.returned (.string name)/\w'=w:=draft_ext h fun g D cs bl I hd=>by
 have HI:=lh (tis_any w p D _ _ name hd.blk hd.c27);rw [hnm] at HI;have k27:=(cellB (k:=27) hd.blk).trans hd.c27;clear h hd;go_enter func70,ntmps70;go_wp2_with fail;refine HI.out.mono ?_;rintro e w1 ⟨rfl,hw⟩;obtain rfl:=hw.symm;clear hw;go_wp2_with fail;go_ret;exact ⟨rfl,rfl⟩
end
section
variable {P:Program} {ops:Array Oper} {Q:Exit->Act->World->Prop} {md:Region.Mode} {S:World->Prop} {o:Oper} {a:Act}
theorem wpAnyH_one_g {i:Nat} {v:Value} {fuel:Nat} {listed:Array Bool} {w w':World} {rest:List Oper} (hr:Region.ready md ops listed=[i]) (hi:ops.toList.drop i=o::rest) (hw:Region.wanted o (yielded ops a.tmps)=true) (hrun:(execOp a.eval o).run P w=.ok (.value v) w') (hS:S w')
  (h:wpAnyH P md ops Q S fuel (listed.setIfInBounds i true) (a.put o.dst v) w'):wpAnyH P md ops Q S (fuel+1) listed a w :=
 wpAnyH_all hr (by simp) fun j hj=>by
  obtain rfl:=List.mem_singleton.1 hj;unfold wpOp;simp only [ops_get hi];rw [if_pos hw];left;unfold Oper.wp;rw [hrun];exact ⟨hS,h⟩
theorem wpAnyH_call_g {i:Nat} {F:FuncId} {args:Array Value} {fuel:Nat} {listed:Array Bool} {w:World} {rest:List Oper} (hr:Region.ready md ops listed=[i]) (hi:ops.toList.drop i=o::rest) (hw:Region.wanted o (yielded ops a.tmps)=true) (hrun:(execOp a.eval o).run P w=.ok (.enter F args) w)
  (h:Calls P F args w fun e w'=>∃ v,e=.returned v/\S w'/\wpAnyH P md ops Q S fuel (listed.setIfInBounds i true) (a.put o.dst v) w'):wpAnyH P md ops Q S (fuel+1) listed a w :=
 wpAnyH_all hr (by simp) fun j hj=>by
  obtain rfl:=List.mem_singleton.1 hj;unfold wpOp;simp only [ops_get hi];rw [if_pos hw];left;unfold Oper.wp;rw [hrun];refine h.mono ?_;rintro e w' ⟨v,rfl,hS,hh⟩;exact ⟨hS,hh⟩
end
def y8:List UInt8:=List.replicate 8 121
def y7:List UInt8:=List.replicate 7 121
def g2:List (Option (List UInt8)):=fillP 40 (hashesL gL) 2 y8 g1
theorem tdrop_at {w0 w:World} {A B:List Thing} {p:Nat} {r:RecS} {N:Nat} {name:ByteArray} {ps:List (Option (List UInt8))} {d:Nat} {K K':Dk} {c:Int} (h:Things w0 w (A++.disk d K::B)) (hm:Thing.draft p r N name ps∈A++B) (E:Env w) (hnm:name.toList.isEmpty=false) (hnz:name.size<4294967281) (O:DkFit K) (hR:dropR K name=(c,K')) :
  Calls prog 48 #[.pointer (some ⟨p,0,none⟩),.pointer (some ⟨d,0,none⟩)] w fun e w'=>e=.returned (.int .i64 c)/\Things w0 w' (A++.disk d K'::B):=by
 obtain ⟨M,I,M2,I2,h1,⟨g,D,cs,bl,rfl,h2⟩,hA,h3⟩:=h.opened_with hm;refine (drop_any w E p D _ name h2.blk h2.c27 hnm hnz d M I K h1 O).mono ?_;rw [hR];rintro e w' ⟨he,M',I',h4,h5⟩;exact ⟨he,h3 w' M' I' (.disk d K') h4 h5⟩
end
end Go.Proofs.YtldppmjjgljinaaGreatDoor
