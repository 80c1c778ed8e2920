import Derived.Test.YtldppmjjgljinaaGreatDoorTpB2
import Derived.Test.YtldppmjjgljinaaGreatDoorTpC3
import Derived.Test.YtldppmjjgljinaaGreatDoorTpB1
import Derived.Test.YtldppmjjgljinaaGreatDoorTpA1
import Derived.Test.YtldppmjjgljinaaGreatDoorShelf
import Derived.Test.YtldppmjjgljinaaGreatDoorTpA2
import Derived.Laws.AppendOwnNone
import Derived.Deep.RegionHeldLaw
open Go.Proofs.Tryz
namespace Go.Proofs.YtldppmjjgljinaaGreatDoor
open Go.RowKit
section
open Go.RowKit Go.Shelf
attribute [local go_sem] Oper.semAt_some
structure RF where
 nm:ByteArray
 d:List UInt8
 vd:Value
 vl:Value
def rfC (x:RF):List Value:=[.string x.nm,x.vd,x.vl]
def rfV (l:List RF):List Value:=l.flatMap rfC
theorem rfV_app (a b:List RF):rfV (a++b)=rfV a++rfV b:=by simp [rfV]
theorem rfV_get:∀ (l:List RF) (k j:Nat) (x:RF),l[k]?=some x->j<3->(rfV l)[k*3+j]?=(rfC x)[j]?
 | [],k,j,x,h,_=>by simp at h
 | y::r,0,j,x,h,hj=>by
  simp at h;subst h;rw [rfV,List.flatMap_cons,List.getElem?_append_left (by simp [rfC];omega)];simp
 | y::r,k+1,j,x,h,hj=>by
  rw [rfV,List.flatMap_cons,List.getElem?_append_right (by simp [rfC,Nat.succ_mul];omega),show (k+1)*3+j - (rfC y).length=k*3+j from by simp [rfC,Nat.succ_mul];omega];exact rfV_get r k j x (by simpa using h) hj
structure FileV (w:World) (x:RF):Prop where
 len:x.d.length<=4096
 dat:w.ownsRow 0 5 1 x.vd x.d.length (x.d.map bv)
 lst:w.ownsRow 0 45 32 x.vl (countN x.d.length) (hrow (hashesL x.d))
theorem FileV.ext {w w':World} {x:RF} (h:FileV w x) (k:Ext w w'):FileV w' x:=⟨h.len,owns_ext h.dat k,owns_ext h.lst k⟩
theorem FileV.kept {w w':World} {x:RF} (h:FileV w x) (k:∀ b,x.vd.ownBlock=some b\/x.vl.ownBlock=some b->w'.heap[b]?=w.heap[b]?):FileV w' x :=
 ⟨h.len,owns_blocks h.dat fun b hb=>k b (.inl hb),owns_blocks h.lst fun b hb=>k b (.inr hb)⟩
theorem FileV.one {w:World} {x:RF} (h:FileV w x):∀ u∈rfC x,u.oneCell'=true:=by
 obtain ⟨a,c,e⟩:=rowk_shape h.dat;obtain ⟨a2,c2,e2⟩:=rowk_shape h.lst;intro u hu;simp only [rfC,List.mem_cons,List.not_mem_nil,or_false] at hu;rcases hu with rfl | rfl | rfl
 ·rfl
 ·rw [e];rfl
 ·rw [e2];rfl
theorem elRF:ElemK prog 177 232 (.agg #[.string ⟨#[]⟩,.slice none 0 0,.slice none 0 0]) 3 64:=⟨by kernel_rfl,by kernel_rfl,rfl,by decide,by decide⟩
structure RFinIn (w:World) (g:Nat) (v:Value) (X:List RF) (I:List Nat):Prop where
 blk:w.heap[g]?=some (.cells #[v] 179 (0,0))
 row:w.ownsRow 0 232 3 v X.length (rfV X)
 fil:∀ x∈X,FileV w x
 vI:∀ b,v.ownBlock=some b->b∈I
 fI:∀ x∈X,∀ b,x.vd.ownBlock=some b\/x.vl.ownBlock=some b->b∈I
 gI:g∉I
 lt:∀ b∈I,b<w.heap.size
theorem RFinIn.kept {w w':World} {g:Nat} {v:Value} {X:List RF} {I:List Nat} (h:RFinIn w g v X I) (hs:w.heap.size<=w'.heap.size) (k:∀ b,b<w.heap.size->b∈[g]\/b∈I->w'.heap[b]?=w.heap[b]?):RFinIn w' g v X I:=by
 have kI:∀ b,b∈I->w'.heap[b]?=w.heap[b]?:=fun b hb=>k b (h.lt b hb) (.inr hb);exact ⟨(k g (ltB h.blk) (.inl (by simp))).trans h.blk,owns_blocks h.row fun b hb=>kI b (h.vI b hb),fun x hx=>(h.fil x hx).kept fun b hb=>kI b (h.fI x hx b hb),h.vI,h.fI,h.gI,fun b hb=>Nat.lt_of_lt_of_le (h.lt b hb) hs⟩
theorem RFinIn.ext {w w':World} {g:Nat} {v:Value} {X:List RF} {I:List Nat} (h:RFinIn w g v X I) (x:Ext w w'):RFinIn w' g v X I:=h.kept x.size fun _ hb _=>x.block hb
theorem RFinIn.turn {w w1 w2:World} {g:Nat} {v v':Value} {X X':List RF} {I J:List Nat} (h:RFinIn w g v X I) (x:Ext w w1) (ht:Touch g w1 w2) (hb:w2.heap[g]?=some (.cells #[v'] 179 (0,0)))
  (ho:w1.ownsRow w.heap.size 232 3 v' X'.length (rfV X')) (hJ:∀ b∈J,b≠g/\b<w1.heap.size)
  (hX:∀ y∈X',y∈X\/(FileV w1 y/\∀ b,y.vd.ownBlock=some b\/y.vl.ownBlock=some b->b∈J)) :
  RFinIn w2 g v' X' (I++J++rowB v'):=by
 have hg:=ltB h.blk;have k12:∀ b,b<w1.heap.size->b≠g->w2.heap[b]?=w1.heap[b]?:=fun b h1 h2=>ht.block b h1 fun e=>h2 (Option.some.inj e);refine ⟨hb,owns_low (owns_blocks ho fun b hbb=>k12 b (own_lt ho b hbb) (by have:=own_ge ho b hbb;omega)) (Nat.zero_le _),fun y hy=>?_,fun b hbb=>List.mem_append_right _ (mem_rowB.2 hbb),fun y hy b hbb=>?_,fun hgI=>?_,fun b hbI=>?_⟩
 ·rcases hX y hy with h1 | ⟨h1,h2⟩
  ·refine ((h.fil y h1).ext x).kept fun b hbb=>k12 b (Nat.lt_of_lt_of_le (h.lt b (h.fI y h1 b hbb)) x.size) (fun e=>h.gI (e▸h.fI y h1 b hbb))
  ·refine h1.kept fun b hbb=>?_;have:=hJ b (h2 b hbb);exact k12 b this.2 this.1
 ·rcases hX y hy with h1 | ⟨_,h2⟩
  ·exact List.mem_append_left _ (List.mem_append_left _ (h.fI y h1 b hbb))
  ·exact List.mem_append_left _ (List.mem_append_right _ (h2 b hbb))
 ·rcases List.mem_append.1 hgI with h1 | h1
  ·rcases List.mem_append.1 h1 with h1 | h1
   ·exact h.gI h1
   ·exact (hJ g h1).1 rfl
  ·have:=own_ge ho g (mem_rowB.1 h1);omega
 ·refine Nat.lt_of_lt_of_le ?_ ht.size;rcases List.mem_append.1 hbI with h1 | h1
  ·rcases List.mem_append.1 h1 with h1 | h1
   ·exact Nat.lt_of_lt_of_le (h.lt b h1) x.size
   ·exact (hJ b h1).2
  ·exact own_lt ho b (mem_rowB.1 h1)
theorem chg_touch {g:Nat} {w w1 w2:World} (x:Ext w w1) (ht:Touch g w1 w2):Chg [g] w w2 :=
 (x.chg [g]).trans ⟨ht.os,ht.tape,ht.output,ht.size,fun b h1 h2=>ht.block b h1 fun e=>(by simp at h2;exact h2 (Option.some.inj e))⟩ (fun _ hy=>.inl hy)
def restF (nm:ByteArray) (X:List RF):List RF:=X.filter fun x=>!(x.nm.toList==nm.toList)
theorem restF_snoc (nm:ByteArray) {X:List RF} {k:Nat} {x:RF} (h:X[k]?=some x):restF nm (X.take (k+1))=restF nm (X.take k)++(if x.nm.toList==nm.toList then [] else [x]):=by
 unfold restF;rw [List.take_add_one,h,List.filter_append]
 congr 1
 cases hb:(x.nm.toList==nm.toList) <;> simp [hb]
set_option maxRecDepth 100000 in
set_option maxHeartbeats 2000000 in
theorem rforget {w:World} {g:Nat} {v:Value} {X:List RF} {I:List Nat} (h:RFinIn w g v X I) (nm:ByteArray) (hn:X.length<=1000) :
  Calls prog 173 #[.pointer (some ⟨g,0,none⟩),.string nm] w fun e w'=>∃ b v' I',e=.returned (.bool b)/\Hid (RFinIn w' g v' (restF nm X) I'/\DkStep w [g] I w' [g] I'):=by
 have HR:=lh h;have k0:w.cell? ⟨g,0,none⟩=some v:=cellB h.blk;obtain ⟨va,vc,rfl,_,_,_,hcells⟩:=row_cells h.row
 have HC:=lh (fun w' (x:Ext w w')=>show ∀ (k j:Nat) y,j<3->X[k]?=some y->∀ u,(rfC y)[j]?=some u->∃ ga,va=some ⟨ga,0,none⟩/\w'.cell? ⟨ga,k*3+j,none⟩=some u from fun k j y hj hy u hu=>by
  obtain ⟨ga,e,_,_,hc⟩:=hcells (k*3+j) u ((rfV_get X k j y hy hj).trans hu)
  exact ⟨ga,e,(x.cell (lt_of_cell hc)).trans hc⟩)
 have HO:=lh (fun y (hy:y∈X)=>(h.fil y hy).one);obtain ⟨n,hnn⟩:∃ n,n=X.length:=⟨_,rfl⟩;have HN:=lh hnn;have HIf:=lh (show (prog.info? 232).map (·.size)=some 3 from by kernel_rfl);rw [<-hnn] at hn k0;clear h hnn hcells;go_enter func173,ntmps173;go_wp2;go_loopw [5,6,7] (fun lv bv iv wr=>Hid (∃ (k:Nat) (b:Bool),k<=n/\bv=.bool b/\iv=.int .i64 k/\wr.ownsRow w.heap.size 232 3 lv (restF nm (X.take k)).length (rfV (restF nm (X.take k)))/\Ext w wr)) (fun _ _ iv _=>n - (intOf iv).toNat)
 case atStart=>exact ⟨0,false,Nat.zero_le _,rfl,rfl,World.ownsRow_nil _ _ _ _,Ext.refl _⟩
 case round =>
  obtain ⟨k,b,hk,rfl,rfl,ho,hx⟩:=hrel.out;clear hrel;have HOw:=lh ho;have HX:=lh hx;have kr:wr.cell? ⟨g,0,none⟩=some (.slice va n vc):=(hx.cell (lt_of_cell k0)).trans k0;obtain ⟨la,lc,rfl⟩:=rowk_shape ho;clear ho hx;by_cases hlt:k<n
  ·obtain ⟨y,hy⟩:∃ y,X[k]?=some y:=⟨_,List.getElem?_eq_getElem (by have:=HN.out;omega)⟩;obtain ⟨ga,rfl,hc0⟩:=HC.out wr HX.out k 0 y (by decide) hy (.string y.nm) rfl;have c0:wr.cell? ⟨ga,k*3,none⟩=some (.string y.nm):=hc0;have HT:=lh (restF_snoc nm hy)
   have HRg:=lh (show wr.rangeAt ga (k*3) (rfC y).toArray.toList from fun j u hj=>by
    have hj3:j<3:=by have:=(List.getElem?_eq_some_iff.1 hj).1;simpa [rfC] using this
    obtain ⟨ga',e,hc⟩:=HC.out wr HX.out k j y hj3 hy u (by simpa using hj)
    cases e
    exact hc)
   have HOy:=lh (HO.out y (List.mem_of_getElem? hy));have hlen:(restF nm (X.take k)).length<=k:=Nat.le_trans (List.length_filter_le _ _) (List.length_take_le _ _);generalize restF nm (X.take k)=L at *;generalize hL:L.length=m at *
   cases hb:(y.nm.toList==nm.toList) with
   | true =>
    have HT2:=lh (show restF nm (X.take (k+1))=L from by rw [HT.out,hb];simp);go_wp2;go_roundw
    case rel=>exact ⟨k+1,true,by omega,by go_num,by go_num,by rw [HT2.out,hL];exact HOw.out,HX.out⟩
    case measure=>simp [intOf] <;> omega
   | false =>
    have HT2:=lh (show restF nm (X.take (k+1))=L++[y] from by rw [HT.out,hb];simp);have HB:=lh (block_alloc_new wr (.cells (rfC y).toArray 232 (0,0)));have HLm:=lh hL;clear hL hy
    go_wp2_with (first
     | (refine wpList_load_at rfl 232 _ rfl ga (k*3) rfl (rfC y).toArray _ HRg.out underlying232 rfl HIf.out ?_;go_frame)
     | (refine wpList_buildOne elRF (by decide) rfl _ rfl (rfC y).toArray rfl rfl ?_;go_frame)
     | (at_builtin;refine append_k elRF w.heap.size _ _ _ (owns_ext HOw.out ((Ext.refl wr).alloc (.cells (rfC y).toArray 232 (0,0)))) wr.heap.size (rfC y) rfl (.tmp 27) (.tmp 35) rfl rfl rfl rfl (fun j u hj=>(cellB HB.out).trans (by simpa using hj)) HOy.out (by omega) ?c2 ?_))
    case c2=>exact Nat.le_trans HX.out.size (by simp)
    intro v' w4 hown4 hg4 hrow4;have HO4:=lh hown4;have HX4:=lh (grown_extB (HX.out.alloc _) (Nat.le_refl _) (owns_ext HOw.out ((Ext.refl wr).alloc (.cells (rfC y).toArray 232 (0,0)))) hg4);clear hown4 hg4 hrow4;go_wp2_with fail;go_roundw
    case rel=>exact ⟨k+1,b,by omega,by go_num,by go_num,by rw [HT2.out,rfV_app,List.length_append,HLm.out];exact HO4.out,HX4.out⟩
    case measure=>simp [intOf] <;> omega
  ·obtain rfl:k=n:=by omega
   have HTe:=lh (show restF nm (X.take k)=restF nm X from by rw [HN.out,List.take_length]);have HBg:=lh ((HX.out.block (ltB HR.out.blk)).trans HR.out.blk);have HI0:=lh (show (prog.info? 177).map (·.size)=some 1 from by kernel_rfl);generalize hm:(restF nm (X.take k)).length=m at *;have HM:=lh hm;clear hm;go_wp2_with (refine wpList_storeB rfl _ _ _ rfl g (.slice la m lc) _ rfl rfl HI0.out rfl _ HBg.out ?_;intro w9 hb9 ht9;have HB9:=lh hb9;have HT9:=lh ht9;clear hb9 ht9;go_frame);go_ret
   have h1:=HR.out.turn (J:=[]) (X':=restF nm X) HX.out HT9.out HB9.out (by
    have:=HOw.out;rw [HTe.out] at this;rw [show (restF nm X).length=m from by rw [<-HTe.out];exact HM.out]
    exact this) (fun b hb=>by cases hb) (fun y hy=>.inl (List.mem_filter.1 hy).1)
   exact ⟨_,_,_,rfl,h1,chg_touch HX.out HT9.out,Sub.refl _ _,fun b hb=>by
    rcases List.mem_append.1 hb with hb | hb
    ·exact .inl (by simpa using hb)
    ·exact .inr (own_ge HOw.out b (mem_rowB.1 hb))⟩
end
section
def primeAux:Nat->Nat->Nat->Bool
 | 0,_,_=>true
 | f+1,d,n=>if d*d<=n then (if n % d=0 then false else primeAux f (d+1) n) else true
def primeN (n:Nat):Bool:=primeAux 100 2 n&&decide (1<n)
set_option maxHeartbeats 1000000 in
set_option maxRecDepth 100000 in
theorem rprime_any (n:Nat) (hn:n<=400) (w:World) :
  Calls prog 251 #[.int .u64 n] w fun e w'=>e=.returned (.bool (primeN n))/\w'=w:=by
 unfold primeN;obtain ⟨B,hB⟩:∃ B,B=primeAux 100 2 n:=⟨_,rfl⟩;have HB:=lh hB;rw [<-hB];clear hB;go_enter func251,ntmps251;go_wp2_with fail;go_loopw [3] (fun d wr=>Hid (∃ k f:Nat,d=.int .u64 k/\2<=k/\k<=21/\f+k=102/\B=primeAux f k n/\wr=w)) (fun d _=>100 - (intOf d).toNat)
 case atStart=>exact ⟨2,100,rfl,by omega,by omega,by omega,HB.out,rfl⟩
 case round =>
  obtain ⟨k,f,rfl,h2,h21,hf,hB,rfl⟩:=hrel.out;clear hrel HB;obtain ⟨f,rfl⟩:∃ g,f=g+1:=⟨f - 1,by omega⟩;have hq:k*k<=21*21:=Nat.mul_le_mul h21 h21;rw [primeAux] at hB;obtain ⟨q,hq'⟩:∃ q,q=k*k:=⟨_,rfl⟩;have hm:IntKind.u64.wrap ((k:Int)*(k:Int))=(q:Int):=by rw [IntKind.wrap_u64,hq',<-Int.natCast_mul];omega
  have hle:k*k<=n->k+1<=21:=fun h=>by
   rcases Nat.lt_or_ge k 21 with h1 | h1
   ·omega
   ·have:=Nat.mul_le_mul h1 h1;omega
  rw [<-hq'] at hq hB hle;by_cases hlt:q<=n
  ·rw [if_pos hlt] at hB;have hle:=hle hlt;by_cases hz:n % k=0
   ·rw [if_pos hz] at hB;go_wp2_with fail;go_ret;exact ⟨by rw [hB];rfl,rfl⟩
   ·rw [if_neg hz] at hB;have HB:=lh hB;clear hB;go_wp2_with fail;go_roundw
    case rel=>exact ⟨k+1,f,by go_num,by omega,hle,by omega,HB.out,trivial⟩
    case measure=>simp [intOf];omega
  ·rw [if_neg hlt] at hB;subst hB;go_wp2_with fail;go_ret;exact ⟨by simp;omega,rfl⟩
theorem rturned_any (x:Wd) (n:Nat) (hn:1<=n) (h2:n<=31) (w:World) :
  Calls prog 217 #[.int .u32 x.toNat,.int .i64 n] w fun e w'=>e=.returned (.int .u32 (rotr x n).toNat)/\w'=w:=by
 go_enter func217,ntmps217
 have HR:=lh ((show bits .or .u32 ((x.toNat:Int) / 2 ^ n) ((x.toNat:Int)*2 ^ (32 - n) % 4294967296)=((rotr x n).toNat:Int) from by
  have e1:=wd_shr x n;have e2:=wd_shl x (32 - n);rw [Int.natCast_pow] at e1 e2;rw [show ((2:Nat):Int)=2 from rfl] at e1 e2
  rw [e1,e2,wd_or];rfl))
 go_wp2_with fail;go_ret;exact ⟨ret_int HR.out,rfl⟩
theorem rdigit_any (n:Nat) (hn:n<16) (w:World) :
  Calls prog 218 #[.int .u8 n] w fun e w'=>e=.returned (.int .u8 (hexD n).toNat)/\w'=w:=by
 have hd:((hexD n).toNat:Int)=if n<10 then 48+(n:Int) else 87+n:=by
  unfold hexD byteOf;split <;> · rw [UInt8.toNat_ofNat'];omega
 have HD:=lh hd;clear hd;by_cases h:n<10
 ·go_enter func218,ntmps218;go_wp2_with fail;go_ret;exact ⟨ret_int (by rw [HD.out,if_pos h]),rfl⟩
 ·go_enter func218,ntmps218;go_wp2_with fail;go_ret;exact ⟨ret_int (by rw [HD.out,if_neg h];omega),rfl⟩
theorem rtimes_any (hi lo x:Nat) (hl:lo<18446744073709551616) (hx:x<18446744073709551616) (hs:lo*x / 18446744073709551616+hi*x<18446744073709551616) (w:World) :
  Calls prog 252 #[.int .u64 hi,.int .u64 lo,.int .u64 x] w fun e w'=>e=.returned (.tuple #[.int .u64 ((lo*x / 18446744073709551616+hi*x:Nat):Int),.int .u64 ((lo*x % 18446744073709551616:Nat):Int)])/\w'=w:=by
 have HC:=lh (Tryz.bits_Mul64 lo x hl hx w);generalize lo*x / 18446744073709551616=a at *;generalize lo*x % 18446744073709551616=b at *;obtain ⟨q,hq⟩:∃ q,q=hi*x:=⟨_,rfl⟩;have hm:(hi:Int)*(x:Int)=(q:Int):=by rw [hq];exact (Int.natCast_mul hi x).symm
 rw [<-hq] at hs ⊢;clear hq;go_enter func252,ntmps252;go_wp2_with fail;refine HC.out.mono ?_;rintro e w1 ⟨rfl,rfl⟩;go_wp2_with fail;go_ret2;exact ⟨rfl,rfl⟩
theorem rabove_0 (hi lo n:Nat) (hh:hi<18446744073709551616) (hl:lo<18446744073709551616) (hn:n<4294967296) (w:World) :
  Calls prog 253 #[.int .u64 hi,.int .u64 lo,.int .u64 n,.int .i64 0] w fun e w'=>e=.returned (.bool (decide (n*18446744073709551616<hi*18446744073709551616+lo)))/\w'=w:=by
 have e:decide (n*18446744073709551616<hi*18446744073709551616+lo)=if n<hi then true else if hi=n then decide (0<lo) else false:=by
  split
  ·simp;omega
  ·split
   ·subst_vars;simp
   ·simp;omega
 rw [e];clear e;by_cases h1:n<hi
 ·rw [if_pos h1];go_enter func253,ntmps253;go_wp2_with fail;go_ret;exact ⟨rfl,rfl⟩
 ·rw [if_neg h1];by_cases h2:hi=n
  ·subst h2;rw [if_pos rfl];go_enter func253,ntmps253;go_wp2_with fail;go_ret;exact ⟨rfl,rfl⟩
  ·rw [if_neg h2];have h3:((hi:Int)==n)=false:=by simp;omega
   go_enter func253,ntmps253;go_wp2_with fail;go_ret;exact ⟨rfl,rfl⟩
theorem rabove_32 (hi lo n:Nat) (hh:hi<18446744073709551616) (hl:lo<18446744073709551616) (hn:n<4294967296) (w:World) :
  Calls prog 253 #[.int .u64 hi,.int .u64 lo,.int .u64 n,.int .i64 32] w fun e w'=>e=.returned (.bool (decide (n*4294967296*18446744073709551616<hi*18446744073709551616+lo)))/\w'=w:=by
 obtain ⟨m,hm⟩:∃ m,m=n*4294967296:=⟨_,rfl⟩;have hm':(n:Int)*4294967296 % 18446744073709551616=(m:Int):=by omega
 have hm2:(n:Int)*4294967296=(m:Int):=by omega
 rw [<-hm];have hm3:m<18446744073709551616:=by omega
 clear hm
 have e:decide (m*18446744073709551616<hi*18446744073709551616+lo)=if m<hi then true else if hi=m then decide (0<lo) else false:=by
  split
  ·simp;omega
  ·split
   ·subst_vars;simp
   ·simp;omega
 rw [e];clear e;by_cases h1:m<hi
 ·rw [if_pos h1];go_enter func253,ntmps253;go_wp2_with fail;go_ret;exact ⟨rfl,rfl⟩
 ·rw [if_neg h1];by_cases h2:hi=m
  ·subst h2;rw [if_pos rfl];go_enter func253,ntmps253;go_wp2_with fail;go_ret;exact ⟨rfl,rfl⟩
  ·rw [if_neg h2];have h3:((hi:Int)==m)=false:=by simp;omega
   go_enter func253,ntmps253;go_wp2_with fail;go_ret;exact ⟨rfl,rfl⟩
end
section
def primesTo (n:Nat):List Nat:=((List.range n).map (·+2)).filter primeN
theorem primesTo_step (n:Nat):primesTo (n+1)=primesTo n++(if primeN (n+2) then [n+2] else []):=by
 unfold primesTo;rw [List.range_succ,List.map_append,List.filter_append];simp only [List.map_cons,List.map_nil];split <;> simp_all
theorem primes_few:∀ n,n<310->(primesTo n).length<64:=by decide +kernel
theorem primes_all:(primesTo 310).length=64:=by decide +kernel
def primes64:List Nat:=primesTo 310
theorem el_u64:Elem prog 257 240 (.int .u64 0) 8:=⟨by kernel_rfl,by kernel_rfl,rfl,by decide⟩
theorem owns_slice {w:World} {base n:Nat} {e:TypeId} {v:Value} {xs:List Value} (h:w.ownsRow base e 1 v n xs):∃ a cap,v=.slice a n cap:=by
 rcases h.2 with ⟨h1,h2⟩ | ⟨g,cap,cur,hv,_⟩
 ·exact ⟨none,0,by rw [h1,h2]⟩
 ·exact ⟨_,cap,hv⟩
def uv (n:Nat):Value:=.int .u64 n
set_option maxHeartbeats 1000000 in
set_option maxRecDepth 100000 in
theorem rprimes_any (w:World) :
  Calls prog 212 #[.int .i64 64] w fun e w'=>∃ v,e=.returned v/\CellsAt w' v (primes64.map uv)/\Ext w w':=by
 have HALL:=lh primes_all;have HFEW:=lh primes_few;have HP:=fun n h w=>lh (rprime_any n h w);go_enter func212,ntmps212;go_wp2_with fail;go_loopw [3,4] (fun v n wr=>Hid (∃ k:Nat,k<=310/\n=.int .u64 (k+2:Nat)/\wr.ownsRow w.heap.size 240 1 v (primesTo k).length ((primesTo k).map uv)/\Ext w wr)) (fun _ n _=>400 - (intOf n).toNat)
 case atStart=>exact ⟨0,by omega,rfl,World.ownsRow_nil _ _ _ _,Ext.refl _⟩
 case round =>
  obtain ⟨k,hk,rfl,ho,hx⟩:=hrel.out;clear hrel;have HX:=lh hx;have HO:=lh ho;obtain ⟨a,cap,rfl⟩:=owns_slice ho;have hge:=own_block_ge ho;have hex:=HX.out.size;by_cases hlt:k<310
  ·have hln:=HFEW.out k hlt;have HS:=lh (primesTo_step k);have HPk:=lh (HP (k+2) (by omega) wr).out;clear ho hx
   cases hp:primeN (k+2)
   ·rw [hp,if_neg (by decide),List.append_nil] at HS;rw [hp] at HPk;clear hp;go_wp2_with fail;refine HPk.out.mono ?_;rintro e w1 ⟨rfl,rfl⟩;go_wp2_with fail;go_roundw
    case rel=>exact ⟨k+1,by omega,by go_num,by rw [HS.out];exact HO.out,HX.out⟩
    case measure=>simp [intOf];omega
   ·rw [hp,if_pos rfl] at HS;rw [hp] at HPk;clear hp;go_wp2_with fail;refine HPk.out.mono ?_;rintro e w1 ⟨rfl,rfl⟩;go_wp2_with (at_builtin;refine append_one el_u64 w.heap.size _ _ _ (HO.out.alloc _) w1.heap.size (uv (k+2)) (.tmp 13) (.tmp 15) rfl rfl rfl rfl ?c1 rfl (by omega) ?c2 ?_)
    case c1=>rw [cell_alloc_new rfl];rfl
    case c2=>simp;omega
    intro v' w2 hown1 hgr1 hv1;go_wp2_with fail;go_roundw
    case rel=>exact ⟨k+1,by omega,by go_num,by rw [HS.out];simpa using hown1,(HX.out.alloc _).grown hgr1 (by simp;omega) hge⟩
    case measure=>simp [intOf];omega
  ·have hk:k=310:=by omega
   subst hk;have hln:=HALL.out;have HC:=lh (CellsAt.of_owns (xs:=(primesTo 310).map uv) (by simpa using ho));rw [hln] at *;clear ho hx;go_wp2_with fail;go_ret;exact ⟨_,rfl,HC.out,HX.out⟩
end
section
def rootN (ok:Nat->Bool):Nat->Nat->Nat
 | 0,r=>r
 | b+1,r=>rootN ok b (if ok (r+2 ^ b) then r+2 ^ b else r)
def okSq (p x:Nat):Bool:=decide (x*x<=p*18446744073709551616)
def okCu (p x:Nat):Bool:=decide (x*x*x<=p*4294967296*18446744073709551616)
def squareN (p:Nat):Nat:=rootN (okSq p) 37 0
def cubeN (p:Nat):Nat:=rootN (okCu p) 36 0
theorem split64 (y:Nat):y / 18446744073709551616*18446744073709551616+y % 18446744073709551616=y:=by omega
set_option maxHeartbeats 1000000 in
set_option maxRecDepth 100000 in
theorem rsquare_any (p:Nat) (hp:p<=400) (w:World) :
  Calls prog 214 #[.int .u64 p] w fun e w'=>e=.returned (.int .u32 (squareN p % 4294967296:Nat))/\w'=w:=by
 obtain ⟨R,hR⟩:∃ R,R=squareN p:=⟨_,rfl⟩;have HR:=lh (show rootN (okSq p) 37 0=R from hR.symm);rw [<-hR];clear hR;have HT:=fun x hl hx hs w=>lh (rtimes_any 0 x x hl hx hs w);have HA:=fun hi lo h1 h2 w=>lh (rabove_0 hi lo p h1 h2 (by omega) w);go_enter func214,ntmps214;go_wp2_with fail;go_loopw [3,4] (fun rv bv wr=>Hid (∃ r b:Nat,b<=37/\rv=.int .u64 r/\bv=.int .i64 ((b:Int) - 1)/\r+2 ^ b<=2 ^ 37/\rootN (okSq p) b r=R/\wr=w)) (fun _ bv _=>(intOf bv+1).toNat)
 case atStart=>exact ⟨0,37,by omega,rfl,rfl,by omega,HR.out,rfl⟩
 case round =>
  obtain ⟨r,b,hb,rfl,rfl,hr,hR,rfl⟩:=hrel.out;clear hrel HR
  match b,hb,hr,hR with
  | 0,_,_,hR =>
   have HR:=lh (show r=R from hR);clear hR;go_wp2_with fail;go_ret;exact ⟨ret_int (by rw [<-HR.out];omega),rfl⟩
  | c+1,hb,hr,hR =>
   rw [rootN] at hR;rw [Nat.pow_succ] at hr;have e1:((c+1:Nat):Int) - 1=(c:Int):=by omega
   rw [e1];clear e1;obtain ⟨q,hq⟩:∃ q,q=2 ^ c:=⟨_,rfl⟩;obtain ⟨x,hx⟩:∃ x,x=r+q:=⟨_,rfl⟩;have HXQ:=lh (show 2 ^ c+r=x from by rw [hx,hq];omega);have HR2:=lh (show x+2 ^ c<=2 ^ 37 from by rw [hx,hq];omega);have HR3:=lh (show r+2 ^ c<=2 ^ 37 from by omega);rw [<-hq] at hr hR;rw [<-hx] at hR;have hq0:0<q:=by rw [hq];exact Nat.two_pow_pos c
   have hxb:x<137438953472:=by omega
   have hs:IntKind.u64.wrap ((2:Int) ^ c)=(q:Int):=by
    rw [show (2:Int) ^ c=((2 ^ c:Nat):Int) from (Int.natCast_pow 2 c).symm,<-hq,IntKind.wrap_u64];omega
   have hs2:IntKind.u64.wrap ((r:Int)+q)=(x:Int):=by rw [IntKind.wrap_u64];omega
   clear hq hx hr;have hxx:x*x<=137438953472*137438953472:=Nat.mul_le_mul (by omega) (by omega);obtain ⟨h1,hh1⟩:∃ h,h=x*x / 18446744073709551616:=⟨_,rfl⟩;obtain ⟨l1,hl1⟩:∃ h,h=x*x % 18446744073709551616:=⟨_,rfl⟩;have HC1:=lh (HT x (by omega) (by omega) (by omega) wr).out;have HC2:=lh (HA h1 l1 (by omega) (by omega) wr).out;rw [<-hh1,<-hl1,Nat.zero_mul,Nat.add_zero] at HC1
   have hdec:decide (p*18446744073709551616<h1*18446744073709551616+l1)=!okSq p x:=by
    rw [hh1,hl1,split64];unfold okSq;rw [<-decide_not,decide_eq_decide];omega
   clear hh1 hl1;have HDEC:=lh hdec;clear hdec
   cases hok:okSq p x
   ·rw [hok] at hR HDEC;rw [if_neg (by decide)] at hR;have HR:=lh hR;clear hR hok;go_wp2_with fail;refine HC1.out.mono ?_;rintro e w1 ⟨rfl,rfl⟩;go_wp2_with fail;refine HC2.out.mono ?_;rintro e w1 ⟨rfl,rfl⟩;rw [HDEC.out];go_wp2_with fail;go_roundw
    case rel=>exact ⟨r,c,by omega,rfl,by go_num,HR3.out,HR.out,trivial⟩
    case measure=>simp [intOf]
   ·rw [hok] at hR HDEC;rw [if_pos rfl] at hR;have HR:=lh hR;clear hR hok;go_wp2_with fail;refine HC1.out.mono ?_;rintro e w1 ⟨rfl,rfl⟩;go_wp2_with fail;refine HC2.out.mono ?_;rintro e w1 ⟨rfl,rfl⟩;rw [HDEC.out];go_wp2_with fail;go_roundw
    case rel=>exact ⟨x,c,by omega,rfl,by go_num,HR2.out,HR.out,trivial⟩
    case measure=>simp [intOf]
set_option maxHeartbeats 1000000 in
set_option maxRecDepth 100000 in
theorem rcube_any (p:Nat) (hp:p<=400) (w:World) :
  Calls prog 213 #[.int .u64 p] w fun e w'=>e=.returned (.int .u32 (cubeN p % 4294967296:Nat))/\w'=w:=by
 obtain ⟨R,hR⟩:∃ R,R=cubeN p:=⟨_,rfl⟩;have HR:=lh (show rootN (okCu p) 36 0=R from hR.symm);rw [<-hR];clear hR;have HT:=fun hi lo x hl hx hs w=>lh (rtimes_any hi lo x hl hx hs w);have HA:=fun hi lo h1 h2 w=>lh (rabove_32 hi lo p h1 h2 (by omega) w);go_enter func213,ntmps213;go_wp2_with fail;go_loopw [3,4] (fun rv bv wr=>Hid (∃ r b:Nat,b<=36/\rv=.int .u64 r/\bv=.int .i64 ((b:Int) - 1)/\r+2 ^ b<=2 ^ 36/\rootN (okCu p) b r=R/\wr=w)) (fun _ bv _=>(intOf bv+1).toNat)
 case atStart=>exact ⟨0,36,by omega,rfl,rfl,by omega,HR.out,rfl⟩
 case round =>
  obtain ⟨r,b,hb,rfl,rfl,hr,hR,rfl⟩:=hrel.out;clear hrel HR
  match b,hb,hr,hR with
  | 0,_,_,hR =>
   have HR:=lh (show r=R from hR);clear hR;go_wp2_with fail;go_ret;exact ⟨ret_int (by rw [<-HR.out];omega),rfl⟩
  | c+1,hb,hr,hR =>
   rw [rootN] at hR;rw [Nat.pow_succ] at hr;have e1:((c+1:Nat):Int) - 1=(c:Int):=by omega
   rw [e1];clear e1;obtain ⟨q,hq⟩:∃ q,q=2 ^ c:=⟨_,rfl⟩;obtain ⟨x,hx⟩:∃ x,x=r+q:=⟨_,rfl⟩;have HXQ:=lh (show 2 ^ c+r=x from by rw [hx,hq];omega);have HR2:=lh (show x+2 ^ c<=2 ^ 36 from by rw [hx,hq];omega);have HR3:=lh (show r+2 ^ c<=2 ^ 36 from by omega);rw [<-hq] at hr hR;rw [<-hx] at hR;have hq0:0<q:=by rw [hq];exact Nat.two_pow_pos c
   have hxb:x<68719476736:=by omega
   have hs:IntKind.u64.wrap ((2:Int) ^ c)=(q:Int):=by
    rw [show (2:Int) ^ c=((2 ^ c:Nat):Int) from (Int.natCast_pow 2 c).symm,<-hq,IntKind.wrap_u64];omega
   have hs2:IntKind.u64.wrap ((r:Int)+q)=(x:Int):=by rw [IntKind.wrap_u64];omega
   clear hq hx hr;have hxx:x*x<=68719476736*68719476736:=Nat.mul_le_mul (by omega) (by omega);have hxxx:x*x*x<=68719476736*68719476736*68719476736:=Nat.mul_le_mul hxx (by omega);obtain ⟨h1,hh1⟩:∃ h,h=x*x / 18446744073709551616:=⟨_,rfl⟩;obtain ⟨l1,hl1⟩:∃ h,h=x*x % 18446744073709551616:=⟨_,rfl⟩;have hlx:l1*x<=18446744073709551615*68719476736:=Nat.mul_le_mul (by omega) (by omega);have hhx:h1*x<=256*68719476736:=Nat.mul_le_mul (by omega) (by omega);obtain ⟨h2,hh2⟩:∃ h,h=l1*x / 18446744073709551616+h1*x:=⟨_,rfl⟩;obtain ⟨l2,hl2⟩:∃ h,h=l1*x % 18446744073709551616:=⟨_,rfl⟩;have HC1:=lh (HT 0 x x (by omega) (by omega) (by omega) wr).out;have HC3:=lh (HT h1 l1 x (by omega) (by omega) (by omega) wr).out;have HC2:=lh (HA h2 l2 (by omega) (by omega) wr).out;rw [<-hh1,<-hl1,Nat.zero_mul,Nat.add_zero] at HC1;rw [<-hh2,<-hl2] at HC3
   have hdec:decide (p*4294967296*18446744073709551616<h2*18446744073709551616+l2)=!okCu p x:=by
    have e:x*x*x=h2*18446744073709551616+l2:=by
     have e1:x*x=h1*18446744073709551616+l1:=by rw [hh1,hl1,split64]
     have e2:(h1*18446744073709551616+l1)*x=h1*x*18446744073709551616+l1*x:=by
      rw [Nat.add_mul,Nat.mul_right_comm]
     rw [e1,e2,hh2,hl2];omega
    unfold okCu;rw [<-e,<-decide_not,decide_eq_decide];omega
   clear hh1 hl1 hh2 hl2 hxxx hlx hhx;have HDEC:=lh hdec;clear hdec
   cases hok:okCu p x
   ·rw [hok] at hR HDEC;rw [if_neg (by decide)] at hR;have HR:=lh hR;clear hR hok;go_wp2_with fail;refine HC1.out.mono ?_;rintro e w1 ⟨rfl,rfl⟩;go_wp2_with fail;refine HC3.out.mono ?_;rintro e w1 ⟨rfl,rfl⟩;go_wp2_with fail;refine HC2.out.mono ?_;rintro e w1 ⟨rfl,rfl⟩;rw [HDEC.out];go_wp2_with fail;go_roundw
    case rel=>exact ⟨r,c,by omega,rfl,by go_num,HR3.out,HR.out,trivial⟩
    case measure=>simp [intOf]
   ·rw [hok] at hR HDEC;rw [if_pos rfl] at hR;have HR:=lh hR;clear hR hok;go_wp2_with fail;refine HC1.out.mono ?_;rintro e w1 ⟨rfl,rfl⟩;go_wp2_with fail;refine HC3.out.mono ?_;rintro e w1 ⟨rfl,rfl⟩;go_wp2_with fail;refine HC2.out.mono ?_;rintro e w1 ⟨rfl,rfl⟩;rw [HDEC.out];go_wp2_with fail;go_roundw
    case rel=>exact ⟨x,c,by omega,rfl,by go_num,HR2.out,HR.out,trivial⟩
    case measure=>simp [intOf]
theorem table_cube:primes64.map (fun p=>cubeN p % 4294967296)=kTab:=by decide +kernel
theorem table_square:(primes64.take 8).map (fun p=>squareN p % 4294967296)=first8.list.map BitVec.toNat:=by decide +kernel
theorem primes_le:∀ p∈primes64,p<=400:=by decide +kernel
end
section
theorem append_lots {P:Program} {ops:Array Oper} {rest:List Oper} {o:Oper} {a:Act} {Q:Exit->Act->World->Prop} {w:World} {t e:TypeId} {z:Value} {bytes:Nat} (el:Elem P t e z bytes)
  (base:Nat) (v:Value) (n:Nat) (xs:List Value) (hown:w.ownsRow base e 1 v n xs) (ad:Option Addr) (m c:Nat) (us:List Value) (s x:Operand)
  (hgd:o.guard=none) (ho:o.op=.call { callee:=.builtin .append,args:=#[s,x],argTypes:=#[t,t] })
  (hs:a.eval s=v) (hx:a.eval x=.slice ad m c) (hl:us.length=m) (hz:ad=none->m=0/\c=0) (hnew:0<m->∃ g k,ad=some ⟨g,k,none⟩/\∀ (j:Nat) u,us[j]?=some u->w.cell? ⟨g,k+j,none⟩=some u) (h1:∀ u∈us,u.oneCell'=true) (hn:n+m<=68719476736) (hbase:base<=w.heap.size)
  (h:∀ v' w',w'.ownsRow base e 1 v' (n+m) (xs++us)->w.grownBy w' v.ownBlock->wpList P ops Q rest (a.put o.dst v') w'):wpList P ops Q (o::rest) a w:=by
 obtain ⟨i,hi,hz0,hsz,hby⟩:=info_parts el.info;have hf:=el.few
 cases ad with
 | none =>
  obtain ⟨rfl,rfl⟩:=hz rfl;have:us=[]:=List.length_eq_zero_iff.1 hl;subst this;refine wpList_append_own_none hgd s x t ho base e i 1 el.ut hi v n xs hs hown hx ?_;exact h v w (by simpa using hown) ⟨rfl,rfl,rfl,Nat.le_refl _,fun _ _ _=>rfl⟩
 | some A =>
  refine wpList_append_own w hgd s x t ho base e i z 1 bytes el.ut hi hz0 hsz hby el.one (by decide) v n xs hs hown A m c us hx (by omega) ?_ h1 ?_ ?_ hbase ?_
  ·intro j u hj;obtain ⟨g,k,e1,e2⟩:=hnew (by have:=(List.getElem?_eq_some_iff.1 hj).1;omega);injection e1 with e1
   subst e1
   rw [show (⟨g,k,none⟩:Addr).add j=⟨g,k+j,none⟩ from by
    unfold Addr.add;split
    ·rename_i h;subst h;rfl
    ·rfl]
   exact e2 j u hj
  ·unfold maxLen;omega
  ·have:(n+m)*bytes<=(n+m)*1024:=Nat.mul_le_mul_left _ hf;omega
  ·intro v' w' h2 h3 _;exact h v' w' h2 h3
theorem byte_at (n c:Nat) (x:UInt8) (h:(be8 n)[7 - c]?=some x) (hc:c<=7):((n:Int) / 2 ^ (8*c)) % 256=(x.toNat:Int):=by
 rw [be8_at n (7 - c) (by omega),show 56 - 8*(7 - c)=8*c from by omega] at h;injection h with h
 subst h;unfold byteOf;rw [UInt8.toNat_ofNat',show (2:Int) ^ (8*c)=((2 ^ (8*c):Nat):Int) from (Int.natCast_pow 2 (8*c)).symm];generalize 2 ^ (8*c)=d;rw [<-Int.natCast_ediv];omega
set_option maxHeartbeats 1000000 in
set_option maxRecDepth 100000 in
theorem rpadded_any (b:List UInt8) (v:Value) (w:World) (hv:BytesOff w.heap.size w v b) (hz:∀ cap,v=.slice none 0 cap->cap=0) (hm:b.length<=1048576) :
  Calls prog 215 #[v] w fun e w'=>∃ u,e=.returned u/\CellsAt w' u ((padded b).map bv)/\Ext w w':=by
 obtain ⟨ad,cap,rfl,hc1,hc2,hcell⟩:=hv;obtain ⟨L,hL⟩:∃ L,L=b.length:=⟨_,rfl⟩;have HL:=lh hL.symm;rw [<-hL] at hm hc1 hcell hz ⊢;clear hL
 have HZ0:=lh (show ad=none->L=0/\cap=0 from fun e=>by
  rcases Nat.eq_zero_or_pos L with h0 | h0
  ·exact ⟨h0,hz cap (by rw [e,h0])⟩
  ·obtain ⟨g,o,e1,_⟩:=hcell h0;rw [e] at e1;cases e1)
 have HCE:=lh (show 0<L->∃ g k,ad=some ⟨g,k,none⟩/\∀ (j:Nat) u,(b.map bv)[j]?=some u->w.cell? ⟨g,k+j,none⟩=some u from fun h=>by
  obtain ⟨g,o,e1,_,_,e4⟩:=hcell h;refine ⟨g,o,e1,fun j u hj=>?_⟩;rw [List.getElem?_map,Option.map_eq_some_iff] at hj;obtain ⟨x,hx,rfl⟩:=hj
  exact e4 j x hx)
 have HP:=lh (show padded b=b++(128::List.replicate (zerosOf L) 0++be8 (8*L)) from by unfold padded padL;rw [HL.out]);rw [HP.out];obtain ⟨Z,hZ⟩:∃ Z,Z=zerosOf L:=⟨_,rfl⟩;have HZ2:=lh (show Z=(119 - L % 64) % 64 from hZ);have hZ64:Z<64:=by rw [hZ];unfold zerosOf;omega
 rw [<-hZ];clear hcell hz HP hZ;have HBE:=fun c x h hc=>lh (byte_at (8*L) c x h hc);have HBL:=lh (show (be8 (8*L)).length=8 from rfl);obtain ⟨be,hbe⟩:∃ be,be=be8 (8*L):=⟨_,rfl⟩;rw [<-hbe] at HBE HBL ⊢;clear hbe;go_enter func215,ntmps215;go_wp2_with (at_builtin;refine append_lots elU8 w.heap.size _ _ _ (World.ownsRow_nil w w.heap.size 5 1) ad L cap (b.map bv) (.tmp 6) (.tmp 7) rfl rfl rfl rfl (by rw [List.length_map];exact HL.out) HZ0.out HCE.out (by intro u hu;obtain ⟨x,_,rfl⟩:=List.mem_map.1 hu;rfl) (by omega) (Nat.le_refl _) ?_);intro v1 w1 hown1 hg1;have HB1:=lh (ext_own (Ext.refl w) (Nat.le_refl _) (World.ownsRow_nil w w.heap.size 5 1) hg1);have HO1:=lh hown1;clear hown1 hg1;have hs1:=HB1.out.size;go_wp2_with (at_builtin;refine append_one elU8 w.heap.size _ _ _ (HO1.out.alloc _) w1.heap.size (bv 128) (.tmp 9) (.tmp 10) rfl rfl rfl rfl ?c1 rfl (by omega) ?c2 ?_)
 case c1=>rw [cell_alloc_new rfl];rfl
 case c2=>simp;omega
 intro v2 w2 hown2 hg2 _;have HX2:=lh (ext_own (HB1.out.alloc _) (Nat.le_refl _) (HO1.out.alloc _) hg2);have HO2:=lh (show w2.ownsRow w.heap.size 5 1 v2 (L+1+0) ((b++128::List.replicate 0 0).map bv) from by simpa using hown2);clear hown2 hg2 HO1 HB1 hs1;go_wp2_with fail;go_loopw [3] (fun v wr=>Hid (∃ j:Nat,j<=Z/\wr.ownsRow w.heap.size 5 1 v (L+1+j) ((b++128::List.replicate j 0).map bv)/\Ext w wr)) (fun v _=>Z - (lenV v - (L+1)))
 case atStart=>exact ⟨0,by omega,HO2.out,HX2.out⟩
 case round =>
  obtain ⟨j,hj,ho,hx⟩:=hrel.out;clear hrel HO2 HX2;have HX:=lh hx;have HO:=lh ho;have hs:=hx.size;obtain ⟨a0,cap0,rfl⟩:=owns_slice ho;clear ho hx;by_cases hlt:j<Z
  ·have hne:(((L+1+j:Nat):Int) % 64==56)=false:=by have:=HZ2.out;simp;omega
   go_wp2_with (at_builtin;refine append_one elU8 w.heap.size _ _ _ (HO.out.alloc _) wr.heap.size (bv 0) (.tmp 16) (.tmp 17) rfl rfl rfl rfl ?c1 rfl (by omega) ?c2 ?_)
   case c1=>rw [cell_alloc_new rfl];rfl
   case c2=>simp;omega
   intro v' w3 hown3 hg3 hv3;have HX3:=lh (ext_own (HX.out.alloc _) (Nat.le_refl _) (HO.out.alloc _) hg3);go_wp2_with fail;go_roundw
   case rel=>exact ⟨j+1,by omega,by rw [<-Nat.add_assoc];simpa [List.replicate_succ'] using hown3,HX3.out⟩
   case measure =>
    obtain ⟨g',cap',rfl,_⟩:=hv3;simp [lenV];omega
  ·have hne:(((L:Int)+1+j) % 64 != 56)=false:=by have:=HZ2.out;simp;omega
   have HO:=lh (show wr.ownsRow w.heap.size 5 1 (.slice a0 (L+1+j) cap0) (L+1+j+0) ((b++(128::List.replicate Z 0++be.take 0)).map bv) from by
    have e:j=Z:=by omega
    subst e
    simpa using HO.out)
   obtain ⟨wa,rfl⟩:∃ x,x=wr:=⟨_,rfl⟩;have hj64:j<64:=by omega
   go_wp2_with fail;go_loopw [3,5] (fun v bv' wr=>Hid (∃ i k:Nat,i+k=8/\bv'=.int .i64 ((k:Int) - 1)/\wr.ownsRow w.heap.size 5 1 v (L+1+j+i) ((b++(128::List.replicate Z 0++be.take i)).map bv)/\Ext w wr)) (fun _ bv' _=>(intOf bv'+1).toNat)
   case atStart=>exact ⟨0,8,by omega,rfl,HO.out,HX.out⟩
   case round =>
    obtain ⟨i,k,hik,rfl,ho,hx⟩:=hrel.out;clear hrel HO HX;have HX:=lh hx;have HO:=lh ho;have hs:=hx.size;obtain ⟨a1,cap1,rfl⟩:=owns_slice ho
    match k,hik with
    | 0,hik =>
     have HC:=lh (CellsAt.of_owns (xs:=(b++(128::List.replicate Z 0++be)).map bv) (v:=.slice a1 (L+1+j+i) cap1) (w:=wr) (base:=w.heap.size) (e:=5) (by
      have e8:be.take i=be:=List.take_of_length_le (by rw [HBL.out];omega);rw [e8] at ho;have hl:=ho.1;rw [Nat.mul_one] at hl
      rw [hl];exact ho))
     clear ho hx;go_wp2_with fail;go_ret;exact ⟨_,rfl,by simpa using HC.out,HX.out⟩
    | c+1,hik =>
     clear ho hx;rw [show ((c+1:Nat):Int) - 1=(c:Int) from by omega];obtain ⟨x,hx⟩:∃ x,be[7 - c]?=some x:=⟨_,List.getElem?_eq_getElem (by rw [HBL.out];omega)⟩;have HBX:=lh (show (L:Int)*8 / 2 ^ (8*c) % 256=x.toNat from by rw [<-(HBE c x hx (by omega)).out,Int.natCast_mul,Int.mul_comm];rfl);have HST:=lh (show be.take (i+1)=be.take i++[x] from by rw [List.take_add_one,show i=7 - c from by omega,hx];rfl);clear hx;go_wp2_with (at_builtin;refine append_one elU8 w.heap.size _ _ _ (HO.out.alloc _) wr.heap.size (.int .u8 ((L:Int)*8 / 2 ^ (8*c) % 256)) (.tmp 27) (.tmp 34) rfl rfl rfl rfl ?c1 rfl (by omega) ?c2 ?_)
     case c1=>rw [cell_alloc_new rfl];rfl
     case c2=>simp;omega
     intro v' w3 hown3 hg3 _;have HX3:=lh (ext_own (HX.out.alloc _) (Nat.le_refl _) (HO.out.alloc _) hg3);rw [HBX.out] at hown3;have HO3:=lh hown3;clear hown3 hg3;go_wp2_with fail;go_roundw
     case rel=>exact ⟨i+1,c,by omega,by go_num,by rw [HST.out,<-Nat.add_assoc];simpa [bv] using HO3.out,HX3.out⟩
     case measure=>simp [intOf]
end
section
theorem elU32:Elem prog 259 26 (.int .u32 0) 4:=⟨by kernel_rfl,by kernel_rfl,rfl,by decide⟩
def accW (r:List UInt8) (t:Nat):Nat->Nat
 | 0=>0
 | k+1=>256*accW r t k+(r.getD (4*t+k) 0).toNat
theorem accW_lt (r:List UInt8) (t:Nat):∀ k,accW r t k<256 ^ k
 | 0=>Nat.one_pos
 | k+1=>by
  have:=accW_lt r t k;have h2:=(r.getD (4*t+k) 0).toNat_lt;unfold accW;rw [Nat.pow_succ];omega
theorem accW_four (r:List UInt8) (t:Nat):accW r t 4=(((r.getD (4*t) 0).toNat*256+(r.getD (4*t+1) 0).toNat)*256+(r.getD (4*t+2) 0).toNat)*256+(r.getD (4*t+3) 0).toNat:=by
 simp only [accW,Nat.add_zero,Nat.zero_add,Nat.mul_zero];omega
theorem accW_word (r:List UInt8) (t:Nat) (h:t<16) (l:List Wd):accW r t 4=(nextW r l t).toNat:=by
 have h4:=accW_lt r t 4;unfold nextW wordAt;rw [if_pos h,BitVec.toNat_ofNat,Nat.mod_eq_of_lt]
 ·exact accW_four r t
 ·rw [<-accW_four];exact h4
theorem owns_cell {w:World} {base n:Nat} {e:TypeId} {v:Value} {xs:List Value} (h:w.ownsRow base e 1 v n xs) (hn:0<n):∃ g cap,v=.slice (some ⟨g,0,none⟩) n cap/\n<=cap/\cap<=maxLen/\g<w.heap.size/\base<=g/\∀ (j:Nat) u,xs[j]?=some u->w.cell? ⟨g,j,none⟩=some u:=by
 rcases h.2 with ⟨_,h2⟩ | ⟨g,cap,cur,hv,hb,hh,hc,hm,_⟩
 ·omega
 ·subst hv;refine ⟨g,cap,rfl,hc,hm,ltB hh,hb,fun j u hj=>?_⟩;rw [h.cellAt j (by have:=(List.getElem?_eq_some_iff.1 hj).1;have:=h.1;omega),hj]
set_option maxHeartbeats 1000000 in
set_option maxRecDepth 100000 in
theorem rwords_any (r:List UInt8) (g o cap:Nat) (w:World) (hr:r.length=64) (hcell:∀ (j:Nat) x,r[j]?=some x->w.cell? ⟨g,o+j,none⟩=some (bv x)) :
  Calls prog 216 #[.slice (some ⟨g,o,none⟩) 64 cap] w fun e w'=>∃ u,e=.returned u/\CellsAt w' u ((wordsL r 64).map wv)/\Ext w w':=by
 have HC:=lh hcell;clear hcell;have HT:=fun x n h1 h2 w=>lh (rturned_any x n h1 h2 w);go_enter func216,ntmps216;go_wp2_with fail;go_loopw [3,4] (fun v iv wr=>Hid (∃ t:Nat,t<=64/\iv=.int .i64 t/\wr.ownsRow w.heap.size 26 1 v t ((wordsL r t).map wv)/\Ext w wr)) (fun _ iv _=>64 - (intOf iv).toNat)
 case atStart=>exact ⟨0,by omega,rfl,World.ownsRow_nil _ _ _ _,Ext.refl _⟩
 case round =>
  obtain ⟨t,ht,rfl,ho,hx⟩:=hrel.out;clear hrel;have HX:=lh hx;have HO:=lh ho;have hs:=hx.size;by_cases hlt:t<64
  ·have HST:=lh (show (wordsL r (t+1)).map wv=(wordsL r t).map wv++[wv (nextW r (wordsL r t) t)] from by rw [show wordsL r (t+1)=wordsL r t++[nextW r (wordsL r t) t] from rfl,List.map_append];rfl);have HLN:=lh (wordsL_len r t);by_cases h16:t<16
   ·obtain ⟨a0,cap0,rfl⟩:=owns_slice ho;clear ho hx;have HW:=lh (accW_word r t h16 (wordsL r t));go_wp2_with fail;go_loopw [5,6] (fun xv kv w2=>Hid (∃ k:Nat,k<=4/\kv=.int .i64 k/\xv=.int .u32 (accW r t k)/\w2=wr)) (fun _ kv _=>4 - (intOf kv).toNat)
    case atStart=>exact ⟨0,by omega,rfl,rfl,rfl⟩
    case round =>
     obtain ⟨k,hk,rfl,rfl,hw⟩:=hrel.out;clear hrel;by_cases h4:k<4
     ·have hb:accW r t k<16777216:=Nat.lt_of_lt_of_le (accW_lt r t k) (Nat.le_trans (Nat.pow_le_pow_right (by decide) (show k<=3 by omega)) (by decide));obtain ⟨x,hxr⟩:∃ x,r[4*t+k]?=some x:=⟨_,List.getElem?_eq_getElem (by omega)⟩
      have hcx:wr.cell? ⟨g,o+(4*t+k),none⟩=some (.int .u8 x.toNat):=by
       rw [hw];exact (HX.out.cell (lt_of_cell (HC.out _ _ hxr))).trans (HC.out _ _ hxr)
      have HA:=lh (show accW r t (k+1)=256*accW r t k+x.toNat from by rw [accW,List.getD_eq_getElem?_getD,hxr];rfl);obtain ⟨acc,hacc⟩:∃ acc,acc=accW r t k:=⟨_,rfl⟩;rw [<-hacc] at hb HA ⊢;have HACC:=lh hacc;have hxl:=x.toNat_lt;have HWR:=lh hw;clear hacc hxr hw;go_wp2_with fail;go_roundw
      case rel=>exact ⟨k+1,by omega,by go_num,by rw [HA.out];go_num,HWR.out⟩
      case measure=>simp [intOf];omega
     ·have e4:k=4:=by omega
      rw [e4,HW.out];have HK4:=lh e4;clear h4 hk e4;subst hw;go_wp2_with (at_builtin;refine append_one elU32 w.heap.size _ _ _ (HO.out.alloc _) wr.heap.size (wv (nextW r (wordsL r t) t)) (.tmp 32) (.tmp 34) rfl rfl rfl rfl ?c1 rfl (by omega) ?c2 ?_)
      case c1=>rw [cell_alloc_new rfl];rfl
      case c2=>simp;omega
      intro v' w3 hown3 hg3 _;have HX3:=lh (ext_own (HX.out.alloc _) (Nat.le_refl _) (HO.out.alloc _) hg3);go_wp2_with fail;go_roundw
      case rel=>exact ⟨t+1,by omega,by go_num,by rw [HST.out];exact hown3,HX3.out⟩
      case measure=>simp [intOf];omega
   ·obtain ⟨g1,cap1,rfl,hn1,hm1,hg1,hbg1,hcl1⟩:=owns_cell ho (by omega)
    have hq:∀ j,j<t->∀ v:After wr,v.v.cell? ⟨g1,j,none⟩=some (.int .u32 ((wordsL r t).getD j 0).toNat):=fun j hj v=>After.cell (hcl1 _ _ (by
     rw [List.getElem?_map,List.getD_eq_getElem?_getD,wordsL_at r t j hj];rfl)) v
    have hwl:∀ j,j<t->((wordsL r t).map wv)[j]?=some (.int .u32 ((wordsL r t).getD j 0).toNat):=fun j hj=>by
     rw [List.getElem?_map,List.getD_eq_getElem?_getD,wordsL_at r t j hj];rfl
    obtain ⟨x0,g0⟩:∃ x,x=(wordsL r t).getD (t - 16) 0:=⟨_,rfl⟩;obtain ⟨x1,gg1⟩:∃ x,x=(wordsL r t).getD (t - 15) 0:=⟨_,rfl⟩;obtain ⟨x9,g9⟩:∃ x,x=(wordsL r t).getD (t - 7) 0:=⟨_,rfl⟩;obtain ⟨x14,g14⟩:∃ x,x=(wordsL r t).getD (t - 2) 0:=⟨_,rfl⟩;have p0:∀ v:After wr,v.v.cell? ⟨g1,t - 16,none⟩=some (.int .u32 x0.toNat):=fun v=>by rw [g0];exact hq _ (by omega) v
    have p1:∀ v:After wr,v.v.cell? ⟨g1,t - 15,none⟩=some (.int .u32 x1.toNat):=fun v=>by rw [gg1];exact hq _ (by omega) v
    have p9:∀ v:After wr,v.v.cell? ⟨g1,t - 7,none⟩=some (.int .u32 x9.toNat):=fun v=>by rw [g9];exact hq _ (by omega) v
    have p14:∀ v:After wr,v.v.cell? ⟨g1,t - 2,none⟩=some (.int .u32 x14.toNat):=fun v=>by rw [g14];exact hq _ (by omega) v
    have HK0:=lh (show ((wordsL r t).map wv)[t - 16]?=some (.int .u32 x0.toNat) from by rw [g0];exact hwl _ (by omega));have HK9:=lh (show ((wordsL r t).map wv)[t - 7]?=some (.int .u32 x9.toNat) from by rw [g9];exact hwl _ (by omega));obtain ⟨s0,hs0⟩:∃ s,s=sg0 x1:=⟨_,rfl⟩;obtain ⟨s1,hs1⟩:∃ s,s=sg1 x14:=⟨_,rfl⟩
    have HE:=lh (show x0+s0+x9+s1=nextW r (wordsL r t) t from by
     unfold nextW
     rw [if_neg h16,hs0,hs1,g0,gg1,g9,g14])
    have HS0:=lh (show bits BinOp.xor IntKind.u32 (bits BinOp.xor IntKind.u32 ((rotr x1 7).toNat:Int) (rotr x1 18).toNat) ((x1.toNat:Int) / (8:Int))=(s0.toNat:Int) from by
     rw [wd_xor,wd_shr3,wd_xor,hs0];rfl)
    have HS1:=lh (show bits BinOp.xor IntKind.u32 (bits BinOp.xor IntKind.u32 ((rotr x14 17).toNat:Int) (rotr x14 19).toNat) ((x14.toNat:Int) / (1024:Int))=(s1.toNat:Int) from by
     rw [wd_xor,wd_shr10,wd_xor,hs1];rfl)
    have HSUM:=lh (show (((x0.toNat:Int)+s0.toNat+x9.toNat) % 4294967296+s1.toNat) % 4294967296=((nextW r (wordsL r t) t).toNat:Int) from by
     rw [<-HE.out,<-wd_add,<-wd_add,<-wd_add];omega)
    obtain ⟨nx,hnx⟩:∃ nx,nx=nextW r (wordsL r t) t:=⟨_,rfl⟩;obtain ⟨nl,hnl⟩:∃ nl,nl=(wordsL r (t+1)).map wv:=⟨_,rfl⟩;obtain ⟨ws,hws⟩:∃ ws,ws=(wordsL r t).map wv:=⟨_,rfl⟩;have HNL:=lh hnl;rw [<-hnx] at HE HSUM HST;rw [<-hnl] at HST;rw [<-hws] at HO HST HK0 HK9;clear hnx hnl hws HE HLN hwl hq g0 gg1 g9 g14 hcl1 ho hx hs0 hs1;have h16':decide ((t:Int)<16)=false:=by simp;omega
    go_wp2_with fail;refine wp_region_after (by kernel_rfl) (by kernel_rfl) ?_
    repeat (go_big_quiet_step (fail))
    refine wpQuiet_nil ?_;rintro _ ⟨y,rfl⟩;obtain ⟨wy,xy⟩:=y;go_wp2_with fail;refine (HT x1 7 (by decide) (by decide) _).out.mono ?_;rintro e w2 ⟨rfl,rfl⟩;go_wp2_with fail;refine (HT x1 18 (by decide) (by decide) _).out.mono ?_;rintro e w2 ⟨rfl,rfl⟩;go_wp2_with fail;refine (HT x14 17 (by decide) (by decide) _).out.mono ?_;rintro e w2 ⟨rfl,rfl⟩;go_wp2_with fail;refine (HT x14 19 (by decide) (by decide) _).out.mono ?_;rintro e w2 ⟨rfl,rfl⟩;rw [HS0.out];go_wp2_with fail;rw [HS1.out];have HO4:=lh (owns_ext HO.out xy);have HX4:=lh (HX.out.trans xy);have hs4:=xy.size;have c0:w2.cell? ⟨g1,t - 16,none⟩=some (.int .u32 x0.toNat):=p0 ⟨w2,xy⟩;have c9:w2.cell? ⟨g1,t - 7,none⟩=some (.int .u32 x9.toNat):=p9 ⟨w2,xy⟩;clear p0 p1 p9 p14 xy;have b9:(16:Int)<=(t:Int):=by omega
    have b10:(7:Int)<=(t:Int):=by omega
    have b2:(t:Int) - 16<(t:Int):=by omega
    have b4:(t:Int) - 7<(t:Int):=by omega
    have b5:IntKind.i64.wrap ((t:Int) - 16)=(t:Int) - 16:=by rw [IntKind.wrap_i64];omega
    have b6:IntKind.i64.wrap ((t:Int) - 7)=(t:Int) - 7:=by rw [IntKind.wrap_i64];omega
    rw [show t - 16=((t:Int) - 16).toNat from by omega] at c0 HK0;rw [show t - 7=((t:Int) - 7).toNat from by omega] at c9 HK9
    go_region_held_law (fun w'=>w'.cell? ⟨g1,((t:Int) - 16).toNat,none⟩=some (.int .u32 x0.toNat)/\w'.cell? ⟨g1,((t:Int) - 7).toNat,none⟩=some (.int .u32 x9.toNat)) (go_keep)
     ((refine step_append_keep elU32 w.heap.size (.slice (some ⟨g1,0,none⟩) t cap1) t ws (owns_ext HO4.out ?_) w2.heap.size (wv (nx)) (.tmp 62) (.tmp 78) rfl rfl ?_ ?_ ?_ rfl ?_ ?_ ?_
       ·repeat (first | exact Ext.refl _ | refine Ext.alloc ?_ _ | refine Ext.drew ?_)
       ·simp [Act.eval]
       ·simp [Act.eval]
       ·exact (cellB (heap_new_drew rfl)).trans (by simp only [wv,<-HSUM.out,List.getElem?_toArray,List.getElem?_cons_zero,Option.some.injEq,Value.int.injEq,true_and,IntKind.wrap_u32'];omega)
       ·omega
       ·simp;omega
       intro v' w3 hown3 hgr3 hrow3 hkp3;obtain ⟨g3,cap3,rfl,_⟩:=hrow3;have k1:w3.cell? ⟨g1,((t:Int) - 16).toNat,none⟩=some (.int .u32 x0.toNat):=hkp3 g1 (((t:Int) - 16).toNat) _ rfl HK0.out;have k2:w3.cell? ⟨g1,((t:Int) - 7).toNat,none⟩=some (.int .u32 x9.toNat):=hkp3 g1 (((t:Int) - 7).toNat) _ rfl HK9.out;have HR:=lh (show w3.ownsRow w.heap.size 26 1 _ (t+1) nl/\Ext w w3 from ⟨by rw [HST.out];exact hown3,ext_own ((HX4.out.alloc _).drew) (Nat.le_refl _) (owns_ext HO4.out (by repeat (first | exact Ext.refl _ | refine Ext.alloc ?_ _ | refine Ext.drew ?_))) hgr3⟩)
       clear hown3 hgr3 hkp3))
    all_goals
     go_wp2_with fail;go_roundw
     case rel=>exact ⟨t+1,by omega,by go_num,HNL.out▸HR.out.1,HR.out.2⟩
     case measure=>simp [intOf] <;> omega
  ·have e64:t=64:=by omega
   have HC64:=lh (CellsAt.of_owns (xs:=(wordsL r t).map wv) (by rw [List.length_map,wordsL_len];exact ho));rw [e64] at HC64;obtain ⟨a0,cap0,hv⟩:=owns_slice ho;subst hv;clear ho hx e64;go_wp2_with fail;go_ret;exact ⟨_,rfl,HC64.out,HX.out⟩
end
end Go.Proofs.YtldppmjjgljinaaGreatDoor
