import Derived.Test.YtldppmjjgljinaaGreatDoorTpA2
import Derived.Test.YtldppmjjgljinaaGreatDoorTpB2
import Derived.Test.YtldppmjjgljinaaGreatDoorTpC3
import Derived.DeepKeys4
import Derived.Sort.Walk0
import Derived.Lib.SliceRun
import Derived.WideLaws
import Derived.Laws.OwnMore
import Derived.WideKeyEntry
open Go.Proofs.Tryz
namespace Go.Proofs.YtldppmjjgljinaaGreatDoor
section
open Go.RowKit
theorem laidOutH:laidOutB prog=true:=by kernel_rfl
theorem hashRow:(45:TypeId)<prog.types.size:=of_decide_eq_true (by kernel_rfl)
theorem hashWide:(match prog.underlying 45 with | some (.array _ _) | some (.struct _)=>true | _=>false)=true:=by kernel_rfl
set_option maxRecDepth 100000 in
theorem hashLaw:WideMaps.KeyLaw prog 45:=deep_law_laid laidOutH (m:=2) (by omega) hashRow (by kernel_rfl) hashWide
theorem keyedH:Maps.Keyed prog 45:=Maps.Keyed.of_law hashLaw
theorem mapM_some {α β:Type} {f:α->Option β}:∀ (l:List α),(∀ x∈l,∃ y,f x=some y)->∃ ys,l.mapM f=some ys
 | [],_=>⟨[],rfl⟩
 | a::l,h=>by
  obtain ⟨y,hy⟩:=h a List.mem_cons_self;obtain ⟨ys,hys⟩:=mapM_some l fun x hx=>h x (List.mem_cons_of_mem _ hx);exact ⟨y::ys,by simp [List.mapM_cons,hy,hys]⟩
theorem wfU8 (x:UInt8):(Lit.int .u8 (x.toNat:Nat)).wf=true:=by
 have:=x.toNat_lt;have h1:(IntKind.u8.min:Int)=0:=rfl;have h2:(IntKind.u8.max:Int)=255:=rfl;simp only [Lit.wf,h1,h2,Bool.and_eq_true,decide_eq_true_eq];omega
theorem pos_pred {a n:Nat} (h:a<n):n=(n - 1)+1:=by omega
theorem hash_key {h:List UInt8} (hl:h.length=32):∃ l,keyOf prog 45 (.agg (hArr h 32))=some l:=by
 have hu:prog.underlying 45=some (.array 32 5):=by kernel_rfl
 have hc:prog.cellsOf 45=32:=by kernel_rfl
 have hc1:prog.cellsOf 5=1:=by kernel_rfl
 have hk:prog.keyType 45=true:=by kernel_rfl
 have hs:=hArr_size h 32 hl (Nat.le_refl _);have hf:(Value.agg (hArr h 32)).formed prog 45=true:=by simp [Value.formed,hu,hc,hs]
 have hm:∃ ls,(prog.keyLits (prog.types.size+1) 45 (Value.agg (hArr h 32)).cells.toList)=some ls:=by
  have e:prog.types.size=(prog.types.size - 1)+1:=pos_pred hashRow;rw [e];generalize prog.types.size - 1=d;rw [Program.keyLits.eq_def];simp only [hu,hc,hc1];rw [if_pos (by simp [Value.cells,hs])]
  obtain ⟨ys,hys⟩:=mapM_some (f:=fun i=>prog.keyLits (d+1) 5 (((Value.agg (hArr h 32)).cells.toList.drop (i*1)).take 1)) (List.range 32) fun i hi=>by
   have hi:=List.mem_range.1 hi;obtain ⟨x,hx⟩:∃ x,h[i]?=some x:=⟨_,List.getElem?_eq_getElem (by omega)⟩;refine ⟨[.int .u8 (x.toNat:Nat)],?_⟩
   have hd:((Value.agg (hArr h 32)).cells.toList.drop (i*1)).take 1=[bv x]:=by
    rw [hArr_list hl,Nat.mul_one];apply List.ext_getElem?;intro j;rw [List.getElem?_take]
    cases j with
    | zero=>simp [Value.cells,hx]
    | succ j=>simp
   rw [hd];have hw:=wfU8 x;simp [Program.keyLits,show prog.underlying 5=some (.int .u8) from by kernel_rfl,bv,hw]
  rw [hys];exact ⟨_,rfl⟩
 obtain ⟨ls,hls⟩:=hm;unfold keyOf;rw [hu];simp only [hk,hf,hls,Bool.and_self,if_true,Option.map_some];exact ⟨_,rfl⟩
def MapH (w:World) (b n:Nat) (f:List UInt8->Option Value):Prop:=∃ D:DataW Value,w.ownsMap prog 45 RV b n D/\∀ (h:List UInt8) l,h.length=32->keyOf prog 45 (.agg (hArr h 32))=some l ->
 (Maps.has D l=(f h).isSome/\∀ z,D.atKey l z=(match f h with | some v=>.held v | none=>z))
theorem hArr_inj {a b:List UInt8} (ha:a.length=32) (hb:b.length=32) (h:hArr a 32=hArr b 32):a=b:=by
 rw [hArr_list ha,hArr_list hb] at h;have h2:a.map bv=b.map bv:=by simpa using h
 apply List.ext_getElem?;intro i;have h3:=congrArg (fun l:List Value=>l[i]?) h2;simp only [List.getElem?_map] at h3
 cases hx:a[i]? with
 | none =>
  rw [hx] at h3
  cases hy:b[i]? with
  | none=>rfl
  | some y=>rw [hy] at h3;simp at h3
 | some x =>
  rw [hx] at h3
  cases hy:b[i]? with
  | none=>rw [hy] at h3;simp at h3
  | some y =>
   rw [hy] at h3;simp only [Option.map_some,bv,Option.some.injEq,Value.int.injEq,true_and] at h3;rw [UInt8.toNat_inj.1 (by omega:x.toNat=y.toNat)]
theorem key_ne {a b:List UInt8} {la lb:Lit} (ha:a.length=32) (hb:b.length=32) (ka:keyOf prog 45 (.agg (hArr a 32))=some la) (kb:keyOf prog 45 (.agg (hArr b 32))=some lb) (h:a≠b):la≠lb:=by
 rintro rfl;have:=keyedH.inj ka kb;exact h (hArr_inj ha hb (Value.agg.inj this))
theorem MapH.made (w:World):MapH (w.alloc (.map #[] 0)) w.heap.size 0 fun _=>none :=
 ⟨.map [],World.ownsMap_made _ _ _ _,fun _ _ _ _=>⟨rfl,fun _=>rfl⟩⟩
theorem MapH.kept {w w':World} {b n:Nat} {f:List UInt8->Option Value} (h:MapH w b n f) (k:w'.heap[b]?=w.heap[b]?):MapH w' b n f:=by
 obtain ⟨D,⟨es,clock,h1,h2⟩,h3⟩:=h;exact ⟨D,⟨es,clock,k.trans h1,h2⟩,h3⟩
theorem MapH.lt {w:World} {b n:Nat} {f:List UInt8->Option Value} (h:MapH w b n f):b<w.heap.size:=h.choose_spec.1.lt
theorem MapH.ext {w w':World} {b n:Nat} {f:List UInt8->Option Value} (h:MapH w b n f) (x:Ext w w'):MapH w' b n f:=h.kept (x.block h.lt)
theorem MapH.congr {w:World} {b n:Nat} {f g:List UInt8->Option Value} (h:MapH w b n f) (k:∀ s,s.length=32->f s=g s):MapH w b n g:=by
 obtain ⟨D,h1,h2⟩:=h;exact ⟨D,h1,fun s l hs hl=>by rw [<-k s hs];exact h2 s l hs hl⟩
theorem MapH.look {w:World} {b n:Nat} {f:List UInt8->Option Value} (h:MapH w b n f) {t e:TypeId} (ht:prog.underlying t=some (.map 45 e)) {z:Value} (hz:(zeroValue e).run prog w=.ok z w) (s:List UInt8) (hs:s.length=32) :
  (Instr.lookup t (.map (some b)) (.agg (hArr s 32)) false).run prog w=.ok ((f s).getD z) w:=by
 obtain ⟨D,h1,h2⟩:=h;obtain ⟨l,hl⟩:=hash_key hs;obtain ⟨v,ps,hr,hv⟩:=h1.lookup keyedH ht hz (zd:=.held z) (zp:=[]) rfl hl;obtain ⟨g1,g2⟩:=h2 s l hs hl;rw [hr];rw [g2 (.held z)] at hv
 have:v=(f s).getD z:=by
  unfold RV at hv
  cases hf:f s with
  | none=>rw [hf] at hv;simp at hv;exact hv.1
  | some u=>rw [hf] at hv;simp at hv;exact hv.1
 rw [this]
theorem MapH.store {w:World} {b n:Nat} {f:List UInt8->Option Value} (h:MapH w b n f) {t e:TypeId} (ht:prog.underlying t=some (.map 45 e)) (hn:n<maxLen) (s:List UInt8) (hs:s.length=32) (v:Value) :
  ∃ w',(Instr.mapUpdate t (.map (some b)) (.agg (hArr s 32)) v).run prog w=.ok () w'/\MapH w' b (n+1) (fun x=>if x=s then some v else f x)/\w.grownBy w' (some b)/\w'.heap.size=w.heap.size:=by
 obtain ⟨D,h1,h2⟩:=h;obtain ⟨l,hl⟩:=hash_key hs;obtain ⟨w',hr,ho,hg⟩:=h1.store keyedH ht hn (val:=v) (d:=.held v) (ps:=[]) hl rfl;refine ⟨w',hr,⟨_,ho,fun x lx hx hlx=>?_⟩,hg.grown,?_⟩
 ·have hkl:WideAt.IsKeyLit l:=keyedH.key hl;by_cases e:x=s
  ·subst e;obtain rfl:l=lx:=Option.some.inj (hl.symm.trans hlx);dsimp only;rw [if_pos rfl];exact ⟨Maps.has_put_same h1.isMap hkl _,fun z=>Maps.atKey_put_same h1.isMap hkl _ _⟩
  ·dsimp only;rw [if_neg e];have hne:=key_ne hx hs hlx hl e;obtain ⟨g1,g2⟩:=h2 x lx hx hlx;exact ⟨by rw [Maps.has_put_other hne,g1],fun z=>by rw [Maps.atKey_put_other hne,g2]⟩
 ·obtain ⟨es,c,es',c',_,hw⟩:=hg;rw [hw];exact Array.size_setIfInBounds
theorem MapH.drop {w:World} {b n:Nat} {f:List UInt8->Option Value} (h:MapH w b n f) {t e:TypeId} (ht:prog.underlying t=some (.map 45 e)) (s:List UInt8) (hs:s.length=32) (ty:TypeId) :
  ∃ w',(Builtin.delete_ #[t,45] ty #[.map (some b),.agg (hArr s 32)]).run prog w=.ok (.tuple #[]) w'/\MapH w' b n (fun x=>if x=s then none else f x)/\w.mapTurned w' b:=by
 obtain ⟨D,h1,h2⟩:=h;obtain ⟨l,hl⟩:=hash_key hs;obtain ⟨w',hr,ho,hg⟩:=h1.drop keyedH ht hl ty;refine ⟨w',hr,⟨_,ho,fun x lx hx hlx=>?_⟩,hg⟩;by_cases e:x=s
 ·subst e;obtain rfl:l=lx:=Option.some.inj (hl.symm.trans hlx);dsimp only;rw [if_pos rfl];exact ⟨Maps.has_del_same,fun z=>Maps.atKey_del_same _⟩
 ·dsimp only;rw [if_neg e];have hne:=key_ne hx hs hlx hl e;obtain ⟨g1,g2⟩:=h2 x lx hx hlx;exact ⟨by rw [Maps.has_del_other hne,g1],fun z=>by rw [Maps.atKey_del_other hne,g2]⟩
end
section
open Go.RowKit Go.Shelf
theorem fnan_any (a:ByteArray) (w:World):Calls prog 235 #[.string a] w fun e w'=>e=.returned (.bool false)/\w=w':=by
 have h:(a.toList != a.toList)=false:=by simp
 go_enter func235,ntmps235;go_wp2;go_ret;exact ⟨rfl,rfl⟩
theorem fnani_any (a:Int) (w:World):Calls prog 236 #[.int .i64 a] w fun e w'=>e=.returned (.bool false)/\w=w':=by
 have h:(a != a)=false:=by simp
 go_enter func236,ntmps236;go_wp2;go_ret;exact ⟨rfl,rfl⟩
def cmpS (a b:ByteArray):Int:=if Go.Op.bytesLess a.toList b.toList then -1 else if a.toList==b.toList then 0 else 1
def cmpZ (a b:Int):Int:=if a<b then -1 else if b<a then 1 else 0
theorem fcmp_any (a b:ByteArray) (w:World):Calls prog 199 #[.string a,.string b] w fun e w'=>e=.returned (.int .i64 (cmpS a b))/\Ext w w':=by
 unfold cmpS
 cases h1:Go.Op.bytesLess a.toList b.toList with
 | true =>
  go_enter func199,ntmps199;go_wp2_with (refine (fnan_any _ _).mono ?_;rintro e w1 ⟨rfl,rfl⟩);go_ret;exact ⟨rfl,Ext.refl _⟩
 | false =>
  cases h2:(a.toList==b.toList) with
  | true =>
   go_enter func199,ntmps199;go_wp2_with (refine (fnan_any _ _).mono ?_;rintro e w1 ⟨rfl,rfl⟩);go_ret;exact ⟨rfl,Ext.refl _⟩
  | false =>
   go_enter func199,ntmps199;go_wp2_with (refine (fnan_any _ _).mono ?_;rintro e w1 ⟨rfl,rfl⟩);go_ret;exact ⟨rfl,Ext.refl _⟩
theorem fcmpi_any (a b:Int) (w:World):Calls prog 200 #[.int .i64 a,.int .i64 b] w fun e w'=>e=.returned (.int .i64 (cmpZ a b))/\Ext w w':=by
 unfold cmpZ;by_cases h1:a<b
 ·rw [if_pos h1];go_enter func200,ntmps200;go_wp2_with (refine (fnani_any _ _).mono ?_;rintro e w1 ⟨rfl,rfl⟩);go_ret;exact ⟨rfl,Ext.refl _⟩
 ·rw [if_neg h1];by_cases h2:b<a
  ·rw [if_pos h2];go_enter func200,ntmps200;go_wp2_with (refine (fnani_any _ _).mono ?_;rintro e w1 ⟨rfl,rfl⟩);go_ret;exact ⟨rfl,Ext.refl _⟩
  ·rw [if_neg h2];go_enter func200,ntmps200;go_wp2_with (refine (fnani_any _ _).mono ?_;rintro e w1 ⟨rfl,rfl⟩);go_ret;exact ⟨rfl,Ext.refl _⟩
theorem for_any (x y:Int) (g:Nat) (w:World) (h0:w.cell? ⟨g,0,none⟩=some (.int .i64 x)) (h1:w.cell? ⟨g,1,none⟩=some (.int .i64 y)) :
  Calls prog 198 #[.slice (some ⟨g,0,none⟩) 2 2] w fun e w'=>e=.returned (.int .i64 (if x=0 then y else x))/\Ext w w':=by
 by_cases hx:x=0
 ·rw [if_pos hx];subst hx;by_cases hy:y=0
  ·subst hy;go_enter func198,ntmps198;go_wp2;refine wp_loop_rounds 3 ?_;rw [rounds_succ];go_wp2;rw [rounds_succ];go_wp2;rw [rounds_succ];go_wp2;go_ret;exact ⟨rfl,Ext.refl _⟩
  ·have e1:(y != 0)=true:=by rw [bne_iff_ne];exact hy
   have e2:(y==0)=false:=by rw [beq_eq_false_iff_ne];exact hy
   clear hy;go_enter func198,ntmps198;go_wp2;refine wp_loop_rounds 2 ?_;rw [rounds_succ];go_wp2;rw [rounds_succ];go_wp2;go_ret;exact ⟨rfl,Ext.refl _⟩
 ·rw [if_neg hx];have e1:(x != 0)=true:=by rw [bne_iff_ne];exact hx
  have e2:(x==0)=false:=by rw [beq_eq_false_iff_ne];exact hx
  clear hx;go_enter func198,ntmps198;go_wp2;refine wp_loop_rounds 1 ?_;rw [rounds_succ];go_wp2;go_ret;exact ⟨rfl,Ext.refl _⟩
abbrev Pl:=ByteArray×Int
def plV (a:Pl):Value:=.agg #[.string a.1,.int .i64 a.2]
def cmpP (a b:Pl):Int:=if cmpS a.1 b.1=0 then cmpZ a.2 b.2 else cmpS a.1 b.1
set_option maxHeartbeats 1000000 in
theorem before_any (a b:Pl) (w:World):Calls prog 149 #[plV a,plV b] w fun e w'=>e=.returned (.int .i64 (cmpP a b))/\Ext w w':=by
 have HC:=lh (show cmpP a b=if cmpS a.1 b.1=0 then cmpZ a.2 b.2 else cmpS a.1 b.1 from rfl);have HS:=lh (fun w'=>fcmp_any a.1 b.1 w');have HZ:=lh (fun w'=>fcmpi_any a.2 b.2 w');have X0:=lh (((Ext.refl w).alloc (.cells #[.string a.1,.int .i64 a.2] 126 (0,0))).alloc (.cells #[.string b.1,.int .i64 b.2] 126 (0,0)));have HA:=lh (block_alloc_old (w:=w.alloc (.cells #[.string a.1,.int .i64 a.2] 126 (0,0))) (o:=.cells #[.string b.1,.int .i64 b.2] 126 (0,0)) (b:=w.heap.size) (by rw [size_alloc];omega) |>.trans (block_alloc_new w (.cells #[.string a.1,.int .i64 a.2] 126 (0,0))));have HB:=lh (block_alloc_new (w.alloc (.cells #[.string a.1,.int .i64 a.2] 126 (0,0))) (.cells #[.string b.1,.int .i64 b.2] 126 (0,0)));simp only [size_alloc] at HB;unfold plV;generalize cmpS a.1 b.1=cs at *;generalize cmpZ a.2 b.2=cz at *;generalize cmpP a b=cp at *;obtain ⟨an,ak⟩:=a;obtain ⟨bn,bk⟩:=b;go_enter func149,ntmps149;go_upto_region 1 with (fail)
 generalize (w.alloc (.cells #[.string an,.int .i64 ak] 126 (0,0))).alloc (.cells #[.string bn,.int .i64 bk] 126 (0,0))=W at *;have a0:∀ z:After W,z.v.cell? ⟨w.heap.size,0,none⟩=some (.string an):=fun z=>After.at HA.out z;have a1:∀ z:After W,z.v.cell? ⟨w.heap.size,1,none⟩=some (.int .i64 ak):=fun z=>After.at HA.out z;have b0:∀ z:After W,z.v.cell? ⟨w.heap.size+1,0,none⟩=some (.string bn):=fun z=>After.at HB.out z;have b1:∀ z:After W,z.v.cell? ⟨w.heap.size+1,1,none⟩=some (.int .i64 bk):=fun z=>After.at HB.out z;refine wp_region_after_tail 10 (by kernel_rfl) (by kernel_rfl) ?_;simp only [List.take_succ_cons,List.take_zero,List.drop_succ_cons,List.drop_zero]
 iterate 4 go_big_quiet_step (fail)
 go_big_quiet_step (exact After.of (HS.out _))
 iterate 4 go_big_quiet_step (fail)
 go_big_quiet_step (exact After.of (HZ.out _));refine wpQuiet_nil ?_;rintro _ ⟨y,rfl⟩;have XY:=lh (X0.out.trans y.x);clear a0 a1 b0 b1;have HN:=lh (block_alloc_new y.v (.cells #[.int .i64 cs,.int .i64 cz] 3 (0,0)));have XA:=lh ((Ext.refl y.v).alloc (.cells #[.int .i64 cs,.int .i64 cz] 3 (0,0)));have HO:=lh (for_any cs cz y.v.heap.size _ (cellB HN.out) (cellB HN.out));rw [<-HC.out] at HO;clear HC;go_wp2_with fail;refine HO.out.mono ?_;rintro e w5 ⟨rfl,x5⟩;have X5:=lh (XY.out.trans (XA.out.trans x5));clear x5;go_wp2_with fail;go_ret;exact ⟨rfl,X5.out⟩
end
section
open Go.RowKit Go.Shelf
def plC (a:Pl):List Value:=[.string a.1,.int .i64 a.2]
def plsV (l:List Pl):List Value:=l.flatMap plC
theorem plsV_get:∀ (l:List Pl) (k j:Nat) (x:Pl),l[k]?=some x->j<2->(plsV l)[k*2+j]?=(plC x)[j]?
 | [],k,j,x,h,_=>by simp at h
 | y::r,0,j,x,h,hj=>by
  simp at h;subst h;rw [plsV,List.flatMap_cons,List.getElem?_append_left (by simp [plC];omega)];simp
 | y::r,k+1,j,x,h,hj=>by
  rw [plsV,List.flatMap_cons,List.getElem?_append_right (by simp [plC,Nat.succ_mul];omega),show (k+1)*2+j - (plC y).length=k*2+j from by simp [plC,Nat.succ_mul];omega];exact plsV_get r k j x (by simpa using h) hj
theorem plsV_len (l:List Pl):(plsV l).length=l.length*2:=by
 induction l with
 | nil=>rfl
 | cons a l ih=>rw [plsV,List.flatMap_cons,List.length_append,<-plsV,ih];simp [plC];omega
theorem plsV_app (a b:List Pl):plsV (a++b)=plsV a++plsV b:=by simp [plsV]
def PlsAt (w:World) (g:Nat) (l:List Pl):Prop:=∀ (j:Nat) u,(plsV l)[j]?=some u->w.cell? ⟨g,j,none⟩=some u
theorem PlsAt.ext {w w':World} {g:Nat} {l:List Pl} (h:PlsAt w g l) (x:Ext w w'):PlsAt w' g l:=fun j y hy=>(x.cell (lt_of_cell (h j y hy))).trans (h j y hy)
theorem PlsAt.at {w:World} {g:Nat} {l:List Pl} (h:PlsAt w g l) {k:Nat} {x:Pl} (hk:l[k]?=some x):w.rangeAt g (k*2) (plC x):=fun j u hj =>
 h _ u ((plsV_get l k j x hk (List.getElem?_eq_some_iff.1 hj).1).trans hj)
def minN (l:List Pl):Nat->Pl
 | 0=>l.getD 0 (⟨#[]⟩,0)
 | k+1=>if cmpP (l.getD (k+1) (⟨#[]⟩,0)) (minN l k)<0 then l.getD (k+1) (⟨#[]⟩,0) else minN l k
def plN0:Array Value:=#[.string ⟨#[]⟩,.int .i64 0]
set_option maxRecDepth 100000 in
set_option maxHeartbeats 2000000 in
theorem fmin_any {w:World} {g cap:Nat} {l:List Pl} (h:PlsAt w g l) (h0:0<l.length) (hl:l.length<=100000) :
  Calls prog 148 #[.slice (some ⟨g,0,none⟩) l.length cap,.func (.func 149) #[] #[]] w fun e w'=>e=.returned (plV (minN l (l.length - 1)))/\Ext w w':=by
 have HL:=lh h;obtain ⟨n,hn⟩:∃ n,n=l.length:=⟨_,rfl⟩;have HN:=lh hn;obtain ⟨x0,hx0⟩:∃ x,l[0]?=some x:=⟨_,List.getElem?_eq_getElem h0⟩;have r0:=lh (h.at hx0);have HM0:=lh (show minN l 0=x0 from by simp [minN,hx0]);have HMs:=lh (show ∀ k,minN l (k+1)=if cmpP (l.getD (k+1) (⟨#[]⟩,0)) (minN l k)<0 then l.getD (k+1) (⟨#[]⟩,0) else minN l k from fun _=>rfl);have HI:=lh (show (prog.info? 126).map (·.size)=some 2 from by kernel_rfl);have HO:=lh (fun x:Pl=>(by simp [plC,Value.oneCell']:(plC x).toArray.all (·.oneCell')=true));have HB0:=lh ((block_alloc_old (w:=w.alloc (.cells plN0 126 (0,0))) (o:=.cells (plC x0).toArray 126 (0,0)) (b:=w.heap.size) (by rw [size_alloc];omega)).trans (block_alloc_new w (.cells plN0 126 (0,0))));have HB1:=lh (block_alloc_new (w.alloc (.cells plN0 126 (0,0))) (.cells (plC x0).toArray 126 (0,0)));have X1:=lh (((Ext.refl w).alloc (.cells plN0 126 (0,0))).alloc (.cells (plC x0).toArray 126 (0,0)));have XA:=lh ((Ext.refl w).alloc (.cells plN0 126 (0,0)));simp only [size_alloc] at HB1;rw [<-hn] at h0 hl ⊢;generalize minN l=M at *;have h1:¬ ((n:Int)<1):=by omega
 have h2:(0:Int)<(n:Int):=by omega
 clear h hn hx0;unfold plN0 at HB0 HB1 X1 XA;unfold plC at HB0 HB1 X1;go_enter func148,ntmps148;go_wp2_with (refine wpList_load_at rfl 126 _ rfl g (0*2) rfl (plC x0).toArray _ (by have:=r0.out;exact fun j u hj=>(XA.out.cell (lt_of_cell (this j u hj))).trans (this j u hj)) underlying126 rfl HI.out ?_;unfold plC;go_frame);have HM1:=lh (show (#[.string x0.1,.int .i64 x0.2]:Array Value)=(plC (M 0)).toArray from by rw [HM0.out];rfl);generalize (w.alloc (Obj.cells #[Value.string ⟨#[]⟩,Value.int IntKind.i64 0] 126)).alloc (Obj.cells #[Value.string x0.1,Value.int IntKind.i64 x0.2] 126)=W at *;go_loopw [6] (fun iv wr=>Hid (∃ k:Nat,k+1<=n/\iv=.int .i64 (k+1:Nat)/\Ext w wr/\wr.heap[w.heap.size]?=some (.cells #[.string ⟨#[]⟩,.int .i64 0] 126 (0,0))/\wr.heap[w.heap.size+1]?=some (.cells (plC (M k)).toArray 126 (0,0)))) (fun iv _=>n - (intOf iv).toNat)
 case atStart=>exact ⟨0,by omega,rfl,X1.out,HB0.out,by rw [<-HM1.out];exact HB1.out⟩
 case round =>
  obtain ⟨k,hk,rfl,hx,hb0,hb1⟩:=hrel.out;clear hrel HB0 HB1 X1 HM0 HM1 r0;have HX:=lh hx;have HB0:=lh hb0;have HB1:=lh hb1;clear hx hb0 hb1;obtain ⟨m,hm⟩:∃ m,m=M k:=⟨_,rfl⟩;rw [<-hm] at HB1;have HM:=lh hm;clear hm;by_cases hlt:k+1<n
  ·obtain ⟨x,hxk⟩:∃ x,l[k+1]?=some x:=⟨_,List.getElem?_eq_getElem (by have:=HN.out;omega)⟩;have r1:=lh (fun z:After wr=>(HL.out.ext (HX.out.trans z.x)).at hxk);have rb:=lh (fun z:After wr=>(z.x.block (ltB HB1.out)).trans HB1.out);have HC:=lh (fun w1=>before_any x m w1);have HS:=lh (show M (k+1)=if cmpP x m<0 then x else m from by rw [HMs.out,List.getD_eq_getElem?_getD,hxk,HM.out];rfl);unfold plV at HC;clear hxk;have hlt2:((k+1:Nat):Int)<(n:Int):=by omega
   generalize hkk:k+1=kk at *;have hkk1:1<=kk:=by omega
   have HKK:=lh hkk;clear hkk
   cases hc:decide (cmpP x m<0) with
   | true =>
    have hcl:cmpP x m<0:=of_decide_eq_true hc;have HS1:=lh (HS.out.trans (if_pos hcl));generalize cmpP x m=cx at *;go_wp2;refine wp_region_after (by kernel_rfl) (by kernel_rfl) ?_
    iterate 4 go_big_quiet_step (fail)
    refine wpQuiet_load_at rfl _ _ rfl g (kk*2) rfl (plC x).toArray _ (by rintro _ ⟨z,rfl⟩;exact r1.out z) underlying126 rfl HI.out ?_;go_frame;refine wpQuiet_load_row rfl 126 _ rfl (w.heap.size+1) rfl 126 (plC m).toArray (0,0) _ (by rintro _ ⟨z,rfl⟩;exact rb.out z) underlying126 rfl HI.out ?_;go_frame;go_big_quiet_step (exact After.of (HC.out _));go_big_quiet_step (fail);refine wpQuiet_nil ?_;rintro _ ⟨z,rfl⟩;have HXz:=lh (HX.out.trans z.x);have rz:=lh (r1.out z);have HBz:=lh (rb.out z);have HB0z:=lh ((z.x.block (ltB HB0.out)).trans HB0.out);clear r1 rb HC;go_wp2_with (first | (refine wpList_load_at rfl 126 _ rfl g (kk*2) rfl (plC x).toArray _ rz.out underlying126 rfl HI.out ?_;go_frame) | (refine wpList_storeT rfl _ _ _ rfl (w.heap.size+1) (plC x).toArray rfl rfl 126 (plC m).toArray HBz.out HI.out rfl (HO.out x) ?_;intro w9 hb9 ht9;have HB9:=lh hb9;have HT9:=lh ht9;clear hb9 ht9;go_frame));go_roundw
    case rel=>exact ⟨kk,by omega,by go_num,HT9.out.fresh HXz.out (Nat.le_succ _),(HT9.out.block w.heap.size (ltB HB0z.out) (fun e=>by have:=Option.some.inj e;omega)).trans HB0z.out,by rw [HS1.out];exact HB9.out⟩
    case measure=>simp [intOf] <;> omega
   | false =>
    have hcl:¬ cmpP x m<0:=of_decide_eq_false hc;have HS1:=lh (HS.out.trans (if_neg hcl));generalize cmpP x m=cx at *;go_wp2;refine wp_region_after (by kernel_rfl) (by kernel_rfl) ?_
    iterate 4 go_big_quiet_step (fail)
    refine wpQuiet_load_at rfl _ _ rfl g (kk*2) rfl (plC x).toArray _ (by rintro _ ⟨z,rfl⟩;exact r1.out z) underlying126 rfl HI.out ?_;go_frame;refine wpQuiet_load_row rfl 126 _ rfl (w.heap.size+1) rfl 126 (plC m).toArray (0,0) _ (by rintro _ ⟨z,rfl⟩;exact rb.out z) underlying126 rfl HI.out ?_;go_frame;go_big_quiet_step (exact After.of (HC.out _));go_big_quiet_step (fail);refine wpQuiet_nil ?_;rintro _ ⟨z,rfl⟩;have HXz:=lh (HX.out.trans z.x);have HBz:=lh (rb.out z);have HB0z:=lh ((z.x.block (ltB HB0.out)).trans HB0.out);clear r1 rb HC;go_wp2;go_roundw
    case rel=>exact ⟨kk,by omega,by go_num,HXz.out,HB0z.out,by rw [HS1.out];exact HBz.out⟩
    case measure=>simp [intOf] <;> omega
  ·obtain rfl:n=k+1:=by omega
   generalize hkk:k+1=kk at *;go_wp2_with (first | (refine wpList_load_row rfl 126 _ rfl (w.heap.size+1) rfl 126 (plC m).toArray (0,0) _ HB1.out underlying126 rfl HI.out ?_;go_frame) | (refine wpList_storeT rfl _ _ _ rfl w.heap.size (plC m).toArray rfl rfl 126 _ HB0.out HI.out rfl (HO.out m) ?_;intro w9 hb9 ht9;have HB9:=lh hb9;have HT9:=lh ht9;clear hb9 ht9;go_frame));exact bodyPost_ret (results_cell_row rfl _ _ w.heap.size 126 _ (0,0) _ rfl HB9.out underlying126 rfl HI.out) rfl ⟨by rw [Nat.add_sub_cancel,<-HM.out];rfl,HT9.out.fresh HX.out (Nat.le_refl _)⟩
end
section
open Go.RowKit Go.Shelf
attribute [local go_sem] Oper.semAt_some
structure RowP (w:World) (g cap:Nat) (l:List Pl):Prop where
 blk:∃ cur,w.heap[g]?=some (.cells cur 126 (0,0))/\cur.size=cap*2
 at':w.rangeAt g 0 (plsV l)
 le:l.length<=cap
theorem RowP.lt {w:World} {g cap:Nat} {l:List Pl} (h:RowP w g cap l):g<w.heap.size:=let ⟨_,h1,_⟩:=h.blk;ltB h1
theorem RowP.touch {w w':World} {g cap:Nat} {l:List Pl} (h:RowP w g cap l) (e:w'.heap[g]?=w.heap[g]?):RowP w' g cap l:=by
 have hc:∀ k,w'.cell? ⟨g,k,none⟩=w.cell? ⟨g,k,none⟩:=fun k=>by unfold World.cell?;rw [e]
 obtain ⟨cur,h1,h2⟩:=h.blk;exact ⟨⟨cur,e.trans h1,h2⟩,fun j v hj=>(hc _).trans (h.at' j v hj),h.le⟩
theorem RowP.ext {w w':World} {g cap:Nat} {l:List Pl} (h:RowP w g cap l) (x:Ext w w'):RowP w' g cap l:=h.touch (x.block h.lt)
theorem RowP.ent {w:World} {g cap:Nat} {l:List Pl} (h:RowP w g cap l) {k:Nat} {x:Pl} (hk:l[k]?=some x):w.rangeAt g (k*2) (plC x):=by
 intro j u hj;have hj2:j<2:=(List.getElem?_eq_some_iff.1 hj).1;have:=h.at' _ u ((plsV_get l k j x hk hj2).trans hj)
 rwa [Nat.zero_add] at this
theorem RowP.room {w:World} {g cap:Nat} {l:List Pl} (h:RowP w g cap l) {o n:Nat} (hk:o+n<=cap*2):w.there g o n:=fun j hj=>by
 obtain ⟨cur,h1,h2⟩:=h.blk;exact ⟨by rw [cellB h1];simp;omega,frozenB h1⟩
theorem pls_div {l:List Pl} {j:Nat} {v:Value} (h:(plsV l)[j]?=some v):∃ x,l[j / 2]?=some x/\(plC x)[j % 2]?=some v:=by
 have hl:=(List.getElem?_eq_some_iff.1 h).1;rw [plsV_len] at hl;obtain ⟨x,hx⟩:∃ x,l[j / 2]?=some x:=⟨_,List.getElem?_eq_getElem (by omega)⟩;refine ⟨x,hx,?_⟩;have:=plsV_get l (j / 2) (j % 2) x hx (Nat.mod_lt j (by omega:0<2));rw [show j / 2*2+j % 2=j from by omega] at this;exact this.symm.trans h
theorem cellsT (g:Nat):∀ (vs:List Value) (o:Nat) (w:World),(w.setCells g o vs).heap.size=w.heap.size/\Touch g w (w.setCells g o vs)/\∀ cur t fr,w.heap[g]?=some (.cells cur t fr)->∃ cur',(w.setCells g o vs).heap[g]?=some (.cells cur' t fr)/\cur'.size=cur.size
 | [],_,w=>⟨rfl,⟨rfl,rfl,rfl,Nat.le_refl _,fun _ _ _=>rfl⟩,fun cur t fr h=>⟨cur,h,rfl⟩⟩
 | v::r,o,w=>by
  obtain ⟨h1,h2,h3⟩:=cellsT g r (o+1) (w.setCell ⟨g,o,none⟩ v);have h0:(w.setCell ⟨g,o,none⟩ v).heap.size=w.heap.size:=by unfold World.setCell;simp
  have hT:Touch g w (w.setCell ⟨g,o,none⟩ v):=⟨rfl,rfl,rfl,by rw [h0];exact Nat.le_refl _,fun i _ hne=>setCellO fun e=>hne (by rw [e])⟩;refine ⟨h1.trans h0,⟨h2.os.trans hT.os,h2.tape.trans hT.tape,h2.output.trans hT.output,Nat.le_trans hT.size h2.size,fun i hi hne=>(h2.block i (by rw [h0];exact hi) hne).trans (hT.block i hi hne)⟩,fun cur t fr h=>?_⟩;obtain ⟨cur',h4,h5⟩:=h3 _ t fr (setCellB h);exact ⟨cur',h4,by rw [h5];simp⟩
theorem RowP.store {w:World} {g cap:Nat} {l:List Pl} (h:RowP w g cap l) {k:Nat} (hk:k<l.length) (x:Pl):RowP (w.setCells g (k*2) (plC x)) g cap (l.set k x)/\Touch g w (w.setCells g (k*2) (plC x)):=by
 obtain ⟨hs,hT,hB⟩:=cellsT g (plC x) (k*2) w;obtain ⟨cur,h1,h2⟩:=h.blk;obtain ⟨cur',h3,h4⟩:=hB cur _ _ h1;have hle:=h.le;refine ⟨⟨⟨cur',h3,h4.trans h2⟩,fun j v hj=>?_,by rw [List.length_set];exact h.le⟩,hT⟩;obtain ⟨y,hy,hv⟩:=pls_div hj;by_cases e:j / 2=k
 ·rw [e,List.getElem?_set_self hk] at hy
  cases hy
  have:=World.rangeAt_setCells_same w g (k*2) (plC x) (h.room (by simp [plC];omega)) _ _ hv;rw [show k*2+j % 2=0+j from by omega] at this;exact this
 ·rw [List.getElem?_set_ne (fun q=>e q.symm)] at hy;rw [World.cell?_setCells_out g (plC x) (k*2) w _ (fun _ _=>by show 0+j<_\/k*2+2<=0+j;omega)];have:=h.ent hy _ _ hv;rw [show j / 2*2+j % 2=0+j from by omega] at this;exact this
theorem RowP.head {w:World} {g cap:Nat} {l:List Pl} (h:RowP w g cap l) (k:Nat) (Z:List Value):RowP (w.setCells g (k*2) Z) g cap (l.take k)/\Touch g w (w.setCells g (k*2) Z):=by
 obtain ⟨hs,hT,hB⟩:=cellsT g Z (k*2) w;obtain ⟨cur,h1,h2⟩:=h.blk;obtain ⟨cur',h3,h4⟩:=hB cur _ _ h1;refine ⟨⟨⟨cur',h3,h4.trans h2⟩,fun j v hj=>?_,by rw [List.length_take];have:=h.le;omega⟩,hT⟩;obtain ⟨x,hx,hv⟩:=pls_div hj;rw [List.getElem?_take] at hx;split at hx
 ·rename_i hjk;rw [World.cell?_setCells_out g Z (k*2) w _ (fun _ _=>by show 0+j<_\/_;omega)];have:=h.ent hx _ _ hv;rw [show j / 2*2+j % 2=0+j from by omega] at this;exact this
 ·cases hx
theorem RowP.owns {w:World} {g cap base:Nat} {l:List Pl} (h:RowP w g cap l) (hb:base<=g) (hm:cap<=maxLen):w.ownsRow base 126 2 (.slice (some ⟨g,0,none⟩) l.length cap) l.length (plsV l):=by
 obtain ⟨cur,h1,h2⟩:=h.blk;refine ⟨plsV_len l,.inr ⟨g,cap,cur,rfl,hb,h1,h.le,hm,h2,?_⟩⟩;have hle:=h.le;refine List.ext_getElem? fun j=>?_;rw [List.getElem?_take];split
 ·rename_i hj;obtain ⟨v,hv⟩:∃ v,(plsV l)[j]?=some v:=⟨_,List.getElem?_eq_getElem (by rw [plsV_len];exact hj)⟩;have:=h.at' j v hv;rw [Nat.zero_add,cellB h1] at this;rw [hv,Array.getElem?_toList];exact this
 ·rw [List.getElem?_eq_none (by rw [plsV_len];omega)]
theorem RowP.of {w:World} {base n:Nat} {v:Value} {l:List Pl} (h:w.ownsRow base 126 2 v n (plsV l)) (h0:0<l.length):∃ g cap,v=.slice (some ⟨g,0,none⟩) n cap/\base<=g/\cap<=maxLen/\n=l.length/\RowP w g cap l:=by
 have hn:n=l.length:=by have:=h.1;rw [plsV_len] at this;omega
 rcases h.2 with ⟨_,rfl⟩ | ⟨g,cap,cur,rfl,hb,hh,h1,h2,h3,h4⟩
 ·omega
 ·refine ⟨g,cap,rfl,hb,h2,hn,⟨⟨cur,hh,h3⟩,fun j u hj=>?_,by omega⟩⟩;rw [Nat.zero_add,cellB hh];rw [<-h4,List.getElem?_take] at hj;split at hj
  ·rwa [Array.getElem?_toList] at hj
  ·cases hj
theorem wpList_storeP {P:Program} {ops:Array Oper} {rest:List Oper} {op:Oper} {a:Act} {w:World} {Q:Exit->Act->World->Prop} (hgd:op.guard=none) (ty:TypeId) (x y:Operand) (ho:op.op=.store ty x y)
  (b o:Nat) (cs:List Value) (hx:a.eval x=.pointer (some ⟨b,o,none⟩)) (hy:a.eval y=.agg cs.toArray)
  (ht:w.there b o cs.toArray.size) (hi:(P.info? ty).map (·.size)=some cs.toArray.size) (h1:cs.toArray.all (·.oneCell')=true)
  (h:∀ w1,w1=w.setCells b o cs->wpList P ops Q rest (a.put op.dst undef) w1):wpList P ops Q (op::rest) a w :=
 wpList_store_mid hgd ty x y ho b o cs.toArray hx hy ht hi h1 (h _ rfl)
theorem run_clear_pls {w:World} {g off n c:Nat} (hn:0<n) (ht:w.there g off (n*2)):∃ Z:List Value,∀ ty,(Builtin.clear_ #[209] ty #[.slice (some ⟨g,off,none⟩) n c]).run prog w=.ok (.tuple #[]) (w.setCells g off Z):=by
 obtain ⟨Z,hZ⟩:∃ Z:List Value,Z=(Builtin.zeroCells (Value.agg #[.string ⟨#[]⟩,.int .i64 0]).cells n).toList:=⟨_,rfl⟩;have hz4:(Value.agg #[.string ⟨#[]⟩,.int .i64 0]).cells=#[.string ⟨#[]⟩,.int .i64 0]:=rfl;have hl:Z.length=n*2:=by rw [hZ,hz4];simp [Builtin.zeroCells]
 have h1:∀ v∈Z,v.oneCell'=true:=by
  intro v hv;rw [hZ,hz4] at hv;simp only [Builtin.zeroCells,Array.toList_map,List.mem_map] at hv;obtain ⟨i,_,rfl⟩:=hv;have:i % 2=0\/i % 2=1:=by omega
  show ((#[Value.string ⟨#[]⟩,.int .i64 0]:Array Value)[i % 2]!).oneCell'=true
  rcases this with e | e <;> rw [e] <;> rfl
 have hst:=run_storeCells_cells (P:=prog) g off Z 0 w (fun j hj=>by rw [Nat.add_zero];exact (ht j (by omega)).1) (fun j hj=>by rw [Nat.add_zero];exact (ht j (by omega)).2) h1;rw [Nat.add_zero] at hst;have hv:∀ w,(zeroValue 126).run prog w=.ok (.agg #[.string ⟨#[]⟩,.int .i64 0]) w:=fun w=>by kernel_rfl
 refine ⟨Z,fun ty=>?_⟩;obtain ⟨m,rfl⟩:∃ m,n=m+1:=⟨n - 1,by omega⟩;simp [Builtin.clear_,run_underlying (show prog.underlying 209=some (.slice 126) by kernel_rfl),hv,<-hZ,hst]
def ofB (nm:ByteArray) (x:Pl):Bool:=x.1.toList==nm.toList
theorem forget1_any (x:Pl) (nb:Nat) (nm:ByteArray) (w:World) (h:w.cell? ⟨nb,0,none⟩=some (.string nm)):Calls prog 210 #[plV x,.pointer (some ⟨nb,0,none⟩)] w fun e w'=>e=.returned (.bool (ofB nm x))/\Ext w w':=by
 have HB:=lh (show ofB nm x=(x.1.toList==nm.toList) from rfl);have k0:=((Ext.refl w).alloc (.cells #[.string x.1,.int .i64 x.2] 126 (0,0))).cell (lt_of_cell h) |>.trans h;have X0:=lh ((Ext.refl w).alloc (.cells #[.string x.1,.int .i64 x.2] 126 (0,0)));have hb:=cellB (k:=0) (block_alloc_new w (.cells #[.string x.1,.int .i64 x.2] 126 (0,0)));obtain ⟨xn,xk⟩:=x;unfold plV;generalize ofB nm (xn,xk)=R at *;clear h;go_enter func210,ntmps210;go_wp2;go_ret;exact ⟨by rw [HB.out];rfl,X0.out⟩
set_option maxRecDepth 100000 in
set_option maxHeartbeats 2000000 in
theorem findex_any {w:World} {g cap nb:Nat} {l:List Pl} {nm:ByteArray} (h:PlsAt w g l) (hn:w.cell? ⟨nb,0,none⟩=some (.string nm)) (hl:l.length<=100000) :
  Calls prog 250 #[.slice (some ⟨g,0,none⟩) l.length cap,.func (.func 210) #[] #[.pointer (some ⟨nb,0,none⟩)]] w fun e w'=>∃ r,e=.returned (.int .i64 r) /\
   Hid (((r=-1/\∀ x∈l,ofB nm x=false)\/∃ (k:Nat),k<l.length/\r=k/\(∀ x∈l.take k,ofB nm x=false)/\∃ x,l[k]?=some x/\ofB nm x=true)/\Ext w w'):=by
 have HL:=lh h;obtain ⟨n,hnn⟩:∃ n,n=l.length:=⟨_,rfl⟩;have HN:=lh hnn;have HQ:=lh (fun x w1 (X:Ext w w1)=>forget1_any x nb nm w1 ((X.cell (lt_of_cell hn)).trans hn));have HI:=lh (show (prog.info? 126).map (·.size)=some 2 from by kernel_rfl);unfold plV at HQ;rw [<-hnn] at hl ⊢;clear h hn hnn;go_enter func250,ntmps250;go_wp2;go_loopw [8] (fun iv wr=>Hid (∃ k:Nat,k<=n/\iv=.int .i64 k/\Ext w wr/\∀ x∈l.take k,ofB nm x=false)) (fun iv _=>n - (intOf iv).toNat)
 case atStart=>exact ⟨0,Nat.zero_le _,rfl,Ext.refl _,fun x hx=>by simp at hx⟩
 case round =>
  obtain ⟨k,hk,rfl,hx,hno⟩:=hrel.out;clear hrel;have HX:=lh hx;have HNo:=lh hno;clear hx hno;by_cases hlt:k<n
  ·obtain ⟨x,hxk⟩:∃ x,l[k]?=some x:=⟨_,List.getElem?_eq_getElem (by have:=HN.out;omega)⟩;have HXK:=lh hxk;have r1:=lh ((HL.out.ext HX.out).at hxk);have HC:=lh (HQ.out x wr HX.out);clear hxk;generalize hb:ofB nm x=b at *;have HBB:=lh hb;clear hb;go_wp2_with (refine wpList_load_at rfl 126 _ rfl g (k*2) rfl (plC x).toArray _ r1.out underlying126 rfl HI.out ?_;unfold plC;go_frame);refine HC.out.mono ?_;rintro e w1 ⟨rfl,x1⟩;have X1:=lh (HX.out.trans x1);clear x1 HC r1
   cases b with
   | true =>
    go_wp2;go_ret;exact ⟨_,rfl,.inr ⟨k,by have:=HN.out;omega,rfl,HNo.out,x,HXK.out,HBB.out⟩,X1.out⟩
   | false =>
    go_wp2;go_roundw
    case rel=>exact ⟨k+1,by omega,by go_num,X1.out,fun y hy=>by
     rw [List.take_add_one,HXK.out,List.mem_append] at hy;rcases hy with hy | hy
     ·exact HNo.out y hy
     ·simp at hy;rw [hy];exact HBB.out⟩
    case measure=>simp [intOf] <;> omega
  ·obtain rfl:k=n:=by omega
   go_wp2;go_ret;exact ⟨_,rfl,.inl ⟨rfl,fun x hx=>HNo.out x (by rw [HN.out,List.take_length];exact hx)⟩,HX.out⟩
def restP (nm:ByteArray) (l:List Pl):List Pl:=l.filter fun x=>!ofB nm x
theorem restP_all {nm:ByteArray} {l:List Pl} (h:∀ x∈l,ofB nm x=false):restP nm l=l:=List.filter_eq_self.2 fun x hx=>by rw [h x hx];rfl
theorem restP_snoc (nm:ByteArray) {l:List Pl} {j:Nat} {x:Pl} (h:l[j]?=some x):restP nm (l.take (j+1))=restP nm (l.take j)++(if ofB nm x then [] else [x]):=by
 unfold restP;rw [List.take_add_one,h,List.filter_append]
 congr 1
 cases hb:ofB nm x <;> simp [hb]
set_option maxRecDepth 100000 in
set_option maxHeartbeats 4000000 in
theorem fdel_any {w:World} {g cap nb:Nat} {l:List Pl} {nm:ByteArray} (h:RowP w g cap l) (hn:w.cell? ⟨nb,0,none⟩=some (.string nm)) (hnb:nb≠g) (hl:l.length<=100000) (_hc2:cap<=9223372036854775807) :
  Calls prog 209 #[.slice (some ⟨g,0,none⟩) l.length cap,.func (.func 210) #[] #[.pointer (some ⟨nb,0,none⟩)]] w fun e w'=>∃ m,e=.returned (.slice (some ⟨g,0,none⟩) m cap) /\
   Hid (m=(restP nm l).length/\RowP w' g cap (restP nm l)/\Touch g w w'):=by
 have HR:=lh h;have hle:=h.le;have HX0:=lh (findex_any (cap:=cap) (fun j u hj=>by have:=h.at' j u hj;rwa [Nat.zero_add] at this) hn hl);have HQ:=lh (fun x w1 (X:Touch g w w1)=>forget1_any x nb nm w1 ((show w1.cell? ⟨nb,0,none⟩=w.cell? ⟨nb,0,none⟩ from by unfold World.cell?;rw [X.block nb (lt_of_cell hn) (fun e=>hnb (Option.some.inj e))]).trans hn));have HI:=lh (show (prog.info? 126).map (·.size)=some 2 from by kernel_rfl);obtain ⟨n,hnn⟩:∃ n,n=l.length:=⟨_,rfl⟩;have HN:=lh hnn;unfold plV at HQ;rw [<-hnn] at hl hle HX0 ⊢;clear h hn hnn;go_enter func209,ntmps209;go_wp2_with fail;refine HX0.out.mono ?_;rintro e w1 ⟨r,rfl,h1⟩;obtain ⟨hcase,x1⟩:=h1.out;have X1:=lh x1;clear h1 x1 HX0;rcases hcase with ⟨rfl,hno⟩ | ⟨k,hk,rfl,hno,x,hxk,hxo⟩
 ·have HA:=lh (restP_all hno);have HR1:=lh (HR.out.ext X1.out);clear hno;go_wp2;go_ret;exact ⟨n,rfl,by rw [HA.out];exact HN.out,by rw [HA.out];exact HR1.out,Touch.of X1.out⟩
 ·have hkn:k<n:=by have:=HN.out;omega
  have HD0:=lh (show restP nm (l.take (k+1))=l.take k from by rw [restP_snoc nm hxk,restP_all hno,hxo];simp);have HR1:=lh (HR.out.ext X1.out);have ek:((k:Int)==-1)=false:=by rw [beq_eq_false_iff_ne];omega
  clear hno hxk hxo hk;go_wp2;go_loopw [5,6] (fun iv jv wr=>Hid (∃ (i j:Nat) (l1:List Pl),i<j/\j<=n/\iv=.int .i64 i/\jv=.int .i64 j/\l1.length=n/\restP nm (l.take j)=l1.take i/\(∀ t,i<=t->l1[t]?=l[t]?)/\RowP wr g cap l1/\Touch g w wr)) (fun _ jv _=>n - (intOf jv).toNat)
  case atStart=>exact ⟨k,k+1,l,by omega,by omega,rfl,by go_num,HN.out.symm,HD0.out,fun _ _=>rfl,HR1.out,Touch.of X1.out⟩
  case round =>
   obtain ⟨i,j,l1,hij,hjn,rfl,rfl,hlen,hd,hsame,hr,hx⟩:=hrel.out;clear hrel HD0 HR1 ek hkn;have HL:=lh hlen;have HDd:=lh hd;have HS:=lh hsame;have HR1:=lh hr;have HT:=lh hx;clear hlen hd hsame hr hx;have hin:i<n:=by omega
   by_cases hlt:j<n
   ·obtain ⟨y,hy⟩:∃ y,l1[j]?=some y:=⟨_,List.getElem?_eq_getElem (by have:=HL.out;omega)⟩;have HLY:=lh (show l[j]?=some y from (HS.out _ (by omega)).symm.trans hy);have r1:=lh (HR1.out.ent hy);have HNx:=lh ((restP_snoc nm HLY.out).trans (by rw [HDd.out]));clear hy;go_upto_region 8 with (refine wpList_load_at rfl 126 _ rfl g (j*2) rfl (plC y).toArray _ r1.out underlying126 rfl HI.out ?_;unfold plC;go_frame)
    have HBy:=lh (block_alloc_new wr (.cells #[.string y.1,.int .i64 y.2] 126 (0,0)));have Xy:=lh ((Ext.refl wr).alloc (.cells #[.string y.1,.int .i64 y.2] 126 (0,0)));have HTy:=lh (HT.out.trans (Touch.of Xy.out));have HRy:=lh (HR1.out.ext Xy.out);have HC:=lh (HQ.out y _ HTy.out);generalize hb:ofB nm y=b at *;have HBb:=lh hb;obtain ⟨p7,hp7⟩:∃ p,p=wr.heap.size:=⟨_,rfl⟩;have hp7g:g<p7:=by rw [hp7];exact HR1.out.lt
    generalize wr.alloc (.cells #[.string y.1,.int .i64 y.2] 126 (0,0))=wa at *;rw [<-hp7] at HBy ⊢;clear hp7 r1 HR1 HT Xy hb;go_wp2_with (refine wpList_load_row rfl 126 _ rfl p7 rfl 126 (plC y).toArray (0,0) _ HBy.out underlying126 rfl HI.out ?_;unfold plC;go_frame);refine HC.out.mono ?_;rintro e w2 ⟨rfl,x2⟩;have HT2:=lh (HTy.out.trans (Touch.of x2));have HR2:=lh (HRy.out.ext x2);have HB2:=lh ((x2.block (ltB HBy.out)).trans HBy.out);clear x2 HC HTy HRy HBy
    cases b with
    | true =>
     go_wp2;go_roundw
     case rel=>exact ⟨i,j+1,l1,by omega,by omega,rfl,by go_num,HL.out,by rw [HNx.out];simp,HS.out,HR2.out,HT2.out⟩
     case measure=>simp [intOf] <;> omega
    | false =>
     have HTh:=lh (show w2.there g (i*2) (plC y).toArray.size from HR2.out.room (by have:=HR2.out.le;have:=HL.out;simp [plC];omega));obtain ⟨k1,k2⟩:=HR2.out.store (show i<l1.length by have:=HL.out;omega) y;have HR3:=lh k1;have HT3:=lh (HT2.out.trans k2);have HOy:=lh (show (plC y).toArray.all (·.oneCell')=true from by simp [plC,Value.oneCell']);clear k1 k2
     go_wp2_with (first
      | (refine wpList_load_row rfl 126 _ rfl p7 rfl 126 (plC y).toArray (0,0) _ HB2.out underlying126 rfl HI.out ?_;go_frame)
      | (refine wpList_storeP rfl 126 _ _ rfl g (i*2) (plC y) rfl rfl HTh.out HI.out HOy.out ?_;intro w9 hw9;have HW9:=lh hw9;clear hw9;go_frame))
     have HR9:=lh (show RowP w9 g cap (l1.set i y) from by rw [HW9.out];exact HR3.out);have HT9:=lh (show Touch g w w9 from by rw [HW9.out];exact HT3.out);clear HW9 HR3 HT3 HTh;go_roundw
     case rel=>exact ⟨i+1,j+1,l1.set i y,by omega,by omega,by go_num,by go_num,by rw [List.length_set];exact HL.out,by rw [HNx.out,List.take_add_one,List.take_set_of_le (Nat.le_refl _),List.getElem?_set_self (by have:=HL.out;omega)];simp,fun t ht=>by rw [List.getElem?_set_ne (by omega)];exact HS.out t (by omega),HR9.out,HT9.out⟩
     case measure=>simp [intOf] <;> omega
   ·obtain rfl:j=n:=by omega
    obtain ⟨Z,hZ2⟩:=run_clear_pls (w:=wr) (g:=g) (off:=i*2) (n:=j - i) (c:=cap - i) (by omega) (HR1.out.room (by omega));obtain ⟨k1,k2⟩:=HR1.out.head i Z;have HF:=lh k1;have HTF:=lh (HT.out.trans k2);have HDn:=lh (show restP nm l=l1.take i from by rw [<-HDd.out,HN.out,List.take_length]);have HLn:=lh (show i=(restP nm l).length from by rw [HDn.out,List.length_take];have:=HL.out;omega);have hcl:∀ ty,(Builtin.clear_ #[209] ty #[.slice (some ⟨g,i*2,none⟩) (j - i) (cap - i)]).run prog wr=.ok (.tuple #[]) (wr.setCells g (i*2) Z):=hZ2;clear hZ2 k1 k2 HQ;go_wp2_with fail;go_ret;exact ⟨i,rfl,HLn.out,by rw [HDn.out];exact HF.out,HTF.out⟩
end
section
open Go.RowKit Go.Shelf
theorem MapAt.le {w:World} {b n m:Nat} {f:ByteArray->Option Value} (h:MapAt w b n f) (hm:n<=m):MapAt w b m f:=by
 obtain ⟨D,⟨es,clock,h1,h2,h3,h4⟩,h5⟩:=h;exact ⟨D,⟨es,clock,h1,h2,Nat.le_trans h3 hm,h4⟩,h5⟩
theorem MapH.le {w:World} {b n m:Nat} {f:List UInt8->Option Value} (h:MapH w b n f) (hm:n<=m):MapH w b m f:=by
 obtain ⟨D,⟨es,clock,h1,h2,h3,h4⟩,h5⟩:=h;exact ⟨D,⟨es,clock,h1,h2,Nat.le_trans h3 hm,h4⟩,h5⟩
structure FinIn (w:World) (F bf bp q:Nat) (ff:ByteArray->Option (List UInt8)) (vf:ByteArray->Value) (pl:List UInt8->List Pl) (vp:List UInt8->Value) (M I:List Nat):Prop where
 blk:w.heap[F]?=some (.cells #[.map (some bf),.map (some bp)] 213 (0,0))
 files:MapAt w bf q (fun s=>(ff s).map fun _=>vf s)
 places:MapH w bp q (fun h=>if pl h=[] then none else some (vp h))
 file:∀ s d,ff s=some d->d.length<=4096/\w.ownsRow 0 5 1 (vf s) d.length (d.map bv)
 row:∀ h,h.length=32->pl h≠[]->w.ownsRow 0 126 2 (vp h) (pl h).length (plsV (pl h))
 nd:∀ h h' b,h.length=32->h'.length=32->h≠h'->pl h≠[]->pl h'≠[]->(vp h).ownBlock=some b->(vp h').ownBlock≠some b
 mf:bf∈M
 mb:bp∈M
 mp:∀ h b,h.length=32->pl h≠[]->(vp h).ownBlock=some b->b∈M
 fi:F∈I
 vi:∀ s d b,ff s=some d->(vf s).ownBlock=some b->b∈I
 lt:∀ b,b∈M\/b∈I->b<w.heap.size
 dis:∀ b∈M,b∉I
 len:∀ h,(pl h).length<=q
 bne:bf≠bp
structure FinRel (ff:ByteArray->Option (List UInt8)) (pl:List UInt8->List Pl):Prop where
 mem:∀ h,h.length=32->∀ n k,(n,k)∈pl h↔∃ (d:List UInt8) (j:Nat),k=(j:Int)/\ff n=some d/\(hashesL d)[j]?=some h
 size:∀ n d,ff n=some d->n.size<=1000000
theorem FinIn.kept {w w':World} {F bf bp q:Nat} {ff:ByteArray->Option (List UInt8)} {vf:ByteArray->Value} {pl:List UInt8->List Pl} {vp:List UInt8->Value} {M I:List Nat} (h:FinIn w F bf bp q ff vf pl vp M I) (hs:w.heap.size<=w'.heap.size)
  (hk:∀ b,b<w.heap.size->b∈M\/b∈I->w'.heap[b]?=w.heap[b]?):FinIn w' F bf bp q ff vf pl vp M I:=by
 have kM:∀ b,b∈M->w'.heap[b]?=w.heap[b]?:=fun b hb=>hk b (h.lt b (.inl hb)) (.inl hb);have kI:∀ b,b∈I->w'.heap[b]?=w.heap[b]?:=fun b hb=>hk b (h.lt b (.inr hb)) (.inr hb)
 exact ⟨(kI F h.fi).trans h.blk,h.files.kept (kM bf h.mf),h.places.kept (kM bp h.mb),fun s d hd=>⟨(h.file s d hd).1,owns_blocks (h.file s d hd).2 fun b hb=>kI b (h.vi s d b hd hb)⟩,
  fun x hx h0=>owns_blocks (h.row x hx h0) fun b hb=>kM b (h.mp x b hx h0 hb),h.nd,h.mf,h.mb,h.mp,h.fi,h.vi,fun b hb=>Nat.lt_of_lt_of_le (h.lt b hb) hs,h.dis,h.len,h.bne⟩
theorem FinIn.ext {w w':World} {F bf bp q:Nat} {ff:ByteArray->Option (List UInt8)} {vf:ByteArray->Value} {pl:List UInt8->List Pl} {vp:List UInt8->Value} {M I:List Nat} (h:FinIn w F bf bp q ff vf pl vp M I) (x:Ext w w'):FinIn w' F bf bp q ff vf pl vp M I :=
 h.kept x.size fun _ hb _=>x.block hb
set_option maxRecDepth 100000 in
theorem fin_is {w:World} {F bf bp q:Nat} {ff:ByteArray->Option (List UInt8)} {vf:ByteArray->Value} {pl:List UInt8->List Pl} {vp:List UInt8->Value} {M I:List Nat} (h:FinIn w F bf bp q ff vf pl vp M I) :
  Calls prog 147 #[.pointer (some ⟨F,0,none⟩)] w fun e w'=>e=.returned (.bool true)/\Ext w w':=by
 have k0:w.cell? ⟨F,0,none⟩=some (.map (some bf)):=cellB h.blk;have hne:∀ w,(binOp BinOp.neq 210 (.map (some bf)) (.map none)).run prog w=.ok (.bool true) w:=fun w=>by kernel_rfl
 clear h;go_enter func147,ntmps147;go_wp2;go_ret;exact ⟨rfl,Ext.refl _⟩
set_option maxRecDepth 100000 in
theorem fin_new (w:World):Calls prog 108 #[] w fun e w'=>e=.returned (.pointer (some ⟨w.heap.size+2,0,none⟩))/\w'=((w.alloc (.map #[] 0)).alloc (.map #[] 0)).alloc (.cells #[.map (some w.heap.size),.map (some (w.heap.size+1))] 213):=by
 have hmm:=@run_makeMap prog;go_enter func108,ntmps108;go_wp2;go_ret;exact ⟨rfl,rfl⟩
theorem FinIn.made (w:World):FinIn (((w.alloc (.map #[] 0)).alloc (.map #[] 0)).alloc (.cells #[.map (some w.heap.size),.map (some (w.heap.size+1))] 213)) (w.heap.size+2) w.heap.size (w.heap.size+1) 0 (fun _=>none) (fun _=>.slice none 0 0) (fun _=>[]) (fun _=>.slice none 0 0) [w.heap.size,w.heap.size+1] [w.heap.size+2]:=by
 have x1:Ext (w.alloc (.map #[] 0)) (((w.alloc (.map #[] 0)).alloc (.map #[] 0)).alloc (.cells #[.map (some w.heap.size),.map (some (w.heap.size+1))] 213)):=((Ext.refl _).alloc _).alloc _;have x2:Ext ((w.alloc (.map #[] 0)).alloc (.map #[] 0)) (((w.alloc (.map #[] 0)).alloc (.map #[] 0)).alloc (.cells #[.map (some w.heap.size),.map (some (w.heap.size+1))] 213)):=(Ext.refl _).alloc _;have m2:=(MapH.made (w.alloc (.map #[] 0))).ext x2;have b3:=block_alloc_new ((w.alloc (.map #[] 0)).alloc (.map #[] 0)) (.cells #[.map (some w.heap.size),.map (some (w.heap.size+1))] 213 (0,0));simp only [size_alloc] at m2 b3;refine ⟨b3,(MapAt.made w).ext x1,m2,fun s d h=>(by cases h),fun h _ h0=>absurd rfl h0,fun h h' b _ _ _ h0=>absurd rfl h0,by simp,by simp,fun h b _ h0=>absurd rfl h0,by simp,fun s d b h=>(by cases h),fun b hb=>?_,fun b hb=>?_,fun h=>Nat.zero_le _,by omega⟩
 ·simp only [List.mem_cons,List.not_mem_nil,or_false] at hb;simp only [size_alloc];omega
 ·simp only [List.mem_cons,List.not_mem_nil,or_false] at hb ⊢;omega
end
section
open Go.RowKit Go.Shelf
attribute [local go_sem] Oper.semAt_some
theorem aggH (w:World):(isAgg 9).run prog w=.ok false w:=by kernel_rfl
theorem aggI (w:World):(isAgg 3).run prog w=.ok false w:=by kernel_rfl
def FoundP (ff:ByteArray->Option (List UInt8)) (pl:List Pl) (x:List UInt8) (b0:Nat) (w':World) (v:Value) (p:Pl) (b:Bool):Prop :=
 (b=false/\pl=[]/\v=.slice none 0 0/\p=(⟨#[]⟩,0)) \/
 (b=true/\pl≠[]/\p=minN pl (pl.length - 1)/\∃ (d:List UInt8) (j:Nat),p.2=(j:Int)/\ff p.1=some d/\(hashesL d)[j]?=some x/\w'.ownsRow b0 5 1 v (partL d j).length ((partL d j).map bv))
def FindOut (ff:ByteArray->Option (List UInt8)) (pl:List Pl) (x:List UInt8) (w:World) (e:Ending) (w':World):Prop :=
 ∃ v p b,e=.returned (.tuple #[v,plV p,.bool b])/\FoundP ff pl x w.heap.size w' v p b/\Ext w w'
theorem minN_mem:∀ (l:List Pl) (k:Nat),k<l.length->minN l k∈l
 | l,0,h=>by
  obtain ⟨x,hx⟩:∃ x,l[0]?=some x:=⟨_,List.getElem?_eq_getElem h⟩;rw [minN,List.getD_eq_getElem?_getD,hx];exact List.mem_of_getElem? hx
 | l,k+1,h=>by
  rw [minN];split
  ·obtain ⟨x,hx⟩:∃ x,l[k+1]?=some x:=⟨_,List.getElem?_eq_getElem h⟩;rw [List.getD_eq_getElem?_getD,hx];exact List.mem_of_getElem? hx
  ·exact minN_mem l k (by omega)
theorem hashesL_len' (l:List UInt8):(hashesL l).length=countN l.length:=by simp [hashesL]
set_option maxRecDepth 100000 in
set_option maxHeartbeats 4000000 in
theorem fin_find {w:World} {F bf bp q:Nat} {ff:ByteArray->Option (List UInt8)} {vf:ByteArray->Value} {pl:List UInt8->List Pl} {vp:List UInt8->Value} {M I:List Nat} (h:FinIn w F bf bp q ff vf pl vp M I) (R:FinRel ff pl) (hq:q<=10000) (x:List UInt8) (hx:x.length=32) :
  Calls prog 78 #[.pointer (some ⟨F,0,none⟩),.agg (hArr x 32)] w fun e w'=>FindOut ff (pl x) x w e w':=by
 have HF:=lh h;have HI:=lh (fun w' (X:Ext w w')=>fin_is (h.ext X));have HZh:=lh (show (prog.info? 45).map (·.size)=some (hArr x 32).size from by rw [hArr_size _ _ hx (by omega)];kernel_rfl);have HZp:=lh (show (prog.info? 126).map (·.size)=some 2 from by kernel_rfl);have HOp:=lh (fun a:Pl=>(by simp [plC,Value.oneCell']:(plC a).toArray.all (·.oneCell')=true));have HL:=lh (fun w' (X:Ext w w')=>(h.ext X).places.look (t:=211) (e:=209) (by kernel_rfl) (z:=.slice none 0 0) (by kernel_rfl) x hx);obtain ⟨W1,hW1⟩:∃ W1,W1=(w.alloc (.cells (hArr x 32) 45 (0,0))).alloc (.cells #[.string ⟨#[]⟩,.int .i64 0] 126 (0,0)):=⟨_,rfl⟩;have HX1:=lh (show Ext w W1 from hW1▸((Ext.refl w).alloc _).alloc _)
 have HB3:=lh (show W1.heap[w.heap.size]?=some (.cells (hArr x 32) 45 (0,0)) from by
  rw [hW1,block_alloc_old (by rw [size_alloc];omega)];exact block_alloc_new _ _)
 have HB5:=lh (show W1.heap[w.heap.size+1]?=some (.cells #[.string ⟨#[]⟩,.int .i64 0] 126 (0,0)) from by
  have:=block_alloc_new (w.alloc (.cells (hArr x 32) 45 (0,0))) (.cells #[.string ⟨#[]⟩,.int .i64 0] 126 (0,0));rw [size_alloc] at this
  rw [hW1];exact this)
 have HR:=lh R;generalize hA:hArr x 32=A at *;have k1:∀ z:After W1,z.v.cell? ⟨F,1,none⟩=some (.map (some bp)):=fun z=>cellB ((HF.out.ext (HX1.out.trans z.x)).blk)
 have HQ3:=lh (show ∀ w',(∃ z:After W1,w'=z.v)->w'.heap[w.heap.size]?=some (.cells A 45 (0,0)) from by
  rintro _ ⟨z,rfl⟩
  exact (z.x.block (ltB HB3.out)).trans HB3.out)
 have HIz:=lh (fun z:After W1=>HI.out _ (HX1.out.trans z.x))
 cases hpl:pl x with
 | nil =>
  have hl:∀ z:After W1,(Instr.lookup 211 (.map (some bp)) (.agg A) false).run prog z.v=.ok (.slice none 0 0) z.v:=fun z=>by
   have:=HL.out _ (HX1.out.trans z.x);rw [if_pos hpl] at this;exact this
  clear h R HL HF;go_enter func78,ntmps78;go_upto_region 1 with (fail)
  rw [<-hW1];clear hW1;refine wp_region_after (by kernel_rfl) (by kernel_rfl) ?_;go_big_quiet_step (fail);go_big_quiet_step (exact After.of (HIz.out _))
  iterate 6 go_big_quiet_step (fail)
  refine wpQuiet_load_row_g rfl 45 _ rfl w.heap.size rfl 45 A (0,0) _ HQ3.out underlying45 rfl HZh.out ?_;go_frame
  iterate 4 go_big_quiet_step (fail)
  refine wpQuiet_nil ?_;rintro _ ⟨z,rfl⟩;have HBz:=lh ((z.x.block (ltB HB5.out)).trans HB5.out);have HXz:=lh (HX1.out.trans z.x);clear k1 hl HIz HQ3;go_wp2_with (refine wpList_storeT rfl _ _ _ rfl (w.heap.size+1) (plC (⟨#[]⟩,0)).toArray rfl rfl 126 _ HBz.out HZp.out rfl (HOp.out _) ?_;intro w9 hb9 ht9;have HB9:=lh hb9;have HT9:=lh ht9;clear hb9 ht9;go_frame);refine bodyPost_ret (results_row3 rfl _ _ (w.heap.size+1) 126 _ (0,0) _ rfl HB9.out underlying126 rfl HZp.out) rfl ?_;exact ⟨_,(⟨#[]⟩,0),_,rfl,.inl ⟨rfl,rfl,rfl,rfl⟩,HT9.out.fresh HXz.out (Nat.le_succ _)⟩
 | cons p0 pr =>
  have hne:pl x≠[]:=by rw [hpl];simp
  obtain ⟨g,cap,hvp,_,hcap,hln,hRow⟩:=RowP.of (h.row x hx hne) (by rw [hpl];simp);have HRow:=lh hRow;have hlen:=h.len x;have hpos:0<(pl x).length:=by rw [hpl];simp
  have hmem:=minN_mem (pl x) ((pl x).length - 1) (by omega);obtain ⟨d,j,hpj,hpd,hpx⟩:=(R.mem x hx _ _).1 (show ((minN (pl x) ((pl x).length - 1)).1,(minN (pl x) ((pl x).length - 1)).2)∈pl x from hmem);have hsz:=R.size _ _ hpd;have hfile:=h.file _ _ hpd
  have hj:j<countN d.length:=by
   have:=(List.getElem?_eq_some_iff.1 hpx).1
   rwa [hashesL_len'] at this
  rw [<-hpl];have HMin:=lh (fun w' (X:Ext w w')=>fmin_any (cap:=cap) (fun j u hj=>by have:=(hRow.ext X).at' j u hj;rwa [Nat.zero_add] at this) hpos (by omega));have HFil:=lh (fun w' (X:Ext w w')=>(h.ext X).files.look (t:=210) (e:=22) (by kernel_rfl) (z:=.slice none 0 0) (by kernel_rfl) (minN (pl x) ((pl x).length - 1)).1 (by unfold maxLen;omega));have HPart:=lh (fun w' (X:Ext w w')=>bPart_any w'.heap.size d (vf (minN (pl x) ((pl x).length - 1)).1) j w' (ownB_off (owns_ext hfile.2 X) (Nat.le_refl _)) hfile.1 hj);have HPD:=lh hpd;have HPX:=lh hpx;have HPJ:=lh hpj;have HNE:=lh hne;simp only [hpd,Option.map_some,Option.getD_some] at HFil
  have hl:∀ z:After W1,(Instr.lookup 211 (.map (some bp)) (.agg A) false).run prog z.v=.ok (vp x) z.v:=fun z=>by
   have:=HL.out _ (HX1.out.trans z.x);rw [if_neg hne] at this;exact this
  have hl3:=lh (show ∀ w',Ext w w'->(Instr.lookup 211 (.map (some bp)) (.agg A) false).run prog w'=.ok (vp x) w' from fun w' X=>by
   have:=HL.out _ X;rw [if_neg hne] at this
   exact this)
  rw [hvp] at hl hl3;generalize hm:minN (pl x) ((pl x).length - 1)=m at *;obtain ⟨mn,mk⟩:=m;dsimp only at hpj HPD HFil HPart HPJ;subst hpj;clear hln;generalize hn:(pl x).length=n at *;have HM:=lh hm;have HN:=lh hn;have hnz:(((n:Nat):Int)==0)=false:=by rw [beq_eq_false_iff_ne];omega
  clear h R HL hpl hm hn hfile hpd hpx hne hmem hvp hRow;go_enter func78,ntmps78;go_upto_region 1 with (fail)
  rw [<-hW1];clear hW1;refine wp_region_after (by kernel_rfl) (by kernel_rfl) ?_;go_big_quiet_step (fail);go_big_quiet_step (exact After.of (HIz.out _))
  iterate 6 go_big_quiet_step (fail)
  refine wpQuiet_load_row_g rfl 45 _ rfl w.heap.size rfl 45 A (0,0) _ HQ3.out underlying45 rfl HZh.out ?_;go_frame
  iterate 4 go_big_quiet_step (fail)
  refine wpQuiet_nil ?_;rintro _ ⟨z,rfl⟩;have HXz:=lh (HX1.out.trans z.x);have HBz:=lh ((z.x.block (ltB HB5.out)).trans HB5.out);have HHz:=lh ((z.x.block (ltB HB3.out)).trans HB3.out);clear k1 hl HIz HQ3;go_upto_region 3 with (fail)
  refine wp_region_held (S:=fun w'=>Ext z.v w') (by kernel_rfl) ?_;change wpAnyH _ _ _ _ _ _ _ _ (World.drew _);have SD:=(Ext.refl z.v).drew;generalize z.v.drew=wd at *;have kz:∀ w',Ext z.v w'->w'.cell? ⟨F,1,none⟩=some (.map (some bp)):=fun w' X=>cellB ((HF.out.ext (HXz.out.trans X)).blk);refine wpAnyH_takeL (i:=0) (v:=.pointer (some ⟨F,0,none⟩)) rfl (by kernel_rfl) (by kernel_rfl) (by kernel_rfl) (fun _ _ _ h=>h) (Or.inl ⟨rfl,fun w' _=>by go_simp⟩) SD ?_;go_frame;refine wpAnyH_takeL (i:=1) (v:=.pointer (some ⟨F,0,none⟩)) rfl (by kernel_rfl) (by kernel_rfl) (by kernel_rfl) (fun _ _ _ h=>h) (Or.inl ⟨rfl,fun w' _=>by go_simp⟩) SD ?_;go_frame;refine wpAnyH_takeL (i:=2) (v:=.pointer (some ⟨F,1,none⟩)) rfl (by kernel_rfl) (by kernel_rfl) (by kernel_rfl) (fun _ _ _ h=>h) (Or.inl ⟨rfl,fun w' _=>by go_simp⟩) SD ?_;go_frame;refine wpAnyH_takeL (i:=3) (v:=.map (some bp)) rfl (by kernel_rfl) (by kernel_rfl) (by kernel_rfl) (fun _ _ _ h=>h) (Or.inl ⟨rfl,fun w' h=>by have:=kz w' h;go_simp⟩) SD ?_;go_frame;refine wpAnyH_takeL (i:=4) (v:=.agg A) rfl (by kernel_rfl) (by kernel_rfl) (by kernel_rfl) (fun _ _ _ h=>h) (yieldsIf_load_row rfl 45 _ rfl w.heap.size rfl 45 A (0,0) _ (fun w' X=>(X.block (ltB HHz.out)).trans HHz.out) underlying45 rfl HZh.out) SD ?_;go_frame;refine wpAnyH_takeL (i:=5) (v:=.slice (some ⟨g,0,none⟩) n cap) rfl (by kernel_rfl) (by kernel_rfl) (by kernel_rfl) (fun _ _ _ h=>h) (yieldsIf_lookup rfl 211 _ _ rfl (vm:=.map (some bp)) (vk:=.agg A) rfl rfl (fun w' X=>hl3.out w' (HXz.out.trans X))) SD ?_;go_frame;have HAL:=fun {o:Oper} {a:Act} (ho:o.op=.alloc 126) w=>run_allocOp (P:=prog) (o:=o) (a:=a) 126 ho w #[.string ⟨#[]⟩,.int .i64 0] _ rfl (by kernel_rfl);refine wpAnyH_call_or (i:=6) (j:=7) (F:=148) (args:=#[.slice (some ⟨g,0,none⟩) n cap,.func (.func 149) #[] #[]]) (v:=.pointer (some ⟨wd.heap.size,0,none⟩)) (w2:=wd.alloc (.cells #[.string ⟨#[]⟩,.int .i64 0] 126)) (by kernel_rfl) rfl rfl rfl rfl (by go_simp) (HAL rfl wd) (SD.alloc _) ?arm1 ?arm2
  case' arm1 =>
   refine (HMin.out _ (HXz.out.trans SD)).mono ?_;rintro e wm ⟨rfl,xm⟩;refine ⟨_,rfl,SD.trans xm,?_⟩;go_frame;refine wpAnyH_one (i:=7) (v:=.pointer (some ⟨wm.heap.size,0,none⟩)) (by kernel_rfl) rfl rfl (HAL rfl wm) ((SD.trans xm).alloc _) ?_;go_frame;have hB7:=block_alloc_new wm (.cells #[.string ⟨#[]⟩,.int .i64 0] 126 (0,0));have SW:=(SD.trans xm).alloc (.cells #[.string ⟨#[]⟩,.int .i64 0] 126 (0,0));have h7:z.v.heap.size<=wm.heap.size:=(SD.trans xm).size;obtain ⟨b7,e7⟩:∃ b,b=wm.heap.size:=⟨_,rfl⟩;generalize wm.alloc (.cells #[.string ⟨#[]⟩,.int .i64 0] 126 (0,0))=W at *;rw [<-e7] at hB7 h7 ⊢;clear e7 xm;refine wpAnyH_storeT (i:=8) (by kernel_rfl) rfl rfl 126 _ _ rfl b7 (plC (mn,(j:Int))).toArray rfl rfl 126 #[.string ⟨#[]⟩,.int .i64 0] hB7 HZp.out rfl (HOp.out _) fun y1 hb1 ht1=>?_;have SX:=ht1.fresh SW h7;refine ⟨SX,?_⟩;clear ht1 hB7 SW HAL SD kz;go_frame;refine wpAnyH_done (by kernel_rfl) ?_ _
  case' arm2 =>
   go_frame;have xa:=SD.alloc (.cells #[.string ⟨#[]⟩,.int .i64 0] 126 (0,0));have hA7:=block_alloc_new wd (.cells #[.string ⟨#[]⟩,.int .i64 0] 126 (0,0));have h7:z.v.heap.size<=wd.heap.size:=SD.size;obtain ⟨b7,e7⟩:∃ b,b=wd.heap.size:=⟨_,rfl⟩;generalize wd.alloc (.cells #[.string ⟨#[]⟩,.int .i64 0] 126 (0,0))=wa at *;rw [<-e7] at hA7 h7 ⊢;refine wpAnyH_call (i:=6) (F:=148) (args:=#[.slice (some ⟨g,0,none⟩) n cap,.func (.func 149) #[] #[]]) (by kernel_rfl) rfl rfl (by go_simp) ?_;refine (HMin.out _ (HXz.out.trans xa)).mono ?_;rintro e W ⟨rfl,xm⟩;have SW:=xa.trans xm;refine ⟨_,rfl,SW,?_⟩;go_frame;have hB7:=(xm.block (ltB hA7)).trans hA7;clear e7 xm hA7 xa;refine wpAnyH_storeT (i:=8) (by kernel_rfl) rfl rfl 126 _ _ rfl b7 (plC (mn,(j:Int))).toArray rfl rfl 126 #[.string ⟨#[]⟩,.int .i64 0] hB7 HZp.out rfl (HOp.out _) fun y1 hb1 ht1=>?_;have SX:=ht1.fresh SW h7;refine ⟨SX,?_⟩;clear ht1 hB7 SW HAL SD kz;go_frame;refine wpAnyH_done (by kernel_rfl) ?_ _
  all_goals (
   have HX3:=lh (HXz.out.trans SX);have HB7:=lh hb1;have HB5:=lh ((SX.block (ltB HBz.out)).trans HBz.out);have hs5:=ltB HBz.out;have h57:w.heap.size+1≠b7:=by omega
   go_upto_region 4 with (fail)
   refine wp_region_held (S:=fun w'=>Ext w w'/\w'.heap[b7]?=some (.cells (plC (mn,(j:Int))).toArray 126 (0,0))) (by kernel_rfl) ?_;change wpAnyH _ _ _ _ _ _ _ _ (World.drew _);have XD:=(Ext.refl y1).drew;generalize y1.drew=we at *;have SD:Ext w we/\we.heap[b7]?=some (.cells (plC (mn,(j:Int))).toArray 126 (0,0)):=⟨HX3.out.trans XD,(XD.block (ltB HB7.out)).trans HB7.out⟩;have q0:∀ w',Ext w w'->w'.cell? ⟨F,0,none⟩=some (.map (some bf)):=fun w' X=>cellB ((HF.out.ext X).blk);refine wpAnyH_takeL (i:=0) (v:=.pointer (some ⟨F,0,none⟩)) rfl (by kernel_rfl) (by kernel_rfl) (by kernel_rfl) (fun _ _ _ h=>h) (Or.inl ⟨rfl,fun w' _=>by go_simp⟩) SD ?_;go_frame;refine wpAnyH_takeL (i:=1) (v:=.pointer (some ⟨F,0,none⟩)) rfl (by kernel_rfl) (by kernel_rfl) (by kernel_rfl) (fun _ _ _ h=>h) (Or.inl ⟨rfl,fun w' _=>by go_simp⟩) SD ?_;go_frame;refine wpAnyH_takeL (i:=2) (v:=.pointer (some ⟨F,0,none⟩)) rfl (by kernel_rfl) (by kernel_rfl) (by kernel_rfl) (fun _ _ _ h=>h) (Or.inl ⟨rfl,fun w' _=>by go_simp⟩) SD ?_;go_frame;refine wpAnyH_takeL (i:=3) (v:=.map (some bf)) rfl (by kernel_rfl) (by kernel_rfl) (by kernel_rfl) (fun _ _ _ h=>h) (Or.inl ⟨rfl,fun w' h=>by have:=q0 w' h.1;go_simp⟩) SD ?_;go_frame;refine wpAnyH_takeL (i:=4) (v:=.pointer (some ⟨b7,0,none⟩)) rfl (by kernel_rfl) (by kernel_rfl) (by kernel_rfl) (fun _ _ _ h=>h) (Or.inl ⟨rfl,fun w' _=>by go_simp⟩) SD ?_;go_frame;refine wpAnyH_takeL (i:=5) (v:=.string mn) rfl (by kernel_rfl) (by kernel_rfl) (by kernel_rfl) (fun _ _ _ h=>h) (yieldsIf_cell rfl _ _ rfl b7 0 rfl aggH (fun w' h=>cellB h.2)) SD ?_;go_frame;refine wpAnyH_takeL (i:=6) (v:=vf mn) rfl (by kernel_rfl) (by kernel_rfl) (by kernel_rfl) (fun _ _ _ h=>h) (yieldsIf_lookup rfl 210 _ _ rfl (vm:=.map (some bf)) (vk:=.string mn) rfl rfl (fun w' h=>HFil.out w' h.1)) SD ?_;go_frame;refine wpAnyH_takeL (i:=7) (v:=.pointer (some ⟨b7,1,none⟩)) rfl (by kernel_rfl) (by kernel_rfl) (by kernel_rfl) (fun _ _ _ h=>h) (Or.inl ⟨rfl,fun w' _=>by go_simp⟩) SD ?_;go_frame;refine wpAnyH_takeL (i:=8) (v:=.int .i64 j) rfl (by kernel_rfl) (by kernel_rfl) (by kernel_rfl) (fun _ _ _ h=>h) (yieldsIf_cell rfl _ _ rfl b7 1 rfl aggI (fun w' h=>cellB h.2)) SD ?_;go_frame;refine wpAnyH_takeL (i:=10) (v:=.agg (plC (mn,(j:Int))).toArray) rfl (by kernel_rfl) (by kernel_rfl) (by kernel_rfl) (fun _ _ _ h=>h) (yieldsIf_load_row rfl 126 _ rfl b7 rfl 126 _ (0,0) _ (fun w' h=>h.2) underlying126 rfl HZp.out) SD ?_;go_frame;refine wpAnyH_call (i:=9) (F:=17) (args:=#[vf mn,.int .i64 j]) (by kernel_rfl) rfl rfl (by go_simp) ?_;refine (HPart.out _ SD.1).mono ?_;rintro e W9 ⟨uu,rfl,hu⟩;have XW:=XD.trans hu.out.2;have HUo:=lh hu.out.1;have hwe:=XD.size;have SW:Ext w W9/\W9.heap[b7]?=some (.cells (plC (mn,(j:Int))).toArray 126 (0,0)):=⟨HX3.out.trans XW,(XW.block (ltB HB7.out)).trans HB7.out⟩;refine ⟨_,rfl,SW,?_⟩;clear hu SD;go_frame;refine wpAnyH_takeL (i:=11) (v:=uu) rfl (by kernel_rfl) (by kernel_rfl) (by kernel_rfl) (fun _ _ _ h=>h) (yieldsIf_assign rfl _ rfl rfl) SW ?_;go_frame;have hOld:=(XW.block (ltB HB5.out)).trans HB5.out;refine wpAnyH_storeT (i:=12) (by kernel_rfl) rfl rfl 126 _ _ rfl (w.heap.size+1) (plC (mn,(j:Int))).toArray rfl rfl 126 #[.string ⟨#[]⟩,.int .i64 0] hOld HZp.out rfl (HOp.out _) fun y2 hb2 ht2=>?_;have SY:Ext w y2/\y2.heap[b7]?=some (.cells (plC (mn,(j:Int))).toArray 126 (0,0)):=⟨ht2.fresh SW.1 (Nat.le_succ _),(ht2.block b7 (ltB SW.2) (fun e=>h57 (Option.some.inj e).symm)).trans SW.2⟩;have HUf:=lh (owns_low (owns_touch2 HUo.out ht2 (by have:=SX.size;omega)) (show w.heap.size<=we.heap.size from by have:=SX.size;omega));refine ⟨SY,?_⟩;clear hOld ht2 SW XW;go_frame;refine wpAnyH_takeL (i:=13) (v:=.bool true) rfl (by kernel_rfl) (by kernel_rfl) (by kernel_rfl) (fun _ _ _ h=>h) (yieldsIf_assign rfl _ rfl rfl) SY ?_;go_frame;refine wpAnyH_done (by kernel_rfl) ?_ _;go_wp2_with fail;refine bodyPost_ret (results_row3 rfl _ _ (w.heap.size+1) 126 _ (0,0) _ rfl hb2 underlying126 rfl HZp.out) rfl ?_
   exact ⟨_,(mn,(j:Int)),_,rfl,.inr ⟨rfl,HNE.out,by rw [HN.out];exact HM.out.symm,d,j,rfl,HPD.out,HPX.out,HUf.out⟩,SY.1⟩)
end
section
open Go.RowKit Go.Shelf
attribute [local go_sem] Oper.semAt_some
def RowL (w:World) (v:Value) (l:List Pl):Prop:=(l=[]/\v=.slice none 0 0)\/(l≠[]/\w.ownsRow 0 126 2 v l.length (plsV l))
theorem RowL.ext {w w':World} {v:Value} {l:List Pl} (h:RowL w v l) (x:Ext w w'):RowL w' v l:=h.elim .inl fun ⟨h1,h2⟩=>.inr ⟨h1,owns_ext h2 x⟩
def DelOut (nm:ByteArray) (l:List Pl) (v:Value) (w:World) (e:Ending) (w':World):Prop :=
 ∃ a cap,e=.returned (.slice a (restP nm l).length cap)/\(Value.slice a (restP nm l).length cap).ownBlock=v.ownBlock/\(restP nm l≠[]->w'.ownsRow 0 126 2 (.slice a (restP nm l).length cap) (restP nm l).length (plsV (restP nm l)))/\w.grownBy w' v.ownBlock
theorem fdel_nil (nb:Nat) (w:World):Calls prog 209 #[.slice none 0 0,.func (.func 210) #[] #[.pointer (some ⟨nb,0,none⟩)]] w fun e w'=>e=.returned (.slice none 0 0)/\Ext w w':=by
 have HI:=lh (show Calls prog 250 #[.slice none 0 0,.func (.func 210) #[] #[.pointer (some ⟨nb,0,none⟩)]] w (fun e w'=>e=.returned (.int .i64 (-1))/\w'=w) from by
  go_enter func250,ntmps250;go_wp2;refine wp_loop_rounds 1 ?_;rw [rounds_succ];go_wp2;go_ret
  exact ⟨rfl,rfl⟩)
 go_enter func209,ntmps209;go_wp2_with fail;refine HI.out.mono ?_;rintro e w1 ⟨rfl,rfl⟩;go_wp2;go_ret;exact ⟨rfl,Ext.refl _⟩
theorem fdel_row {w:World} {v:Value} {l:List Pl} {nb:Nat} {nm:ByteArray} (h:RowL w v l) (hn:w.cell? ⟨nb,0,none⟩=some (.string nm)) (hnb:v.ownBlock≠some nb) (hl:l.length<=100000) :
  Calls prog 209 #[v,.func (.func 210) #[] #[.pointer (some ⟨nb,0,none⟩)]] w fun e w'=>DelOut nm l v w e w':=by
 rcases h with ⟨rfl,rfl⟩ | ⟨h0,h⟩
 ·refine (fdel_nil nb w).mono ?_;rintro e w' ⟨rfl,x⟩;exact ⟨none,0,rfl,rfl,fun h=>absurd rfl h,⟨x.os,x.tape,x.output,x.size,fun i hi _=>x.block hi⟩⟩
 ·obtain ⟨g,cap,rfl,_,hcap,_,hR⟩:=RowP.of h (by cases l with | nil=>exact absurd rfl h0 | cons _ _=>simp);refine (fdel_any hR hn (fun e=>hnb (by rw [e];rfl)) hl (by unfold maxLen at hcap;omega)).mono ?_;rintro e w' ⟨m,rfl,h1⟩;obtain ⟨rfl,hR',hT⟩:=h1.out;exact ⟨_,cap,rfl,rfl,fun _=>hR'.owns (Nat.zero_le _) hcap,hT⟩
theorem MapH.blk {w:World} {b n:Nat} {f:List UInt8->Option Value} (h:MapH w b n f):∃ es clock,w.heap[b]?=some (.map es clock):=by
 obtain ⟨D,⟨es,clock,h1,_⟩,_⟩:=h;exact ⟨es,clock,h1⟩
theorem MapAt.blk {w:World} {b n:Nat} {f:ByteArray->Option Value} (h:MapAt w b n f):∃ es clock,w.heap[b]?=some (.map es clock):=by
 obtain ⟨D,⟨es,clock,h1,_⟩,_⟩:=h;exact ⟨es,clock,h1⟩
theorem own_cells {w:World} {base k n:Nat} {e:TypeId} {v:Value} {xs:List Value} (h:w.ownsRow base e k v n xs) {b:Nat} (hb:v.ownBlock=some b):∃ cur,w.heap[b]?=some (.cells cur e (0,0)):=by
 rcases h.2 with ⟨rfl,_⟩ | ⟨g,cap,cur,rfl,_,hh,_⟩
 ·cases hb
 ·cases hb
  exact ⟨cur,hh⟩
def updP {α:Type} (f:List UInt8->α) (k:List UInt8) (y:α):List UInt8->α:=fun x=>if x=k then y else f x
theorem FinIn.turn {w w3:World} {F bf bp q q':Nat} {ff:ByteArray->Option (List UInt8)} {vf:ByteArray->Value} {pl:List UInt8->List Pl} {vp:List UInt8->Value} {M I:List Nat} (h:FinIn w F bf bp q ff vf pl vp M I) {k:List UInt8} {l':List Pl} {v':Value} (hk:k.length=32) (hs:w.heap.size<=w3.heap.size)
  (hb:∀ b,b<w.heap.size->b≠bp->(pl k≠[]->(vp k).ownBlock≠some b)->w3.heap[b]?=w.heap[b]?) (hq:q<=q') (hl:l'.length<=q')
  (hm:MapH w3 bp q' (fun x=>if updP pl k l' x=[] then none else some (updP vp k v' x)))
  (hr:l'≠[]->w3.ownsRow 0 126 2 v' l'.length (plsV l'))
  (hv:∀ b,l'≠[]->v'.ownBlock=some b->(pl k≠[]/\(vp k).ownBlock=some b)\/w.heap.size<=b) :
  FinIn w3 F bf bp q' ff vf (updP pl k l') (updP vp k v') (M++(if l'=[] then [] else rowB v')) I:=by
 obtain ⟨ep,cp,hbp⟩:=h.places.blk;obtain ⟨ef,cf,hbf⟩:=h.files.blk;have notp:∀ b cur t fr,w.heap[b]?=some (.cells cur t fr)->b≠bp:=fun b cur t fr hc e=>by rw [e,hbp] at hc;cases hc
 have rowne:∀ b,pl k≠[]->(vp k).ownBlock=some b->∃ cur,w.heap[b]?=some (.cells cur 126 (0,0)):=fun b h0 hb=>own_cells (h.row k hk h0) hb;refine ⟨?_,?_,hm,fun s d hd=>⟨(h.file s d hd).1,?_⟩,fun x hx h0=>?_,fun x y b hx hy hxy h0 h1 hxb hyb=>?_,List.mem_append_left _ h.mf,List.mem_append_left _ h.mb,fun x b hx h0 hxb=>?_,h.fi,h.vi,fun b hb2=>?_,fun b hb2=>?_,fun x=>?_,h.bne⟩
 ·exact (hb F (h.lt F (.inr h.fi)) (fun e=>h.dis bp h.mb (e▸h.fi)) (fun h0 e=>h.dis F (h.mp k F hk h0 e) h.fi)).trans h.blk
 ·refine MapAt.le ?_ hq;refine h.files.kept (hb bf (h.lt bf (.inl h.mf)) h.bne fun h0 e=>?_);obtain ⟨cur,hc⟩:=rowne bf h0 e;rw [hbf] at hc
  cases hc
 ·refine owns_blocks (h.file s d hd).2 fun b hbb=>hb b (own_lt (h.file s d hd).2 b hbb) ?_ ?_
  ·obtain ⟨cur,hc⟩:=own_cells (h.file s d hd).2 hbb;exact notp b _ _ _ hc
  ·exact fun h0 e=>h.dis b (h.mp k b hk h0 e) (h.vi s d b hd hbb)
 ·by_cases e:x=k
  ·subst e;simp only [updP,if_true] at h0 ⊢;exact hr h0
  ·simp only [updP,if_neg e] at h0 ⊢;refine owns_blocks (h.row x hx h0) fun b hbb=>hb b (own_lt (h.row x hx h0) b hbb) ?_ ?_
   ·obtain ⟨cur,hc⟩:=own_cells (h.row x hx h0) hbb;exact notp b _ _ _ hc
   ·exact fun hk0 ek=>h.nd k x b hk hx (fun q=>e q.symm) hk0 h0 ek hbb
 ·by_cases e1:x=k
  ·subst e1;have e2:y≠x:=fun q=>hxy q.symm;simp only [updP,if_true] at h0 hxb;simp only [updP,if_neg e2] at h1 hyb;rcases hv b h0 hxb with ⟨g0,g1⟩ | g
   ·exact h.nd x y b hx hy hxy g0 h1 g1 hyb
   ·have:=own_lt (h.row y hy h1) b hyb;omega
  ·simp only [updP,if_neg e1] at h0 hxb;by_cases e2:y=k
   ·subst e2;simp only [updP,if_true] at h1 hyb;rcases hv b h1 hyb with ⟨g0,g1⟩ | g
    ·exact h.nd y x b hy hx (fun q=>hxy q.symm) g0 h0 g1 hxb
    ·have:=own_lt (h.row x hx h0) b hxb;omega
   ·simp only [updP,if_neg e2] at h1 hyb;exact h.nd x y b hx hy hxy h0 h1 hxb hyb
 ·by_cases e:x=k
  ·subst e;simp only [updP,if_true] at h0 hxb;rw [if_neg h0];exact List.mem_append_right _ (mem_rowB.2 hxb)
  ·simp only [updP,if_neg e] at h0 hxb;exact List.mem_append_left _ (h.mp x b hx h0 hxb)
 ·rw [List.mem_append] at hb2;rcases hb2 with (hb2 | hb2) | hb2
  ·exact Nat.lt_of_lt_of_le (h.lt b (.inl hb2)) hs
  ·split at hb2
   ·cases hb2
   ·rename_i h0;exact own_lt (hr h0) b (mem_rowB.1 hb2)
  ·exact Nat.lt_of_lt_of_le (h.lt b (.inr hb2)) hs
 ·rw [List.mem_append] at hb2;rcases hb2 with hb2 | hb2
  ·exact h.dis b hb2
  ·split at hb2
   ·cases hb2
   ·rename_i h0;intro hi;rcases hv b h0 (mem_rowB.1 hb2) with ⟨g0,g1⟩ | g
    ·exact h.dis b (h.mp k b hk g0 g1) hi
    ·have:=h.lt b (.inr hi);omega
 ·by_cases e:x=k
  ·simp only [updP,if_pos e];exact hl
  ·simp only [updP,if_neg e];exact Nat.le_trans (h.len x) hq
theorem FinIn.setFile {w w3:World} {F bf bp q q':Nat} {ff ff':ByteArray->Option (List UInt8)} {vf vf':ByteArray->Value} {pl:List UInt8->List Pl} {vp:List UInt8->Value} {M I J:List Nat} (h:FinIn w F bf bp q ff vf pl vp M I) (hs:w.heap.size<=w3.heap.size)
  (hb:∀ b,b<w.heap.size->b≠bf->w3.heap[b]?=w.heap[b]?) (hq:q<=q') (hm:MapAt w3 bf q' (fun s=>(ff' s).map fun _=>vf' s))
  (hJ:∀ b∈J,w.heap.size<=b/\b<w3.heap.size)
  (hf:∀ s d,ff' s=some d->(ff s=some d/\vf' s=vf s)\/(d.length<=4096/\w3.ownsRow 0 5 1 (vf' s) d.length (d.map bv)/\∀ b,(vf' s).ownBlock=some b->b∈J)) :
  FinIn w3 F bf bp q' ff' vf' pl vp M (I++J):=by
 obtain ⟨ep,cp,hbp⟩:=h.places.blk;obtain ⟨ef,cf,hbf⟩:=h.files.blk;have notf:∀ b cur t fr,w.heap[b]?=some (.cells cur t fr)->b≠bf:=fun b cur t fr hc e=>by rw [e,hbf] at hc;cases hc
 refine ⟨(hb F (h.lt F (.inr h.fi)) (notf F _ _ _ h.blk)).trans h.blk,hm,(h.places.kept (hb bp (h.lt bp (.inl h.mb)) h.bne.symm)).le hq,fun s d hd=>?_,fun x hx h0=>?_,h.nd,h.mf,h.mb,h.mp,List.mem_append_left _ h.fi,fun s d b hd hbb=>?_,fun b hb2=>?_,fun b hb2 hi=>?_,fun x=>Nat.le_trans (h.len x) hq,h.bne⟩
 ·rcases hf s d hd with ⟨h1,h2⟩ | ⟨h1,h2,_⟩
  ·rw [h2];refine ⟨(h.file s d h1).1,owns_blocks (h.file s d h1).2 fun b hbb=>hb b (own_lt (h.file s d h1).2 b hbb) ?_⟩;obtain ⟨cur,hc⟩:=own_cells (h.file s d h1).2 hbb;exact notf b _ _ _ hc
  ·exact ⟨h1,h2⟩
 ·refine owns_blocks (h.row x hx h0) fun b hbb=>hb b (own_lt (h.row x hx h0) b hbb) ?_;obtain ⟨cur,hc⟩:=own_cells (h.row x hx h0) hbb;exact notf b _ _ _ hc
 ·rcases hf s d hd with ⟨h1,h2⟩ | ⟨_,_,h3⟩
  ·rw [h2] at hbb;exact List.mem_append_left _ (h.vi s d b h1 hbb)
  ·exact List.mem_append_right _ (h3 b hbb)
 ·rcases hb2 with hb2 | hb2
  ·exact Nat.lt_of_lt_of_le (h.lt b (.inl hb2)) hs
  ·rcases List.mem_append.1 hb2 with hb2 | hb2
   ·exact Nat.lt_of_lt_of_le (h.lt b (.inr hb2)) hs
   ·exact (hJ b hb2).2
 ·rcases List.mem_append.1 hi with hi | hi
  ·exact h.dis b hb2 hi
  ·have:=(hJ b hi).1;have:=h.lt b (.inl hb2);omega
theorem MapAt.drop {w:World} {b n:Nat} {f:ByteArray->Option Value} (h:MapAt w b n f) {t e:TypeId} (ht:prog.underlying t=some (.map 9 e)) (s:ByteArray) (hs:s.size<=maxLen) (ty:TypeId) :
  ∃ w',(Builtin.delete_ #[t,9] ty #[.map (some b),.string s]).run prog w=.ok (.tuple #[]) w'/\MapAt w' b n (fun x=>if x=s then none else f x)/\w.mapTurned w' b:=by
 obtain ⟨D,h1,h2⟩:=h;obtain ⟨w',hr,ho,hg⟩:=h1.drop keyed9 ht (WideMaps.keyOf_string_mk underlying9 hs) ty;refine ⟨w',hr,⟨_,ho,fun x hx=>?_⟩,hg⟩;by_cases e:x=s
 ·subst e;dsimp only;rw [if_pos rfl];exact ⟨Maps.has_del_same,fun z=>Maps.atKey_del_same _⟩
 ·dsimp only;rw [if_neg e]
  have hne:Lit.string x.data.toList≠Lit.string s.data.toList:=fun q=>e (by
   have:x.data.toList=s.data.toList:=by injection q
   exact ba_ext (by rw [Lib.toList_data,Lib.toList_data];exact this))
  obtain ⟨g1,g2⟩:=h2 x hx;exact ⟨by rw [Maps.has_del_other hne,g1],fun z=>by rw [Maps.atKey_del_other hne,g2]⟩
end
section
open Go.RowKit Go.Shelf
attribute [local go_sem] Oper.semAt_some
def FinSt (w:World) (F bf bp q:Nat) (ff:ByteArray->Option (List UInt8)) (vf:ByteArray->Value) (pl:List UInt8->List Pl) (M0:List Nat) (I:List Nat) (w0:World):Prop :=
 ∃ vp M,FinIn w F bf bp q ff vf pl vp M I/\Sub w0 M0 M
theorem chg_grown {M:List Nat} {w w':World} {r:Option Nat} (h:w.grownBy w' r) (hr:∀ b,r=some b->b∈M):Chg M w w' :=
 ⟨h.os,h.tape,h.output,h.size,fun b hb hm=>h.block b hb fun e=>hm (hr b e.symm)⟩
theorem chg_map {M:List Nat} {w w':World} {b:Nat} (h:w.mapTurned w' b) (hb:b∈M):Chg M w w'/\w'.heap.size=w.heap.size:=by
 have hg:=h.grown;refine ⟨chg_grown hg fun c e=>by cases e;exact hb,?_⟩;obtain ⟨es,c,es',c',_,hw⟩:=h;rw [hw];exact Array.size_setIfInBounds
def plTo (nm:ByteArray) (pl:List UInt8->List Pl) (hs:List (List UInt8)):List UInt8->List Pl:=fun h=>if h∈hs then restP nm (pl h) else pl h
theorem restP_twice (nm:ByteArray) (l:List Pl):restP nm (restP nm l)=restP nm l:=by simp [restP]
theorem plTo_snoc (nm:ByteArray) (pl:List UInt8->List Pl) (hs:List (List UInt8)) (k:List UInt8):plTo nm pl (hs++[k])=updP (plTo nm pl hs) k (restP nm (plTo nm pl hs k)):=by
 funext x
 unfold plTo updP;by_cases e:x=k
 ·subst e;simp only [List.mem_append,List.mem_singleton,or_true,if_true];split
  ·rw [restP_twice]
  ·rfl
 ·rw [if_neg e];simp [e]
theorem FinIn.mapR {w:World} {F bf bp q:Nat} {ff:ByteArray->Option (List UInt8)} {vf:ByteArray->Value} {pl:List UInt8->List Pl} {vp:List UInt8->Value} {M I:List Nat} (h:FinIn w F bf bp q ff vf pl vp M I) (k:List UInt8) (hk:k.length=32) :
  RowL w (if pl k=[] then .slice none 0 0 else vp k) (pl k):=by
 by_cases h0:pl k=[]
 ·rw [if_pos h0];exact .inl ⟨h0,rfl⟩
 ·rw [if_neg h0];exact .inr ⟨h0,h.row k hk h0⟩
theorem FinIn.lookR {w w':World} {F bf bp q:Nat} {ff:ByteArray->Option (List UInt8)} {vf:ByteArray->Value} {pl:List UInt8->List Pl} {vp:List UInt8->Value} {M I:List Nat} (h:FinIn w F bf bp q ff vf pl vp M I) (e:w'.heap[bp]?=w.heap[bp]?) (k:List UInt8) (hk:k.length=32) :
  (Instr.lookup 211 (.map (some bp)) (.agg (hArr k 32)) false).run prog w'=.ok (if pl k=[] then .slice none 0 0 else vp k) w':=by
 rw [(h.places.kept e).look (t:=211) (e:=209) (by kernel_rfl) (z:=.slice none 0 0) (by kernel_rfl) k hk];by_cases h0:pl k=[]
 ·rw [if_pos h0,if_pos h0];rfl
 ·rw [if_neg h0,if_neg h0];rfl
set_option maxRecDepth 100000 in
set_option maxHeartbeats 8000000 in
theorem fin_forget {w:World} {F bf bp q:Nat} {ff:ByteArray->Option (List UInt8)} {vf:ByteArray->Value} {pl:List UInt8->List Pl} {vp:List UInt8->Value} {M I:List Nat} (h:FinIn w F bf bp q ff vf pl vp M I) (hq:q<=5000) (nm:ByteArray) (hnm:nm.size<=1000000) (T:ShaTabs w) (d:List UInt8) (hd:ff nm=some d) :
  Calls prog 171 #[.pointer (some ⟨F,0,none⟩),.string nm] w fun e w'=>e=.returned (.bool true)/\Hid (FinSt w' F bf bp (q+64) (fun s=>if s=nm then none else ff s) vf (plTo nm pl (hashesL d)) M I w/\Chg M w w'):=by
 have HF:=lh h;have HI:=lh (fun w' (X:Ext w w')=>fin_is (h.ext X));have hfile:=h.file nm d hd;have HLk:=lh (fun w' (X:Ext w w')=>(h.ext X).files.look_ok (t:=210) (e:=22) (by kernel_rfl) (z:=.slice none 0 0) (by kernel_rfl) nm (by unfold maxLen;omega));simp only [hd,Option.map_some,Option.getD_some,Option.isSome_some] at HLk;have HLs:=lh (fun w' (X:Ext w w')=>blist_any d (vf nm) w' (T.ext X) (ownB_off (owns_ext hfile.2 X) (Nat.le_refl _)) hfile.1);have XB:=lh ((Ext.refl w).alloc (.cells #[.string nm] 9 (0,0)));have HBn:=lh (block_alloc_new w (.cells #[.string nm] 9 (0,0)));have hcn:=count_le hfile.1;have HHL:=lh (show (hashesL d).length=countN d.length from hashesL_len' d)
 have HH32:=lh (show ∀ x∈hashesL d,x.length=32 from fun x hx=>by
  simp only [hashesL,List.mem_map] at hx;obtain ⟨i,_,rfl⟩:=hx
  exact shaL_len _)
 have HD:=lh hd;generalize hashesL d=hs at *;generalize countN d.length=c at *;clear h hfile T hd;go_enter func171,ntmps171;go_wp2_with fail;generalize w.alloc (.cells #[.string nm] 9 (0,0))=wn at *;refine (HI.out _ XB.out).mono ?_;rintro e w1 ⟨rfl,x1⟩;have X1:=lh (XB.out.trans x1);have HB1:=lh ((x1.block (ltB HBn.out)).trans HBn.out);clear x1;go_upto_region 3 with (fail)
 have k0:∀ z:After w1,z.v.cell? ⟨F,0,none⟩=some (.map (some bf)):=fun z=>cellB ((HF.out.ext (X1.out.trans z.x)).blk);have kn:∀ z:After w1,z.v.cell? ⟨w.heap.size,0,none⟩=some (.string nm):=fun z=>After.at HB1.out z;have kl:∀ z:After w1,(Instr.lookup 210 (.map (some bf)) (.string nm) true).run prog z.v=.ok (.tuple #[vf nm,.bool true]) z.v:=fun z=>HLk.out _ (X1.out.trans z.x);refine wp_region_after (by kernel_rfl) (by kernel_rfl) ?_
 repeat (go_big_quiet_step (fail))
 refine wpQuiet_nil ?_;rintro _ ⟨z,rfl⟩;have X2:=lh (X1.out.trans z.x);have HB2:=lh ((z.x.block (ltB HB1.out)).trans HB1.out);clear k0 kn kl X1 HB1;go_wp2_with fail;refine (HLs.out _ X2.out).mono ?_;rintro e wL ⟨u,rfl,hu⟩;have XL:=lh (X2.out.trans hu.out.2);have HBL:=lh ((hu.out.2.block (ltB HB2.out)).trans HB2.out);have HU:=lh hu.out.1;obtain ⟨ua,uc,rfl⟩:=rowk_shape hu.out.1;clear hu;go_wp2_with fail;have HNu:=lh (show ∀ b,(Value.slice ua c uc).ownBlock=some b->z.v.heap.size<=b from own_ge HU.out);have hzs:=X2.out.size;have hnb:=ltB HB2.out;have HFL:=lh (HF.out.ext XL.out);have hLs:=XL.out.size;have HML:=lh (show ∀ b∈M,b<w.heap.size from fun b hb=>HF.out.lt b (.inl hb));go_loopw [32] (fun iv wr=>Hid (∃ k:Nat,k<=c/\iv=.int .i64 k/\FinSt wr F bf bp (q+k*2) ff vf (plTo nm pl (hs.take k)) M I wL/\Chg M wL wr)) (fun iv _=>c - (intOf iv).toNat)
 case atStart=>exact ⟨0,Nat.zero_le _,rfl,⟨vp,M,by rw [List.take_zero,show plTo nm pl []=pl from funext fun _=>if_neg (by simp)];exact HFL.out,Sub.refl _ _⟩,Chg.refl _ _⟩
 case round =>
  obtain ⟨k,hk,rfl,⟨vpK,MK,hfk,hsub⟩,hchg⟩:=hrel.out;clear hrel HFL;have HK:=lh hfk;have HSub:=lh hsub;have HChg:=lh hchg;clear hfk hsub hchg;have hws:=HChg.out.size;have hBn:wr.heap[w.heap.size]?=some (.cells #[.string nm] 9 (0,0)):=(HChg.out.block _ (ltB HBL.out) (fun hm=>by have:=HML.out _ hm;omega)).trans HBL.out;have HBr:=lh hBn;have HUr:=lh (owns_blocks HU.out fun b hb=>HChg.out.block b (own_lt HU.out b hb) (fun hm=>by have:=HML.out _ hm;have:=HNu.out b hb;omega));clear hBn;by_cases hlt:k<c
  ·obtain ⟨y,hy⟩:∃ y,hs[k]?=some y:=⟨_,List.getElem?_eq_getElem (by have:=HHL.out;omega)⟩;have hy32:=HH32.out y (List.mem_of_getElem? hy);obtain ⟨ua',uc',eu,_,_,_,hcells⟩:=row_cells HUr.out
   cases eu
   have hrow:∀ j,j<32->(hrow hs)[k*32+j]?=(y.map bv)[j]?:=fun j hj=>hrow_get hs HH32.out k j y hy hj;obtain ⟨g0,rfl,_,hg0,_⟩:=hcells (k*32+0) (bv (y[0]'(by omega))) (by rw [hrow 0 (by omega),List.getElem?_map,List.getElem?_eq_getElem (by omega:0<y.length)];rfl)
   have HRk:=lh (show wr.rangeAt g0 (k*32) (hArr y 32).toList from fun j u hj=>by
    rw [hArr_list hy32] at hj;have hj32:j<32:=by have:=(List.getElem?_eq_some_iff.1 hj).1;simp at this;omega
    obtain ⟨g1,e1,_,_,hc⟩:=hcells (k*32+j) u (by rw [hrow j hj32];simpa using hj)
    cases e1
    exact hc)
   have HZk:=lh (show (prog.info? 45).map (·.size)=some (hArr y 32).size from by rw [hArr_size _ _ hy32 (by omega)];kernel_rfl);have HAk:=lh (show (hArr y 32).size=32 from hArr_size _ _ hy32 (by omega));have HTk:=lh (show plTo nm pl (hs.take (k+1))=updP (plTo nm pl (hs.take k)) y (restP nm (plTo nm pl (hs.take k) y)) from by rw [List.take_add_one,hy];exact plTo_snoc nm pl _ y);have HRow:=lh (HK.out.mapR y hy32);have hlen:=HK.out.len y;generalize hP:plTo nm pl (hs.take k)=P at *;obtain ⟨v0,hv0⟩:∃ v0,v0=(if P y=[] then Value.slice none 0 0 else vpK y):=⟨_,rfl⟩;have HLook:=lh (fun (w':World) (e:w'.heap[bp]?=wr.heap[bp]?)=>HK.out.lookR e y hy32);rw [<-hv0] at HRow HLook;clear hP hcells hrow hy;go_upto_region 10 with (first | (refine wpList_load_at rfl 45 _ rfl g0 (k*32) rfl (hArr y 32) _ HRk.out underlying45 rfl HZk.out ?_;go_frame) | (refine wpList_storeT rfl _ _ _ rfl wr.heap.size (hArr y 32) rfl rfl 45 _ (heap_alloc_new wr _) HZk.out (by rw [HAk.out];rfl) (hArr_one _ _) ?_;intro w1 hb1 ht1;have HB1:=lh hb1;have X1:=lh (ht1.fresh ((Ext.refl wr).alloc _) (Nat.le_refl _));clear hb1 ht1;go_frame))
   obtain ⟨b10,h10⟩:∃ b,b=wr.heap.size:=⟨_,rfl⟩;have hF:=ltB HK.out.blk;have hbp:=HK.out.places.lt;have hlt10:w.heap.size<b10:=by rw [h10];exact ltB HBr.out
   have hb10:∀ b,b<wr.heap.size->b<b10:=fun b hb=>by omega
   have hX1s:=X1.out.size;have e10:=ltB HB1.out;rw [<-h10] at HB1 e10 ⊢;clear h10;refine wp_region_head (S:=fun w'=>w'.heap[F]?=some (.cells #[.map (some bf),.map (some bp)] 213 (0,0))/\w'.heap[b10]?=some (.cells (hArr y 32) 45 (0,0))/\w'.heap[bp]?=wr.heap[bp]?) (n:=13) (by kernel_rfl) (by kernel_rfl) ?_;have SD:(w1.drew).heap[F]?=some (.cells #[.map (some bf),.map (some bp)] 213 (0,0))/\(w1.drew).heap[b10]?=some (.cells (hArr y 32) 45 (0,0))/\(w1.drew).heap[bp]?=wr.heap[bp]?:=⟨(X1.out.drew.block hF).trans HK.out.blk,HB1.out,X1.out.drew.block hbp⟩;have XD:=lh X1.out.drew;generalize w1.drew=wd at *;refine HeadAt.take (i:=0) (v:=.pointer (some ⟨F,0,none⟩)) rfl (by kernel_rfl) (by kernel_rfl) (by kernel_rfl) (by kernel_rfl) (by kernel_rfl) (by kernel_rfl) (by kernel_rfl) (fun _ _ _ h=>h) (Or.inl ⟨rfl,fun w' _=>by go_simp⟩) SD ?_;go_frame;refine HeadAt.take (i:=1) (v:=.pointer (some ⟨F,0,none⟩)) rfl (by kernel_rfl) (by kernel_rfl) (by kernel_rfl) (by kernel_rfl) (by kernel_rfl) (by kernel_rfl) (by kernel_rfl) (fun _ _ _ h=>h) (Or.inl ⟨rfl,fun w' _=>by go_simp⟩) SD ?_;go_frame;refine HeadAt.take (i:=2) (v:=.pointer (some ⟨F,1,none⟩)) rfl (by kernel_rfl) (by kernel_rfl) (by kernel_rfl) (by kernel_rfl) (by kernel_rfl) (by kernel_rfl) (by kernel_rfl) (fun _ _ _ h=>h) (Or.inl ⟨rfl,fun w' _=>by go_simp⟩) SD ?_;go_frame;refine HeadAt.take (i:=3) (v:=.map (some bp)) rfl (by kernel_rfl) (by kernel_rfl) (by kernel_rfl) (by kernel_rfl) (by kernel_rfl) (by kernel_rfl) (by kernel_rfl) (fun _ _ _ h=>h) (Or.inl ⟨rfl,fun w' h=>by have:=cellB (k:=1) h.1;simp at this;go_simp⟩) SD ?_;go_frame;refine HeadAt.take (i:=4) (v:=.agg (hArr y 32)) rfl (by kernel_rfl) (by kernel_rfl) (by kernel_rfl) (by kernel_rfl) (by kernel_rfl) (by kernel_rfl) (by kernel_rfl) (fun _ _ _ h=>h) (yieldsIf_load_row rfl 45 _ rfl b10 rfl 45 _ (0,0) _ (fun w' h=>h.2.1) underlying45 rfl HZk.out) SD ?_;go_frame;refine HeadAt.take (i:=5) (v:=.pointer (some ⟨F,0,none⟩)) rfl (by kernel_rfl) (by kernel_rfl) (by kernel_rfl) (by kernel_rfl) (by kernel_rfl) (by kernel_rfl) (by kernel_rfl) (fun _ _ _ h=>h) (Or.inl ⟨rfl,fun w' _=>by go_simp⟩) SD ?_;go_frame;refine HeadAt.take (i:=6) (v:=.pointer (some ⟨F,0,none⟩)) rfl (by kernel_rfl) (by kernel_rfl) (by kernel_rfl) (by kernel_rfl) (by kernel_rfl) (by kernel_rfl) (by kernel_rfl) (fun _ _ _ h=>h) (Or.inl ⟨rfl,fun w' _=>by go_simp⟩) SD ?_;go_frame;refine HeadAt.take (i:=7) (v:=.pointer (some ⟨F,1,none⟩)) rfl (by kernel_rfl) (by kernel_rfl) (by kernel_rfl) (by kernel_rfl) (by kernel_rfl) (by kernel_rfl) (by kernel_rfl) (fun _ _ _ h=>h) (Or.inl ⟨rfl,fun w' _=>by go_simp⟩) SD ?_;go_frame;refine HeadAt.take (i:=8) (v:=.map (some bp)) rfl (by kernel_rfl) (by kernel_rfl) (by kernel_rfl) (by kernel_rfl) (by kernel_rfl) (by kernel_rfl) (by kernel_rfl) (fun _ _ _ h=>h) (Or.inl ⟨rfl,fun w' h=>by have:=cellB (k:=1) h.1;simp at this;go_simp⟩) SD ?_;go_frame;refine HeadAt.take (i:=9) (v:=.agg (hArr y 32)) rfl (by kernel_rfl) (by kernel_rfl) (by kernel_rfl) (by kernel_rfl) (by kernel_rfl) (by kernel_rfl) (by kernel_rfl) (fun _ _ _ h=>h) (yieldsIf_load_row rfl 45 _ rfl b10 rfl 45 _ (0,0) _ (fun w' h=>h.2.1) underlying45 rfl HZk.out) SD ?_;go_frame;refine HeadAt.take (i:=10) (v:=v0) rfl (by kernel_rfl) (by kernel_rfl) (by kernel_rfl) (by kernel_rfl) (by kernel_rfl) (by kernel_rfl) (by kernel_rfl) (fun _ _ _ h=>h) (yieldsIf_lookup rfl 211 _ _ rfl (vm:=.map (some bp)) (vk:=.agg (hArr y 32)) rfl rfl (fun w' h=>HLook.out w' h.2.2)) SD ?_;go_frame;refine HeadAt.take (i:=11) (v:=.func (.func 210) #[] #[.pointer (some ⟨w.heap.size,0,none⟩)]) rfl (by kernel_rfl) (by kernel_rfl) (by kernel_rfl) (by kernel_rfl) (by kernel_rfl) (by kernel_rfl) (by kernel_rfl) (fun _ _ _ h=>h) (Or.inl ⟨rfl,fun w' _=>by go_simp⟩) SD ?_;go_frame;have hRd:RowL wd v0 (P y):=HRow.out.ext XD.out;have hcd:wd.cell? ⟨w.heap.size,0,none⟩=some (.string nm):=cellB ((XD.out.block (ltB HBr.out)).trans HBr.out)
   have HMK:=lh (show ∀ b,v0.ownBlock=some b->b∈MK/\P y≠[]/\(vpK y).ownBlock=some b from fun b hb=>by
    rw [hv0] at hb;by_cases h0:P y=[]
    ·rw [if_pos h0] at hb;cases hb
    ·rw [if_neg h0] at hb;exact ⟨HK.out.mp y b hy32 h0 hb,h0,hb⟩)
   have hnbk:v0.ownBlock≠some w.heap.size:=fun e=>by
    rcases HSub.out _ (HMK.out _ e).1 with h1 | h1
    ·have:=HML.out _ h1;omega
    ·have:=ltB HBL.out;omega
   have HV0:=lh hv0;clear hv0;refine HeadAt.call (i:=12) (F:=209) (args:=#[v0,.func (.func 210) #[] #[.pointer (some ⟨w.heap.size,0,none⟩)]]) (by kernel_rfl) (by kernel_rfl) rfl rfl (by go_simp) ?_;refine (fdel_row hRd hcd hnbk (by omega)).mono ?_;rintro e wE ⟨va,vc,rfl,hob,hown,hgr⟩;clear hRd hcd hnbk;have hFE:=hgr.block F (ltB SD.1) (fun e=>HK.out.dis F (HMK.out _ e.symm).1 HK.out.fi);have h10E:=hgr.block b10 (ltB SD.2.1) (fun e=>by have:=hb10 _ (HK.out.lt b10 (.inl (HMK.out _ e.symm).1));omega)
   have hbpE:=hgr.block bp (Nat.lt_of_lt_of_le hbp XD.out.size) (fun e=>by
    obtain ⟨ep,cp,h1⟩:=HK.out.places.blk;obtain ⟨_,h2,h3⟩:=HMK.out _ e.symm;obtain ⟨cur,h4⟩:=own_cells (HK.out.row y hy32 h2) h3
    rw [h1] at h4;cases h4)
   have SE:wE.heap[F]?=some (.cells #[.map (some bf),.map (some bp)] 213 (0,0))/\wE.heap[b10]?=some (.cells (hArr y 32) 45 (0,0))/\wE.heap[bp]?=wr.heap[bp]?:=⟨hFE.trans SD.1,h10E.trans SD.2.1,hbpE.trans SD.2.2⟩;refine ⟨_,rfl,SE,?_⟩;go_frame;have HGR:=lh hgr;have HOB:=lh hob;have HOW:=lh hown;have hl1n:(restP nm (P y)).length<=(P y).length:=List.length_filter_le _ _;generalize restP nm (P y)=l1 at *;obtain ⟨wF,hrF,hmF,hgF,hsF⟩:=(HK.out.places.kept SE.2.2).store (t:=211) (e:=209) (by kernel_rfl) (by unfold maxLen;omega) y hy32 (.slice va l1.length vc);have HmF:=lh hmF;have HgF:=lh hgF;have hr':(Instr.mapUpdate 211 (.map (some bp)) (.agg (hArr y 32)) (.slice va l1.length vc)).run prog wE=.ok () wF:=hrF;have hbpne:∀ b,wE.heap[b]?=wE.heap[b]?->b<wE.heap.size->b≠bp->wF.heap[b]?=wE.heap[b]?:=fun b _ h1 h2=>hgF.block b h1 (fun e=>h2 (Option.some.inj e));have hFF:wF.heap[F]?=some (.cells #[.map (some bf),.map (some bp)] 213 (0,0)):=(hbpne F rfl (ltB SE.1) (fun e=>HK.out.dis bp HK.out.mb (e▸HK.out.fi))).trans SE.1;have h10F:wF.heap[b10]?=some (.cells (hArr y 32) 45 (0,0)):=(hbpne b10 rfl (ltB SE.2.1) (fun e=>by have:=hb10 bp hbp;omega)).trans SE.2.1;have HFF:=lh hFF;have H10F:=lh h10F;clear hgr hob hown hrF hmF hgF SD SE hFE h10E hbpE hbpne hFF h10F;refine HeadAt.done (by kernel_rfl) ?_;go_upto_region 11 with (fail)
   have kF:∀ zz:After wF,zz.v.cell? ⟨F,1,none⟩=some (.map (some bp)):=fun zz=>After.at HFF.out zz
   have kL:∀ zz:After wF,(Instr.lookup 211 (.map (some bp)) (.agg (hArr y 32)) false).run prog zz.v=.ok (.slice va l1.length vc) zz.v:=fun zz=>by
    have:=(HmF.out.ext zz.x).look (t:=211) (e:=209) (by kernel_rfl) (z:=.slice none 0 0) (by kernel_rfl) y hy32
    rwa [if_pos rfl] at this
   have HQ10:=lh (show ∀ w',(∃ zz:After wF,w'=zz.v)->w'.heap[b10]?=some (.cells (hArr y 32) 45 (0,0)) from by
    rintro _ ⟨zz,rfl⟩
    exact (zz.x.block (ltB H10F.out)).trans H10F.out)
   refine wp_region_after (by kernel_rfl) (by kernel_rfl) ?_
   iterate 4 go_big_quiet_step (fail)
   refine wpQuiet_load_row_g rfl 45 _ rfl b10 rfl 45 (hArr y 32) (0,0) _ HQ10.out underlying45 rfl HZk.out ?_;go_frame
   iterate 3 go_big_quiet_step (fail)
   refine wpQuiet_nil ?_;rintro _ ⟨zz,rfl⟩;clear kF kL HQ10;have HX:=lh zz.x
   have hgb:∀ b,b<wr.heap.size->b≠bp->(P y≠[]->(vpK y).ownBlock≠some b)->zz.v.heap[b]?=wr.heap[b]?:=fun b h1 h2 h3=>by
    have e1:=XD.out.block h1;have h1d:=Nat.lt_of_lt_of_le h1 XD.out.size;have e2:=HGR.out.block b h1d (fun e=>by obtain ⟨_,q1,q2⟩:=HMK.out _ e.symm;exact h3 q1 q2);have h1E:=Nat.lt_of_lt_of_le h1d HGR.out.size;have e3:=HgF.out.block b h1E (fun e=>h2 (Option.some.inj e));exact (HX.out.block (Nat.lt_of_lt_of_le h1E HgF.out.size)).trans (e3.trans (e2.trans e1))
   have hchz:Chg MK wr zz.v:=((XD.out.chg MK).trans (chg_grown HGR.out fun b e=>(HMK.out b e).1) (fun x hx=>.inl hx)).trans ((chg_grown HgF.out fun b e=>by cases e;exact HK.out.mb).trans (HX.out.chg MK) (fun x hx=>.inl hx)) (fun x hx=>.inl hx);have HGB:=lh hgb;have HCZ:=lh hchz;have hzsz:=hchz.size;clear hgb hchz;have HK1:=lh (show q+k*2+1<=q+(k+1)*2 from by omega);by_cases hl:l1=[]
   ·subst hl;go_upto_region 12 with (fail)
    have hFz:=(HX.out.block (ltB HFF.out)).trans HFF.out;have h10z:=(HX.out.block (ltB H10F.out)).trans H10F.out;refine wp_region_head (S:=fun w'=>w'.heap[F]?=some (.cells #[.map (some bf),.map (some bp)] 213 (0,0))/\w'.heap[b10]?=some (.cells (hArr y 32) 45 (0,0))) (n:=5) (by kernel_rfl) (by kernel_rfl) ?_;have SD:(zz.v.drew).heap[F]?=some (.cells #[.map (some bf),.map (some bp)] 213 (0,0))/\(zz.v.drew).heap[b10]?=some (.cells (hArr y 32) 45 (0,0)):=⟨hFz,h10z⟩;have XZ:=HX.out.drew;obtain ⟨wG,hrG,hmG,htG⟩:=(HmF.out.ext XZ).drop (t:=211) (e:=209) (by kernel_rfl) y hy32 0;have hr2:(Builtin.delete_ #[211,45] 0 #[.map (some bp),.agg (hArr y 32)]).run prog zz.v.drew=.ok (.tuple #[]) wG:=hrG;have XZZ:=lh ((Ext.refl zz.v).drew);obtain ⟨hcg,hsg⟩:=chg_map htG HK.out.mb;obtain ⟨hcg1,_⟩:=chg_map (M:=[bp]) htG (by simp);have HCG:=lh hcg;have HCG1:=lh hcg1;have HMG:=lh hmG;clear hmG htG hrG hcg hcg1;generalize zz.v.drew=wd2 at *;refine HeadAt.take (i:=0) (v:=.pointer (some ⟨F,0,none⟩)) rfl (by kernel_rfl) (by kernel_rfl) (by kernel_rfl) (by kernel_rfl) (by kernel_rfl) (by kernel_rfl) (by kernel_rfl) (fun _ _ _ h=>h) (Or.inl ⟨rfl,fun w' _=>by go_simp⟩) SD ?_;go_frame;refine HeadAt.take (i:=1) (v:=.pointer (some ⟨F,0,none⟩)) rfl (by kernel_rfl) (by kernel_rfl) (by kernel_rfl) (by kernel_rfl) (by kernel_rfl) (by kernel_rfl) (by kernel_rfl) (fun _ _ _ h=>h) (Or.inl ⟨rfl,fun w' _=>by go_simp⟩) SD ?_;go_frame;refine HeadAt.take (i:=2) (v:=.pointer (some ⟨F,1,none⟩)) rfl (by kernel_rfl) (by kernel_rfl) (by kernel_rfl) (by kernel_rfl) (by kernel_rfl) (by kernel_rfl) (by kernel_rfl) (fun _ _ _ h=>h) (Or.inl ⟨rfl,fun w' _=>by go_simp⟩) SD ?_;go_frame;refine HeadAt.take (i:=3) (v:=.map (some bp)) rfl (by kernel_rfl) (by kernel_rfl) (by kernel_rfl) (by kernel_rfl) (by kernel_rfl) (by kernel_rfl) (by kernel_rfl) (fun _ _ _ h=>h) (Or.inl ⟨rfl,fun w' h=>by have:=cellB (k:=1) h.1;simp at this;go_simp⟩) SD ?_;go_frame;refine HeadAt.take (i:=4) (v:=.agg (hArr y 32)) rfl (by kernel_rfl) (by kernel_rfl) (by kernel_rfl) (by kernel_rfl) (by kernel_rfl) (by kernel_rfl) (by kernel_rfl) (fun _ _ _ h=>h) (yieldsIf_load_row rfl 45 _ rfl b10 rfl 45 _ (0,0) _ (fun w' h=>h.2) underlying45 rfl HZk.out) SD ?_;go_frame;refine HeadAt.done (by kernel_rfl) ?_;go_wp2
    have hgG:∀ b,b<wr.heap.size->b≠bp->(P y≠[]->(vpK y).ownBlock≠some b)->wG.heap[b]?=wr.heap[b]?:=fun b h1 h2 h3=>by
     have h1z:=Nat.lt_of_lt_of_le h1 hzsz;exact (HCG1.out.block b (Nat.lt_of_lt_of_le h1z XZZ.out.size) (by simpa using h2)).trans ((XZZ.out.block h1z).trans (HGB.out b h1 h2 h3))
    have hT:=HK.out.turn (q':=q+(k+1)*2) (l':=[]) (v':=.slice none 0 0) hy32 (Nat.le_trans hzsz (Nat.le_trans XZZ.out.size HCG.out.size)) hgG (by omega) (Nat.zero_le _) ((HMG.out.congr fun x hx=>by
     unfold updP;by_cases e:x=y
     ·rw [if_pos e,if_pos e,if_pos rfl]
     ·rw [if_neg e,if_neg e,if_neg e,if_neg e]).le HK1.out) (fun h=>absurd rfl h) (fun b h=>absurd rfl h)
    rw [if_pos rfl,List.append_nil] at hT;go_roundw
    case rel=>exact ⟨k+1,by omega,by go_num,⟨_,MK,by rw [HTk.out];exact hT,HSub.out⟩,HChg.out.trans ((HCZ.out.trans (XZZ.out.chg MK) (fun x hx=>.inl hx)).trans HCG.out (fun x hx=>.inl hx)) (fun x hx=>HSub.out x hx)⟩
    case measure=>simp [intOf] <;> omega
   ·have hz:(((l1.length:Nat):Int)==0)=false:=by
     rw [beq_eq_false_iff_ne];have:0<l1.length:=List.length_pos_iff.2 hl;omega
    have hob2:=HOB.out
    have hT:=HK.out.turn (q':=q+(k+1)*2) (l':=l1) (v':=.slice va l1.length vc) hy32 hzsz HGB.out (by omega) (by omega) (((HmF.out.ext HX.out).congr fun x hx=>by
     unfold updP;by_cases e:x=y
     ·rw [if_pos e,if_pos e,if_neg hl,if_pos e]
     ·rw [if_neg e,if_neg e,if_neg e]).le HK1.out) (fun _=>owns_blocks (HOW.out hl) fun b hb=>by
      have hbE:=own_lt (HOW.out hl) b hb;obtain ⟨cur,hcur⟩:=own_cells (HOW.out hl) hb;refine (HX.out.block (Nat.lt_of_lt_of_le hbE HgF.out.size)).trans (HgF.out.block b hbE fun e=>?_);have e2:b=bp:=Option.some.inj e;have h9:=HMK.out b (hob2▸hb);obtain ⟨cur2,hc2⟩:=own_cells (HK.out.row y hy32 h9.2.1) h9.2.2;obtain ⟨ep,cp,h1⟩:=HK.out.places.blk
      rw [e2,h1] at hc2;cases hc2) (fun b _ hb=>.inl (HMK.out b (hob2▸hb)).2)
    rw [if_neg hl] at hT
    have hsub3:Sub wL M (MK++rowB (.slice va l1.length vc)):=fun b hb=>by
     rcases List.mem_append.1 hb with hb | hb
     ·exact HSub.out b hb
     ·exact HSub.out b (HMK.out b (hob2▸mem_rowB.1 hb)).1
    have HT3:=lh hT;have HS3:=lh hsub3;clear hT hsub3 hob2;go_wp2;go_roundw
    case rel=>exact ⟨k+1,by omega,by go_num,⟨_,_,by rw [HTk.out];exact HT3.out,HS3.out⟩,HChg.out.trans HCZ.out (fun x hx=>HSub.out x hx)⟩
    case measure=>simp [intOf] <;> omega
  ·obtain rfl:k=c:=by omega
   have HTe:=lh (show plTo nm pl (hs.take k)=plTo nm pl hs from by rw [<-HHL.out,List.take_length]);go_upto_region 14 with (fail)
   refine wp_region_head (S:=fun w'=>w'.heap[F]?=some (.cells #[.map (some bf),.map (some bp)] 213 (0,0))/\w'.heap[w.heap.size]?=some (.cells #[.string nm] 9 (0,0))) (n:=5) (by kernel_rfl) (by kernel_rfl) ?_;have SD:(wr.drew).heap[F]?=some (.cells #[.map (some bf),.map (some bp)] 213 (0,0))/\(wr.drew).heap[w.heap.size]?=some (.cells #[.string nm] 9 (0,0)):=⟨HK.out.blk,HBr.out⟩;have XZZ:=lh ((Ext.refl wr).drew);obtain ⟨wG,hrG,hmG,htG⟩:=(HK.out.files.ext XZZ.out).drop (t:=210) (e:=22) (by kernel_rfl) nm (by unfold maxLen;omega) 0;have hr2:(Builtin.delete_ #[210,9] 0 #[.map (some bf),.string nm]).run prog wr.drew=.ok (.tuple #[]) wG:=hrG;obtain ⟨hcg,hsg⟩:=chg_map htG HK.out.mf;obtain ⟨hcg1,_⟩:=chg_map (M:=[bf]) htG (by simp)
   have hF:=(HK.out.ext XZZ.out).setFile (w3:=wG) (q':=q+64) (ff':=fun s=>if s=nm then none else ff s) (vf':=vf) (J:=[]) (by rw [hsg];exact Nat.le_refl _) (fun b h1 h2=>hcg1.block b h1 (by simpa using h2)) (by omega) ((hmG.congr fun s _=>by
    by_cases e:s=nm
    ·rw [if_pos e,if_pos e];rfl
    ·rw [if_neg e,if_neg e]).le (by omega)) (fun b hb=>(by cases hb)) (fun s d hd=>.inl (by
    by_cases e:s=nm
    ·rw [if_pos e] at hd;cases hd
    ·rw [if_neg e] at hd;exact ⟨hd,rfl⟩))
   rw [List.append_nil,HTe.out] at hF;have HFin:=lh hF;have HCh:=lh (HChg.out.trans ((XZZ.out.chg MK).trans hcg (fun x hx=>.inl hx)) (fun x hx=>HSub.out x hx));clear hF hcg hcg1 htG hmG hrG;generalize wr.drew=wd2 at *;refine HeadAt.take (i:=0) (v:=.pointer (some ⟨F,0,none⟩)) rfl (by kernel_rfl) (by kernel_rfl) (by kernel_rfl) (by kernel_rfl) (by kernel_rfl) (by kernel_rfl) (by kernel_rfl) (fun _ _ _ h=>h) (Or.inl ⟨rfl,fun w' _=>by go_simp⟩) SD ?_;go_frame;refine HeadAt.take (i:=1) (v:=.pointer (some ⟨F,0,none⟩)) rfl (by kernel_rfl) (by kernel_rfl) (by kernel_rfl) (by kernel_rfl) (by kernel_rfl) (by kernel_rfl) (by kernel_rfl) (fun _ _ _ h=>h) (Or.inl ⟨rfl,fun w' _=>by go_simp⟩) SD ?_;go_frame;refine HeadAt.take (i:=2) (v:=.pointer (some ⟨F,0,none⟩)) rfl (by kernel_rfl) (by kernel_rfl) (by kernel_rfl) (by kernel_rfl) (by kernel_rfl) (by kernel_rfl) (by kernel_rfl) (fun _ _ _ h=>h) (Or.inl ⟨rfl,fun w' _=>by go_simp⟩) SD ?_;go_frame;refine HeadAt.take (i:=3) (v:=.map (some bf)) rfl (by kernel_rfl) (by kernel_rfl) (by kernel_rfl) (by kernel_rfl) (by kernel_rfl) (by kernel_rfl) (by kernel_rfl) (fun _ _ _ h=>h) (Or.inl ⟨rfl,fun w' h=>by have:=cellB (k:=0) h.1;simp at this;go_simp⟩) SD ?_;go_frame;refine HeadAt.take (i:=4) (v:=.string nm) rfl (by kernel_rfl) (by kernel_rfl) (by kernel_rfl) (by kernel_rfl) (by kernel_rfl) (by kernel_rfl) (by kernel_rfl) (fun _ _ _ h=>h) (yieldsIf_cell rfl _ _ rfl w.heap.size 0 rfl aggH (fun w' h=>cellB h.2)) SD ?_;go_frame;refine HeadAt.done (by kernel_rfl) ?_;go_wp2;go_ret;exact ⟨rfl,⟨_,MK,HFin.out,fun b hb=>(HSub.out b hb).imp id fun h1=>Nat.le_trans hLs h1⟩,(XL.out.chg M).trans HCh.out (fun x hx=>.inl hx)⟩
end
section
open Go.RowKit Go.Shelf
attribute [local go_sem] Oper.semAt_some
theorem FinIn.congr {w:World} {F bf bp q:Nat} {ff:ByteArray->Option (List UInt8)} {vf:ByteArray->Value} {pl pl':List UInt8->List Pl} {vp:List UInt8->Value} {M I:List Nat} (h:FinIn w F bf bp q ff vf pl vp M I) (e:∀ x,x.length=32->pl' x=pl x) (hl:∀ x,(pl' x).length<=q):FinIn w F bf bp q ff vf pl' vp M I :=
 ⟨h.blk,h.files,h.places.congr fun x hx=>by rw [e x hx],h.file,fun x hx h0=>by rw [e x hx] at h0 ⊢;exact h.row x hx h0,fun x y b hx hy hxy h0 h1=>by rw [e x hx] at h0;rw [e y hy] at h1;exact h.nd x y b hx hy hxy h0 h1,h.mf,h.mb,
  fun x b hx h0=>by rw [e x hx] at h0;exact h.mp x b hx h0,h.fi,h.vi,h.lt,h.dis,hl,h.bne⟩
theorem FinIn.congrF {w:World} {F bf bp q q':Nat} {ff ff':ByteArray->Option (List UInt8)} {vf:ByteArray->Value} {pl:List UInt8->List Pl} {vp:List UInt8->Value} {M I:List Nat} (h:FinIn w F bf bp q ff vf pl vp M I) (e:∀ s,ff' s=ff s) (hq:q<=q'):FinIn w F bf bp q' ff' vf pl vp M I:=by
 obtain rfl:ff'=ff:=funext e;exact ⟨h.blk,h.files.le hq,h.places.le hq,h.file,h.row,h.nd,h.mf,h.mb,h.mp,h.fi,h.vi,h.lt,h.dis,fun x=>Nat.le_trans (h.len x) hq,h.bne⟩
set_option maxRecDepth 100000 in
set_option maxHeartbeats 2000000 in
theorem fin_forget0 {w:World} {F bf bp q:Nat} {ff:ByteArray->Option (List UInt8)} {vf:ByteArray->Value} {pl:List UInt8->List Pl} {vp:List UInt8->Value} {M I:List Nat} (h:FinIn w F bf bp q ff vf pl vp M I) (nm:ByteArray) (hnm:nm.size<=1000000) (hd:ff nm=none) :
  Calls prog 171 #[.pointer (some ⟨F,0,none⟩),.string nm] w fun e w'=>e=.returned (.bool false)/\Ext w w':=by
 have HF:=lh h;have HI:=lh (fun w' (X:Ext w w')=>fin_is (h.ext X));have HLk:=lh (fun w' (X:Ext w w')=>(h.ext X).files.look_ok (t:=210) (e:=22) (by kernel_rfl) (z:=.slice none 0 0) (by kernel_rfl) nm (by unfold maxLen;omega));simp only [hd,Option.map_none,Option.getD_none,Option.isSome_none] at HLk;have XB:=lh ((Ext.refl w).alloc (.cells #[.string nm] 9 (0,0)));have HBn:=lh (block_alloc_new w (.cells #[.string nm] 9 (0,0)));clear h hd;go_enter func171,ntmps171;go_wp2_with fail;generalize w.alloc (.cells #[.string nm] 9 (0,0))=wn at *;refine (HI.out _ XB.out).mono ?_;rintro e w1 ⟨rfl,x1⟩;have X1:=lh (XB.out.trans x1);have HB1:=lh ((x1.block (ltB HBn.out)).trans HBn.out);clear x1;go_upto_region 3 with (fail)
 have k0:∀ z:After w1,z.v.cell? ⟨F,0,none⟩=some (.map (some bf)):=fun z=>cellB ((HF.out.ext (X1.out.trans z.x)).blk);have kn:∀ z:After w1,z.v.cell? ⟨w.heap.size,0,none⟩=some (.string nm):=fun z=>After.at HB1.out z;have kl:∀ z:After w1,(Instr.lookup 210 (.map (some bf)) (.string nm) true).run prog z.v=.ok (.tuple #[.slice none 0 0,.bool false]) z.v:=fun z=>HLk.out _ (X1.out.trans z.x);refine wp_region_after (by kernel_rfl) (by kernel_rfl) ?_
 repeat (go_big_quiet_step (fail))
 refine wpQuiet_nil ?_;rintro _ ⟨z,rfl⟩;have X2:=lh (X1.out.trans z.x);clear k0 kn kl X1 HB1;go_wp2_with fail;go_ret;exact ⟨rfl,X2.out⟩
theorem fin_forgets {w:World} {F bf bp q:Nat} {ff:ByteArray->Option (List UInt8)} {vf:ByteArray->Value} {pl:List UInt8->List Pl} {vp:List UInt8->Value} {M I:List Nat} (h:FinIn w F bf bp q ff vf pl vp M I) (R:FinRel ff pl) (hq:q<=5000) (nm:ByteArray) (hnm:nm.size<=1000000) (T:ShaTabs w) :
  Calls prog 171 #[.pointer (some ⟨F,0,none⟩),.string nm] w fun e w'=>∃ b,e=.returned (.bool b)/\Hid (FinSt w' F bf bp (q+64) (fun s=>if s=nm then none else ff s) vf (fun x=>restP nm (pl x)) M I w/\Chg M w w'):=by
 have hrest:∀ x,(restP nm (pl x)).length<=(pl x).length:=fun x=>List.length_filter_le _ _;have ofT:∀ (p:Pl),ofB nm p=true->p.1=nm:=fun p hp=>ba_ext (beq_iff_eq.1 hp)
 cases hd:ff nm with
 | none =>
  refine (fin_forget0 h nm hnm hd).mono ?_;rintro e w' ⟨rfl,x⟩;refine ⟨_,rfl,⟨vp,M,((h.ext x).congrF (ff':=fun s=>if s=nm then none else ff s) (fun s=>?_) (by omega)).congr (fun y hy=>?_) (fun y=>Nat.le_trans (hrest y) (by have:=h.len y;omega)),Sub.refl _ _⟩,x.chg _⟩
  ·by_cases e:s=nm
   ·rw [if_pos e,e,hd]
   ·rw [if_neg e]
  ·refine restP_all fun p hp=>?_;refine Bool.eq_false_iff.2 fun hc=>?_;obtain ⟨d,j,_,h2,_⟩:=(R.mem y hy p.1 p.2).1 hp;rw [ofT p hc,hd] at h2
   cases h2
 | some d =>
  refine (fin_forget h hq nm hnm T d hd).mono ?_;rintro e w' ⟨rfl,h1⟩;obtain ⟨⟨vp',M',h2,h3⟩,h4⟩:=h1.out;refine ⟨_,rfl,⟨vp',M',h2.congr (fun y hy=>?_) (fun y=>Nat.le_trans (hrest y) (by have:=h.len y;omega)),h3⟩,h4⟩;unfold plTo;split
  ·rfl
  ·rename_i hy2;refine restP_all fun p hp=>?_;refine Bool.eq_false_iff.2 fun hc=>?_;obtain ⟨d2,j,_,h5,h6⟩:=(R.mem y hy p.1 p.2).1 hp;rw [ofT p hc,hd] at h5
   cases h5
   exact hy2 (List.mem_of_getElem? h6)
end
section
open Go.RowKit Go.Shelf
attribute [local go_sem] Oper.semAt_some
def posTo (nm:ByteArray) (hs:List (List UInt8)):Nat->List UInt8->List Pl
 | 0,_=>[]
 | k+1,h=>posTo nm hs k h++(if hs[k]?=some h then [(nm,(k:Int))] else [])
theorem posTo_mem {nm:ByteArray} {hs:List (List UInt8)} {h:List UInt8} {n:ByteArray} {i:Int}:∀ {k},(n,i)∈posTo nm hs k h↔n=nm/\∃ j:Nat,j<k/\i=(j:Int)/\hs[j]?=some h
 | 0=>by simp [posTo]
 | k+1=>by
  rw [posTo,List.mem_append,posTo_mem];constructor
  ·rintro (⟨h1,j,h2,h3,h4⟩ | h1)
   ·exact ⟨h1,j,by omega,h3,h4⟩
   ·split at h1
    ·rename_i hk;rw [List.mem_singleton] at h1
     cases h1
     exact ⟨rfl,k,Nat.lt_succ_self k,rfl,hk⟩
    ·cases h1
  ·rintro ⟨rfl,j,h2,rfl,h4⟩;by_cases e:j=k
   ·subst e;right;rw [if_pos h4];exact List.mem_singleton.2 rfl
   ·exact .inl ⟨rfl,j,by omega,rfl,h4⟩
def addTo (nm:ByteArray) (P:List UInt8->List Pl) (hs:List (List UInt8)) (k:Nat):List UInt8->List Pl:=fun h=>P h++posTo nm hs k h
theorem addTo_succ (nm:ByteArray) (P:List UInt8->List Pl) (hs:List (List UInt8)) {k:Nat} {y:List UInt8} (h:hs[k]?=some y):addTo nm P hs (k+1)=updP (addTo nm P hs k) y (addTo nm P hs k y++[(nm,(k:Int))]):=by
 funext x
 unfold addTo updP;rw [posTo];by_cases e:x=y
 ·subst e;rw [if_pos rfl,if_pos h,List.append_assoc]
 ·rw [if_neg e,if_neg (fun q=>e (Option.some.inj (q.symm.trans h))),List.append_nil]
def addF (nm:ByteArray) (l:List UInt8) (ff:ByteArray->Option (List UInt8)):ByteArray->Option (List UInt8):=fun s=>if s=nm then some l else ff s
theorem FinRel.add {ff:ByteArray->Option (List UInt8)} {pl:List UInt8->List Pl} (R:FinRel ff pl) (nm:ByteArray) (hnm:nm.size<=1000000) (l:List UInt8):FinRel (addF nm l ff) (addTo nm (fun x=>restP nm (pl x)) (hashesL l) (countN l.length)):=by
 have ofI:∀ n:ByteArray,(ofB nm (n,(0:Int))=true)↔n=nm:=fun n=>⟨fun h=>ba_ext (beq_iff_eq.1 h),fun h=>by rw [h];simp [ofB]⟩;refine ⟨fun x hx n k=>?_,fun n d hd=>?_⟩
 ·unfold addTo addF;rw [List.mem_append,posTo_mem]
  have hr:(n,k)∈restP nm (pl x)↔(n,k)∈pl x/\n≠nm:=by
   unfold restP;rw [List.mem_filter]
   have:(!ofB nm (n,k))=true↔n≠nm:=by
    rw [Bool.not_eq_true',<-Bool.not_eq_true];exact not_congr (ofI n)
   rw [this]
  rw [hr,R.mem x hx];constructor
  ·rintro (⟨⟨d,j,h1,h2,h3⟩,h4⟩ | ⟨rfl,j,h2,h3,h4⟩)
   ·exact ⟨d,j,h1,by rw [if_neg h4];exact h2,h3⟩
   ·exact ⟨l,j,h3,by rw [if_pos rfl],h4⟩
  ·rintro ⟨d,j,h1,h2,h3⟩;by_cases e:n=nm
   ·rw [if_pos e] at h2
    cases h2
    have:=(List.getElem?_eq_some_iff.1 h3).1;rw [hashesL_len'] at this;exact .inr ⟨e,j,this,h1,h3⟩
   ·rw [if_neg e] at h2;exact .inl ⟨⟨d,j,h1,h2,h3⟩,e⟩
 ·unfold addF at hd;by_cases e:n=nm
  ·rw [e];exact hnm
  ·rw [if_neg e] at hd;exact R.size n d hd
theorem run_add_bytes {w:World} {b base g:Nat} {v:Value} {l:List UInt8} (hv:BytesOff b w v l) (hl:l.length<=1048576) (ho:w.ownsRow base 5 1 (.slice (some ⟨g,0,none⟩) 0 0) 0 []) (hb:base<=w.heap.size) (ty:TypeId) :
  ∃ v' w',(Builtin.append_ #[22,22] ty #[.slice (some ⟨g,0,none⟩) 0 0,v]).run prog w=.ok v' w'/\w'.ownsRow base 5 1 v' l.length (l.map bv)/\w.grownBy w' (some g):=by
 obtain ⟨i,hi,hz,hsz,hby⟩:=info_parts elU8.info;obtain ⟨a,cap,rfl,h1,h2,h3⟩:=hv
 cases a with
 | none =>
  have h0:l=[]:=by
   cases l with
   | nil=>rfl
   | cons x r=>obtain ⟨g,o,e,_⟩:=h3 (by simp);cases e
  subst h0;refine ⟨_,w,?_,ho,⟨rfl,rfl,rfl,Nat.le_refl _,fun _ _ _=>rfl⟩⟩;simp [Builtin.append_,run_underlying elU8.ut,sizeOf,typeInfo,hi,Builtin.lenOf,Builtin.firstCells,storeCells]
 | some ad =>
  have hnews:∀ (j:Nat) u,(l.map bv)[j]?=some u->w.cell? (ad.add j)=some u:=fun j u hj=>by
   have hp:0<l.length:=by have:=(List.getElem?_eq_some_iff.1 hj).1;simp at this;omega
   obtain ⟨g',o,e,_,_,h5⟩:=h3 hp
   cases e
   rw [List.getElem?_map] at hj;obtain ⟨x,hx,rfl⟩:=Option.map_eq_some_iff.1 hj;have:=h5 j x hx;rw [Addr.add_mid];exact this
  obtain ⟨v',w',hr,ho',hg,_⟩:=run_append_own w base 22 ty 5 i _ 1 _ elU8.ut hi hz hsz hby elU8.one (by decide) _ 0 [] ho ad l.length cap (l.map bv) (by simp) hnews (fun u hu=>by
   obtain ⟨x,_,rfl⟩:=List.mem_map.1 hu;rfl) (by unfold maxLen;omega) (by
   have:=elU8.few;have h6:(0+l.length)*_<=(0+l.length)*1024:=Nat.mul_le_mul_left (0+l.length) this
   omega) hb
  refine ⟨v',w',hr,?_,hg⟩
  simpa using ho'
end
section
open Go.RowKit Go.Shelf
attribute [local go_sem] Oper.semAt_some
theorem entry_look {H:Type} {P:Program} {w W1:World} {t k e:TypeId} {R:Value->Option (DataW H×List MemPlace)} {b:Nat} {es:Array MapEntry} {clock:Nat} (K:WideMaps.KeyLaw P k) (ht:P.underlying t=some (.map k e)) {z:Value} (hz:∀ u:World,(zeroValue e).run P u=.ok z u) (hb:w.heap[b]?=some (.map es clock)) (F:WideElems.Fit P k R es clock)
  {key:Value} {kl:Lit} (hkey:keyOf P k key=some kl) {v v0 s:Value} (h1:(Instr.lookup t (.map (some b)) key false).run P w=.ok v w) (h2:(Instr.mapEntry t (.map (some b)) key).run P w=.ok (.tuple #[v0,s]) W1):v0=v:=by
 rcases K.find w hkey es.toList F.keys with ⟨g1,g2⟩ | ⟨j,e0,g1,g2,g3⟩
 ·have a1:(Instr.lookup t (.map (some b)) key false).run P w=.ok z w:=by simp [Instr.lookup,run_underlying ht,MapKept.run_getObj_map hb,K.check w es.isEmpty hkey,g1,hz,Result.andThen]
  have a2:∃ s' w',(Instr.mapEntry t (.map (some b)) key).run P w=.ok (.tuple #[z,s']) w':=⟨_,_,by simp [Instr.mapEntry,run_underlying ht,MapKept.run_getObj_map hb,K.check w false hkey,g1,hz,MapKept.run_setObj_map _ hb,Result.andThen];exact ⟨rfl,rfl⟩⟩;obtain ⟨s',w',a2⟩:=a2;rw [a1] at h1;rw [a2] at h2
  cases h1
  injection h2 with h2 _
  injection h2 with h2
  injection h2 with h2
  simp at h2;exact h2.1.symm
 ·have hj:es[j]?=some e0:=by simpa using g2
  have a1:(Instr.lookup t (.map (some b)) key false).run P w=.ok e0.val w:=by simp [Instr.lookup,run_underlying ht,MapKept.run_getObj_map hb,K.check w es.isEmpty hkey,g1,Result.andThen]
  have a2:∃ s' w',(Instr.mapEntry t (.map (some b)) key).run P w=.ok (.tuple #[e0.val,s']) w':=⟨_,_,by simp [Instr.mapEntry,run_underlying ht,MapKept.run_getObj_map hb,K.check w false hkey,g1,hj,g3,K.stays w hkey,MapKept.run_setObj_map _ hb,Result.andThen];exact ⟨rfl,rfl⟩⟩;obtain ⟨s',w',a2⟩:=a2;rw [a1] at h1;rw [a2] at h2
  cases h1
  injection h2 with h2 _
  injection h2 with h2
  injection h2 with h2
  simp at h2;exact h2.1.symm
theorem MapH.entry {w:World} {b n:Nat} {f:List UInt8->Option Value} (h:MapH w b n f) {t e:TypeId} (ht:prog.underlying t=some (.map 45 e)) {z:Value} (hz:∀ u,(zeroValue e).run prog u=.ok z u) (hn:n<maxLen) (s:List UInt8) (hs:s.length=32) :
  ∃ st w1,(Instr.mapEntry t (.map (some b)) (.agg (hArr s 32))).run prog w=.ok (.tuple #[(f s).getD z,goInt st]) w1/\w.grownBy w1 (some b)/\w1.heap.size=w.heap.size /\
   ∀ v w2,w2.heap[b]?=w1.heap[b]?->∃ w',(Instr.entryStore t (.map (some b)) (goInt st) v).run prog w2=.ok () w'/\MapH w' b (n+1) (fun x=>if x=s then some v else f x)/\w2.grownBy w' (some b)/\w'.heap.size=w2.heap.size:=by
 have hlook:=h.look ht (hz w) s hs;have hst:=fun v=>h.store ht hn s hs v;obtain ⟨D,⟨es,clock,hb,F,_,_⟩,_⟩:=h;obtain ⟨l,hl⟩:=hash_key hs;obtain ⟨v0,st,es1,clock1,h1,_,h3⟩:=WideElems.entry_then_store hashLaw ht hz hb F hl;have hv0:=entry_look hashLaw ht hz hb F hl hlook h1;subst hv0;have hlt:=ltB hb;have hsb:∀ (u:World) o,b<u.heap.size->(ChangeMaps.setBlock u b o).heap[b]?=some o:=fun u o hu=>by unfold ChangeMaps.setBlock;simp [hu]
 have hso:∀ (u:World) o i,i≠b->(ChangeMaps.setBlock u b o).heap[i]?=u.heap[i]?:=fun u o i hi=>by unfold ChangeMaps.setBlock;simp [Ne.symm hi]
 have hss:∀ (u:World) o,(ChangeMaps.setBlock u b o).heap.size=u.heap.size:=fun u o=>by unfold ChangeMaps.setBlock;simp
 refine ⟨st,_,h1,⟨rfl,rfl,rfl,by rw [hss];exact Nat.le_refl _,fun i _ hi=>hso _ _ _ fun e=>hi (by rw [e])⟩,hss _ _,fun v w2 hw2=>?_⟩;rw [hsb _ _ hlt] at hw2;obtain ⟨es',clock',h4,h5⟩:=h3 w2 v hw2;obtain ⟨w9,hr9,hm9,_⟩:=hst v;rw [h5] at hr9;injection hr9 with _ hr9
 subst hr9;have hlt2:=ltB hw2;refine ⟨_,h4,hm9.kept ?_,⟨rfl,rfl,rfl,by rw [hss];exact Nat.le_refl _,fun i _ hi=>hso _ _ _ fun e=>hi (by rw [e])⟩,hss _ _⟩;rw [hsb _ _ hlt2,hsb _ _ hlt]
end
end Go.Proofs.YtldppmjjgljinaaGreatDoor
