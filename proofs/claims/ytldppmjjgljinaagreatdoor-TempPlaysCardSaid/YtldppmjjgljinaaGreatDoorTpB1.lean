import Derived.Test.YtldppmjjgljinaaGreatDoorTpA1
import Derived.Test.YtldppmjjgljinaaGreatDoorShelf
import Derived.Laws.BitsAllLaws
import Derived.Laws.CopyOwn
import Derived.Lib.AppendZerosOnto
import Derived.Lib.AppendZeros
open Go.Proofs.Tryz
namespace Go.Proofs.YtldppmjjgljinaaGreatDoor
open Go.RowKit
section
theorem wd_ofInt (x:Wd):BitVec.ofInt 32 (x.toNat:Int)=x:=by
 rw [show ((x.toNat:Nat):Int)=Int.ofNat x.toNat from rfl];apply BitVec.eq_of_toNat_eq;rw [BitVec.toNat_ofInt];have:=x.isLt;simp;omega
theorem wd_wrap (x:Wd):IntKind.u32.wrap (x.toNat:Int)=x.toNat:=by
 have:=x.isLt;rw [IntKind.wrap_u32'];omega
theorem wd_xor (x y:Wd):bits .xor .u32 (x.toNat:Int) (y.toNat:Int)=((x ^^^ y).toNat:Int):=by
 show IntKind.u32.wrap ((BitVec.ofInt 32 (x.toNat:Int) ^^^ BitVec.ofInt 32 (y.toNat:Int)).toNat:Int)=_
 rw [wd_ofInt,wd_ofInt,wd_wrap]
theorem wd_and (x y:Wd):bits .and .u32 (x.toNat:Int) (y.toNat:Int)=((x &&& y).toNat:Int):=by
 show IntKind.u32.wrap ((BitVec.ofInt 32 (x.toNat:Int) &&& BitVec.ofInt 32 (y.toNat:Int)).toNat:Int)=_
 rw [wd_ofInt,wd_ofInt,wd_wrap]
theorem wd_or (x y:Wd):bits .or .u32 (x.toNat:Int) (y.toNat:Int)=((x ||| y).toNat:Int):=by
 show IntKind.u32.wrap ((BitVec.ofInt 32 (x.toNat:Int) ||| BitVec.ofInt 32 (y.toNat:Int)).toNat:Int)=_
 rw [wd_ofInt,wd_ofInt,wd_wrap]
theorem wd_add (x y:Wd):((x.toNat:Int)+y.toNat) % 4294967296=((x+y).toNat:Int):=by
 rw [BitVec.toNat_add];omega
theorem wd_shr (x:Wd) (n:Nat):(x.toNat:Int) / ((2 ^ n:Nat):Int)=((x >>> n).toNat:Int):=by
 rw [BitVec.toNat_ushiftRight,Nat.shiftRight_eq_div_pow];rfl
theorem wd_shl (x:Wd) (n:Nat):(x.toNat:Int)*((2 ^ n:Nat):Int) % 4294967296=((x <<< n).toNat:Int):=by
 rw [BitVec.toNat_shiftLeft,Nat.shiftLeft_eq];rfl
theorem wd_rot (x:Wd) (n:Nat):bits .or .u32 ((x.toNat:Int)*((2 ^ (32 - n):Nat):Int) % 4294967296) ((x.toNat:Int) / ((2 ^ n:Nat):Int))=((rotr x n).toNat:Int):=by
 rw [wd_shl,wd_shr,wd_or,rotr,BitVec.or_comm]
def rotOk (n:Int):Bool:=[(2:Int),(6:Int),(7:Int),(11:Int),(13:Int),(17:Int),(18:Int),(19:Int),(22:Int),(25:Int)].contains n
theorem rot2 (x:Wd) (w:World):Calls prog 259 #[.int .u32 x.toNat,.int .i64 (-2)] w fun e w'=>e=.returned (.int .u32 (rotr x 2).toNat)/\w'=w:=by
 have e1:bits BinOp.and IntKind.u64 (IntKind.u64.wrap (-2)) 31=30:=by decide
 have HR:=lh (wd_rot x 2);go_enter func259,ntmps259;go_wp2_with fail;go_ret;exact ⟨ret_int HR.out,rfl⟩
theorem right2 (x:Wd) (w:World):Calls prog 237 #[.int .u32 x.toNat,.int .i64 2] w fun e w'=>e=.returned (.int .u32 (rotr x 2).toNat)/\w'=w:=by
 have HR:=lh (rot2 x w);generalize rotr x 2=y at *;go_enter func237,ntmps237;go_wp2_with fail;refine HR.out.mono ?_;rintro e w1 ⟨rfl,rfl⟩;go_wp2_with fail;go_ret;exact ⟨rfl,rfl⟩
theorem rot6 (x:Wd) (w:World):Calls prog 259 #[.int .u32 x.toNat,.int .i64 (-6)] w fun e w'=>e=.returned (.int .u32 (rotr x 6).toNat)/\w'=w:=by
 have e1:bits BinOp.and IntKind.u64 (IntKind.u64.wrap (-6)) 31=26:=by decide
 have HR:=lh (wd_rot x 6);go_enter func259,ntmps259;go_wp2_with fail;go_ret;exact ⟨ret_int HR.out,rfl⟩
theorem right6 (x:Wd) (w:World):Calls prog 237 #[.int .u32 x.toNat,.int .i64 6] w fun e w'=>e=.returned (.int .u32 (rotr x 6).toNat)/\w'=w:=by
 have HR:=lh (rot6 x w);generalize rotr x 6=y at *;go_enter func237,ntmps237;go_wp2_with fail;refine HR.out.mono ?_;rintro e w1 ⟨rfl,rfl⟩;go_wp2_with fail;go_ret;exact ⟨rfl,rfl⟩
theorem rot7 (x:Wd) (w:World):Calls prog 259 #[.int .u32 x.toNat,.int .i64 (-7)] w fun e w'=>e=.returned (.int .u32 (rotr x 7).toNat)/\w'=w:=by
 have e1:bits BinOp.and IntKind.u64 (IntKind.u64.wrap (-7)) 31=25:=by decide
 have HR:=lh (wd_rot x 7);go_enter func259,ntmps259;go_wp2_with fail;go_ret;exact ⟨ret_int HR.out,rfl⟩
theorem right7 (x:Wd) (w:World):Calls prog 237 #[.int .u32 x.toNat,.int .i64 7] w fun e w'=>e=.returned (.int .u32 (rotr x 7).toNat)/\w'=w:=by
 have HR:=lh (rot7 x w);generalize rotr x 7=y at *;go_enter func237,ntmps237;go_wp2_with fail;refine HR.out.mono ?_;rintro e w1 ⟨rfl,rfl⟩;go_wp2_with fail;go_ret;exact ⟨rfl,rfl⟩
theorem rot11 (x:Wd) (w:World):Calls prog 259 #[.int .u32 x.toNat,.int .i64 (-11)] w fun e w'=>e=.returned (.int .u32 (rotr x 11).toNat)/\w'=w:=by
 have e1:bits BinOp.and IntKind.u64 (IntKind.u64.wrap (-11)) 31=21:=by decide
 have HR:=lh (wd_rot x 11);go_enter func259,ntmps259;go_wp2_with fail;go_ret;exact ⟨ret_int HR.out,rfl⟩
theorem right11 (x:Wd) (w:World):Calls prog 237 #[.int .u32 x.toNat,.int .i64 11] w fun e w'=>e=.returned (.int .u32 (rotr x 11).toNat)/\w'=w:=by
 have HR:=lh (rot11 x w);generalize rotr x 11=y at *;go_enter func237,ntmps237;go_wp2_with fail;refine HR.out.mono ?_;rintro e w1 ⟨rfl,rfl⟩;go_wp2_with fail;go_ret;exact ⟨rfl,rfl⟩
theorem rot13 (x:Wd) (w:World):Calls prog 259 #[.int .u32 x.toNat,.int .i64 (-13)] w fun e w'=>e=.returned (.int .u32 (rotr x 13).toNat)/\w'=w:=by
 have e1:bits BinOp.and IntKind.u64 (IntKind.u64.wrap (-13)) 31=19:=by decide
 have HR:=lh (wd_rot x 13);go_enter func259,ntmps259;go_wp2_with fail;go_ret;exact ⟨ret_int HR.out,rfl⟩
theorem right13 (x:Wd) (w:World):Calls prog 237 #[.int .u32 x.toNat,.int .i64 13] w fun e w'=>e=.returned (.int .u32 (rotr x 13).toNat)/\w'=w:=by
 have HR:=lh (rot13 x w);generalize rotr x 13=y at *;go_enter func237,ntmps237;go_wp2_with fail;refine HR.out.mono ?_;rintro e w1 ⟨rfl,rfl⟩;go_wp2_with fail;go_ret;exact ⟨rfl,rfl⟩
theorem rot17 (x:Wd) (w:World):Calls prog 259 #[.int .u32 x.toNat,.int .i64 (-17)] w fun e w'=>e=.returned (.int .u32 (rotr x 17).toNat)/\w'=w:=by
 have e1:bits BinOp.and IntKind.u64 (IntKind.u64.wrap (-17)) 31=15:=by decide
 have HR:=lh (wd_rot x 17);go_enter func259,ntmps259;go_wp2_with fail;go_ret;exact ⟨ret_int HR.out,rfl⟩
theorem right17 (x:Wd) (w:World):Calls prog 237 #[.int .u32 x.toNat,.int .i64 17] w fun e w'=>e=.returned (.int .u32 (rotr x 17).toNat)/\w'=w:=by
 have HR:=lh (rot17 x w);generalize rotr x 17=y at *;go_enter func237,ntmps237;go_wp2_with fail;refine HR.out.mono ?_;rintro e w1 ⟨rfl,rfl⟩;go_wp2_with fail;go_ret;exact ⟨rfl,rfl⟩
theorem rot18 (x:Wd) (w:World):Calls prog 259 #[.int .u32 x.toNat,.int .i64 (-18)] w fun e w'=>e=.returned (.int .u32 (rotr x 18).toNat)/\w'=w:=by
 have e1:bits BinOp.and IntKind.u64 (IntKind.u64.wrap (-18)) 31=14:=by decide
 have HR:=lh (wd_rot x 18);go_enter func259,ntmps259;go_wp2_with fail;go_ret;exact ⟨ret_int HR.out,rfl⟩
theorem right18 (x:Wd) (w:World):Calls prog 237 #[.int .u32 x.toNat,.int .i64 18] w fun e w'=>e=.returned (.int .u32 (rotr x 18).toNat)/\w'=w:=by
 have HR:=lh (rot18 x w);generalize rotr x 18=y at *;go_enter func237,ntmps237;go_wp2_with fail;refine HR.out.mono ?_;rintro e w1 ⟨rfl,rfl⟩;go_wp2_with fail;go_ret;exact ⟨rfl,rfl⟩
theorem rot19 (x:Wd) (w:World):Calls prog 259 #[.int .u32 x.toNat,.int .i64 (-19)] w fun e w'=>e=.returned (.int .u32 (rotr x 19).toNat)/\w'=w:=by
 have e1:bits BinOp.and IntKind.u64 (IntKind.u64.wrap (-19)) 31=13:=by decide
 have HR:=lh (wd_rot x 19);go_enter func259,ntmps259;go_wp2_with fail;go_ret;exact ⟨ret_int HR.out,rfl⟩
theorem right19 (x:Wd) (w:World):Calls prog 237 #[.int .u32 x.toNat,.int .i64 19] w fun e w'=>e=.returned (.int .u32 (rotr x 19).toNat)/\w'=w:=by
 have HR:=lh (rot19 x w);generalize rotr x 19=y at *;go_enter func237,ntmps237;go_wp2_with fail;refine HR.out.mono ?_;rintro e w1 ⟨rfl,rfl⟩;go_wp2_with fail;go_ret;exact ⟨rfl,rfl⟩
theorem rot22 (x:Wd) (w:World):Calls prog 259 #[.int .u32 x.toNat,.int .i64 (-22)] w fun e w'=>e=.returned (.int .u32 (rotr x 22).toNat)/\w'=w:=by
 have e1:bits BinOp.and IntKind.u64 (IntKind.u64.wrap (-22)) 31=10:=by decide
 have HR:=lh (wd_rot x 22);go_enter func259,ntmps259;go_wp2_with fail;go_ret;exact ⟨ret_int HR.out,rfl⟩
theorem right22 (x:Wd) (w:World):Calls prog 237 #[.int .u32 x.toNat,.int .i64 22] w fun e w'=>e=.returned (.int .u32 (rotr x 22).toNat)/\w'=w:=by
 have HR:=lh (rot22 x w);generalize rotr x 22=y at *;go_enter func237,ntmps237;go_wp2_with fail;refine HR.out.mono ?_;rintro e w1 ⟨rfl,rfl⟩;go_wp2_with fail;go_ret;exact ⟨rfl,rfl⟩
theorem rot25 (x:Wd) (w:World):Calls prog 259 #[.int .u32 x.toNat,.int .i64 (-25)] w fun e w'=>e=.returned (.int .u32 (rotr x 25).toNat)/\w'=w:=by
 have e1:bits BinOp.and IntKind.u64 (IntKind.u64.wrap (-25)) 31=7:=by decide
 have HR:=lh (wd_rot x 25);go_enter func259,ntmps259;go_wp2_with fail;go_ret;exact ⟨ret_int HR.out,rfl⟩
theorem right25 (x:Wd) (w:World):Calls prog 237 #[.int .u32 x.toNat,.int .i64 25] w fun e w'=>e=.returned (.int .u32 (rotr x 25).toNat)/\w'=w:=by
 have HR:=lh (rot25 x w);generalize rotr x 25=y at *;go_enter func237,ntmps237;go_wp2_with fail;refine HR.out.mono ?_;rintro e w1 ⟨rfl,rfl⟩;go_wp2_with fail;go_ret;exact ⟨rfl,rfl⟩
theorem right_any (x:Wd) (n:Int) (w:World) (hn:rotOk n=true):Calls prog 237 #[.int .u32 x.toNat,.int .i64 n] w fun e w'=>e=.returned (.int .u32 (rotr x n.toNat).toNat)/\w'=w:=by
 have:n=2\/n=6\/n=7\/n=11\/n=13\/n=17\/n=18\/n=19\/n=22\/n=25:=by simpa [rotOk] using hn
 rcases this with rfl | rfl | rfl | rfl | rfl | rfl | rfl | rfl | rfl | rfl
 ·exact right2 x w
 ·exact right6 x w
 ·exact right7 x w
 ·exact right11 x w
 ·exact right13 x w
 ·exact right17 x w
 ·exact right18 x w
 ·exact right19 x w
 ·exact right22 x w
 ·exact right25 x w
end
section
def wv (x:Wd):Value:=.int .u32 x.toNat
def bv (x:UInt8):Value:=.int .u8 x.toNat
def wArr (r:List UInt8) (k:Nat):Array Value:=((wordsL r k).map wv++List.replicate (64 - k) (Value.int .u32 0)).toArray
def wObj (r:List UInt8) (k:Nat):Obj:=.cells (wArr r k) 280 (0,0)
theorem wArr_size (r:List UInt8) (k:Nat) (h:k<=64):(wArr r k).size=64:=by
 simp [wArr,wordsL_len];omega
theorem wArr_at (r:List UInt8) (k j:Nat) (h:j<k):(wArr r k)[j]?=some (wv ((wordsL r k).getD j 0)):=by
 unfold wArr;rw [List.getElem?_toArray,List.getElem?_append_left (by simp [wordsL_len,h]),List.getElem?_map,wordsL_at r k j h,List.getD_eq_getElem?_getD,wordsL_at r k j h];rfl
theorem wArr_zero (r:List UInt8) (k j:Nat) (h:k<=j) (hj:j<64):(wArr r k)[j]?=some (.int .u32 0):=by
 unfold wArr;rw [List.getElem?_toArray,List.getElem?_append_right (by simp [wordsL_len,h]),List.getElem?_replicate,if_pos (by simp [wordsL_len];omega)]
theorem wArr_set (r:List UInt8) (k:Nat) (h:k<64):(wArr r k).setIfInBounds k (wv (nextW r (wordsL r k) k))=wArr r (k+1):=by
 apply Array.ext_getElem?;intro j;rw [Array.getElem?_setIfInBounds];split
 ·subst_vars
  rw [if_pos (by rw [wArr_size r _ (by omega)];omega),wArr_at r (j+1) j (by omega),List.getD_eq_getElem?_getD,wordsL_at r (j+1) j (by omega)];rfl
 ·rename_i hne;by_cases h1:j<k
  ·rw [wArr_at r k j h1,wArr_at r (k+1) j (by omega),List.getD_eq_getElem?_getD,List.getD_eq_getElem?_getD,wordsL_at r k j h1,wordsL_at r (k+1) j (by omega)]
  ·by_cases h2:j<64
   ·rw [wArr_zero r k j (by omega) h2,wArr_zero r (k+1) j (by omega) h2]
   ·rw [Array.getElem?_eq_none (by rw [wArr_size r k (by omega)];omega),Array.getElem?_eq_none (by rw [wArr_size r (k+1) (by omega)];omega)]
theorem word_eq (r:List UInt8) (k:Nat) (x0 x1 x2 x3:UInt8) (hk:k<16) (h0:r[4*k+0]?=some x0) (h1:r[4*k+1]?=some x1) (h2:r[4*k+2]?=some x2) (h3:r[4*k+3]?=some x3) :
  bits BinOp.or IntKind.u32 (bits BinOp.or IntKind.u32 (bits BinOp.or IntKind.u32 ((x0.toNat:Int) % 4294967296*16777216 % 4294967296) ((x1.toNat:Int) % 4294967296*65536 % 4294967296)) ((x2.toNat:Int) % 4294967296*256 % 4294967296)) ((x3.toNat:Int) % 4294967296)=((nextW r (wordsL r k) k).toNat:Int):=by
 have b0:=x0.toNat_lt;have b1:=x1.toNat_lt;have b2:=x2.toNat_lt;have b3:=x3.toNat_lt
 rw [show (x0.toNat:Int) % 4294967296*16777216 % 4294967296=((x0.toNat*16777216:Nat):Int) from by omega,
  show (x1.toNat:Int) % 4294967296*65536 % 4294967296=((x1.toNat*65536:Nat):Int) from by omega,
  show (x2.toNat:Int) % 4294967296*256 % 4294967296=((x2.toNat*256:Nat):Int) from by omega,
  show (x3.toNat:Int) % 4294967296=(x3.toNat:Int) from by omega]
 rw [u32_or_nat _ _ (by omega) (by omega),nat_join 24 _ _ (by omega) (by omega),
  u32_or_nat _ _ (by omega) (by omega),nat_join 16 _ _ (by omega) (by omega),
  u32_or_nat _ _ (by omega) (by omega),nat_join 8 _ _ (by omega) (by omega)]
 unfold nextW wordAt;rw [if_pos hk,List.getD_eq_getElem?_getD,List.getD_eq_getElem?_getD,List.getD_eq_getElem?_getD,List.getD_eq_getElem?_getD,h1,h2,h3,show r[4*k]?=some x0 from h0];simp only [Option.getD_some,BitVec.toNat_ofNat];omega
theorem wd_shr3 (x:Wd):(x.toNat:Int) / (8:Int)=((x >>> 3).toNat:Int):=wd_shr x 3
theorem wd_shr10 (x:Wd):(x.toNat:Int) / (1024:Int)=((x >>> 10).toNat:Int):=wd_shr x 10
theorem sched_eq (x0 x1 x9 x14 y:Wd) (h:x0+sg0 x1+x9+sg1 x14=y) :
  ((x0.toNat+bits BinOp.xor IntKind.u32 (bits BinOp.xor IntKind.u32 ((rotr x1 7).toNat:Int) (rotr x1 18).toNat) ((x1.toNat:Int) / (8:Int))+x9.toNat) % 4294967296+bits BinOp.xor IntKind.u32 (bits BinOp.xor IntKind.u32 ((rotr x14 17).toNat:Int) (rotr x14 19).toNat) ((x14.toNat:Int) / (1024:Int))) % 4294967296=(y.toNat:Int):=by
 rw [wd_xor,wd_xor,wd_shr3,wd_shr10,wd_xor,wd_xor,<-h];unfold sg0 sg1;rw [BitVec.toNat_add,BitVec.toNat_add,BitVec.toNat_add];omega
theorem wd_not (x:Wd):bits BinOp.xor IntKind.u32 IntKind.u32.max (x.toNat:Int)=((~~~x).toNat:Int):=by
 rw [show IntKind.u32.max=(((BitVec.allOnes 32:Wd).toNat:Nat):Int) from by decide,wd_xor,BitVec.allOnes_xor]
theorem xr_eq (e f g h kk ww:Wd):((h.toNat:Int)+bits BinOp.xor IntKind.u32 (bits BinOp.xor IntKind.u32 ((rotr e 6).toNat:Int) (rotr e 11).toNat) (rotr e 25).toNat+bits BinOp.xor IntKind.u32 (bits BinOp.and IntKind.u32 (e.toNat:Int) f.toNat) (bits BinOp.and IntKind.u32 (bits BinOp.xor IntKind.u32 IntKind.u32.max (e.toNat:Int)) g.toNat)+kk.toNat+ww.toNat) % 4294967296=((h+big1 e+chw e f g+kk+ww).toNat:Int):=by
 rw [wd_not,wd_xor,wd_xor,wd_and,wd_and,wd_xor];unfold big1 chw;rw [BitVec.toNat_add,BitVec.toNat_add,BitVec.toNat_add,BitVec.toNat_add];omega
theorem yr_eq (a b c:Wd):(bits BinOp.xor IntKind.u32 (bits BinOp.xor IntKind.u32 ((rotr a 2).toNat:Int) (rotr a 13).toNat) (rotr a 22).toNat+bits BinOp.xor IntKind.u32 (bits BinOp.xor IntKind.u32 (bits BinOp.and IntKind.u32 (a.toNat:Int) b.toNat) (bits BinOp.and IntKind.u32 (a.toNat:Int) c.toNat)) (bits BinOp.and IntKind.u32 (b.toNat:Int) c.toNat)) % 4294967296=((big0 a+mjw a b c).toNat:Int):=by
 rw [wd_xor,wd_xor,wd_and,wd_and,wd_and,wd_xor,wd_xor];unfold big0 mjw;rw [BitVec.toNat_add];omega
def V8.get (v:V8):Array Value:=#[wv v.a,wv v.b,wv v.c,wv v.d,wv v.e,wv v.f,wv v.g,wv v.h]
def vObj (v:V8):Obj:=.cells v.get 246 (0,0)
def stC (l:List Wd) (r:List UInt8) (n:Int):Array Value:=(l.map wv++(r.map bv++[Value.int .i64 n,.bool true])).toArray
def stObj (l:List Wd) (r:List UInt8) (n:Int):Obj:=.cells (stC l r n) 249 (0,0)
theorem stC_word (l:List Wd) (r:List UInt8) (n:Int) (k:Nat) (x:Wd) (h:l[k]?=some x):(stC l r n)[k]?=some (.int .u32 x.toNat):=by
 have hk:k<l.length:=(List.getElem?_eq_some_iff.1 h).1;unfold stC;rw [List.getElem?_toArray,List.getElem?_append_left (by simpa using hk),List.getElem?_map,h];rfl
theorem stC_byte (l:List Wd) (r:List UInt8) (n:Int) (k:Nat) (x:UInt8) (hl:l.length=8) (h:r[k]?=some x):(stC l r n)[8+k]?=some (.int .u8 x.toNat):=by
 have hk:k<r.length:=(List.getElem?_eq_some_iff.1 h).1;unfold stC;rw [List.getElem?_toArray,List.getElem?_append_right (by simp [hl]),List.getElem?_append_left (by simp [hl,hk]),List.getElem?_map];simp [hl,h,bv]
theorem stC_set (l:List Wd) (r:List UInt8) (n:Int) (k:Nat) (x:Wd) (h:k<l.length):(stC l r n).setIfInBounds k (wv x)=stC (l.set k x) r n:=by
 unfold stC;rw [List.setIfInBounds_toArray,List.set_append_left _ _ (by simpa using h),List.map_set]
theorem stObj_set (l:List Wd) (r:List UInt8) (n:Int) (k:Nat) (x:Wd) (h:k<l.length):Obj.cells ((stC l r n).setIfInBounds k (wv x)) 249 (0,0)=stObj (l.set k x) r n:=by rw [stC_set _ _ _ _ _ h];rfl
def mixL (a b:List Wd) (k:Nat):List Wd:=a.take k++b.drop k
theorem mixL_len (a b:List Wd) (k:Nat) (ha:a.length=8) (hb:b.length=8) (h:k<=8):(mixL a b k).length=8:=by simp [mixL,ha,hb];omega
theorem mixL_at (a b:List Wd) (k:Nat) (ha:a.length=8) (h:k<8):(mixL a b k)[k]?=b[k]?:=by
 unfold mixL;rw [List.getElem?_append_right (by simp [ha];omega)];simp [ha,show min k 8=k from by omega]
theorem mixL_set (a b:List Wd) (k:Nat) (x:Wd) (ha:a.length=8) (hb:b.length=8) (h:k<8) (hx:a[k]?=some x):(mixL a b k).set k x=mixL a b (k+1):=by
 unfold mixL;rw [List.set_append,if_neg (by simp [ha];omega),List.take_add_one,hx];simp only [List.length_take,ha,show min k 8=k from by omega,Nat.sub_self,Option.toList_some,List.append_assoc,List.cons_append,List.nil_append];rw [List.drop_eq_getElem_cons (show k<b.length by omega)];rfl
def Touch (b:Nat) (w w':World):Prop:=w.grownBy w' (some b)
theorem Touch.of {b:Nat} {w w':World} (h:Ext w w'):Touch b w w':=⟨h.os,h.tape,h.output,h.size,fun _ hi _=>h.block hi⟩
theorem Touch.trans {b:Nat} {u v w:World} (h:Touch b u v) (k:Touch b v w):Touch b u w:=World.grownBy.andThen h k fun _ e=>.inr e
theorem Touch.setCell {b k:Nat} {w w':World} (h:Touch b w w') (u:Value):Touch b w (w'.setCell ⟨b,k,none⟩ u):=by
 refine h.trans ⟨rfl,rfl,rfl,by simp [World.setCell],fun i _ hne=>setCellO fun e=>hne (by rw [e])⟩
set_option maxHeartbeats 4000000 in
set_option maxRecDepth 100000 in
theorem block_any (s:V8) (r:List UInt8) (n:Int) (bs:Nat) (w:World) (hr:r.length=64) (hst:w.heap[bs]?=some (stObj s.list r n)) (hk:∀ k,k<64->w.cell? ⟨1,k,none⟩=some (.int .u32 (kAt k).toNat)) :
  Calls prog 202 #[.pointer (some ⟨bs,0,none⟩),.slice (some ⟨bs,8,none⟩) 64 64] w fun e w'=>e=.returned (.tuple #[])/\w'.heap[bs]?=some (stObj (comp s r).list r n)/\Touch bs w w':=by
 have hb:∀ (k:Nat) x,r[k]?=some x->w.cell? ⟨bs,8+k,none⟩=some (bv x):=fun k x h=>(cellB hst).trans (stC_byte _ _ _ k x rfl h);have HST:=lh hst;clear hst;have HB:=lh hb;have HK:=lh hk;clear hb hk;go_enter func202,ntmps202;go_wp2_with fail;go_loopw [15] (fun i wr=>Hid (∃ k:Nat,k<=64/\i=.int .i64 k/\Ext w wr/\wr.heap[w.heap.size]?=some (wObj r k))) (fun i _=>64 - (intOf i).toNat)
 case atStart=>exact ⟨0,by omega,rfl,(Ext.refl w).alloc _,heap_alloc_new _ _⟩
 case round =>
  obtain ⟨k,hk,rfl,hx,hwb⟩:=hrel.out;clear hrel;have HX:=lh hx;have HW:=lh hwb;clear hx hwb;by_cases hlt:k<64
  ·have hfr:∀ v:After wr,v.v.frozen? ⟨w.heap.size,k,none⟩=false:=fun v=>frozenB ((v.x.block (ltB HW.out)).trans HW.out);have hzz:∀ v:After wr,v.v.cell? ⟨w.heap.size,k,none⟩=some (.int .u32 0):=fun v=>(cellB ((v.x.block (ltB HW.out)).trans HW.out)).trans (wArr_zero r k k (Nat.le_refl _) hlt);by_cases h16:k<16
   ·have hp:∀ j,j<4->∃ x,r[4*k+j]?=some x/\∀ v:After wr,v.v.cell? ⟨bs,8+(4*k+j),none⟩=some (.int .u8 x.toNat):=fun j hj=>by
     obtain ⟨x,hx⟩:∃ x,r[4*k+j]?=some x:=⟨_,List.getElem?_eq_getElem (by omega)⟩;exact ⟨x,hx,fun v=>After.cell ((HX.out.cell (lt_of_cell (HB.out _ _ hx))).trans (HB.out _ _ hx)) v⟩
    obtain ⟨x0,q0,p0⟩:=hp 0 (by omega)
    replace p0:∀ v:After wr,v.v.cell? ⟨bs,8+4*k,none⟩=some (.int .u8 x0.toNat):=p0
    obtain ⟨x1,q1,p1⟩:=hp 1 (by omega);obtain ⟨x2,q2,p2⟩:=hp 2 (by omega);obtain ⟨x3,q3,p3⟩:=hp 3 (by omega);have HE:=lh (word_eq r k x0 x1 x2 x3 h16 q0 q1 q2 q3);clear hp q0 q1 q2 q3;go_wp2_with fail;refine wp_region_after_tail 35 (by kernel_rfl) (by kernel_rfl) ?_;simp only [List.take_succ_cons,List.take_zero,List.drop_succ_cons,List.drop_zero]
    repeat (go_big_quiet_step (fail))
    refine wpQuiet_nil ?_;rintro _ ⟨y,rfl⟩;rw [HE.out];have HY:=lh y.x;go_wp2_with fail;go_roundw
    case rel=>exact ⟨k+1,by omega,by go_num,(HX.out.trans HY.out).setCell (Nat.le_refl _) _,by rw [setCellB ((HY.out.block (ltB HW.out)).trans HW.out)];exact congrArg (fun a=>some (Obj.cells a 280 (0,0))) (wArr_set r k hlt)⟩
    case measure=>simp [intOf];omega
   ·obtain ⟨m,rfl⟩:∃ m,k=m+16:=⟨k - 16,by omega⟩;have hq:∀ j,j<16->∀ v:After wr,v.v.cell? ⟨w.heap.size,m+j,none⟩=some (.int .u32 ((wordsL r (m+16)).getD (m+j) 0).toNat):=fun j hj v=>(cellB ((v.x.block (ltB HW.out)).trans HW.out)).trans (wArr_at r (m+16) (m+j) (by omega));obtain ⟨x0,g0⟩:∃ x,x=(wordsL r (m+16)).getD m 0:=⟨_,rfl⟩;obtain ⟨x1,g1⟩:∃ x,x=(wordsL r (m+16)).getD (m+1) 0:=⟨_,rfl⟩;obtain ⟨x9,g9⟩:∃ x,x=(wordsL r (m+16)).getD (m+9) 0:=⟨_,rfl⟩;obtain ⟨x14,g14⟩:∃ x,x=(wordsL r (m+16)).getD (m+14) 0:=⟨_,rfl⟩;have p0:∀ v:After wr,v.v.cell? ⟨w.heap.size,m,none⟩=some (.int .u32 x0.toNat):=fun v=>by rw [g0];exact hq 0 (by omega) v
    have p1:∀ v:After wr,v.v.cell? ⟨w.heap.size,m+1,none⟩=some (.int .u32 x1.toNat):=fun v=>by rw [g1];exact hq 1 (by omega) v
    have p9:∀ v:After wr,v.v.cell? ⟨w.heap.size,m+9,none⟩=some (.int .u32 x9.toNat):=fun v=>by rw [g9];exact hq 9 (by omega) v
    have p14:∀ v:After wr,v.v.cell? ⟨w.heap.size,m+14,none⟩=some (.int .u32 x14.toNat):=fun v=>by rw [g14];exact hq 14 (by omega) v
    have HE:=lh (sched_eq x0 x1 x9 x14 _ (show x0+sg0 x1+x9+sg1 x14=nextW r (wordsL r (m+16)) (m+16) from by
     unfold nextW
     rw [if_neg (by omega),g0,g1,g9,g14,show m+16 - 16=m from by omega,show m+16 - 15=m+1 from by omega,show m+16 - 7=m+9 from by omega,show m+16 - 2=m+14 from by omega]))
    clear hq g0 g1 g9 g14;go_wp2_with fail;refine wp_region_after (by kernel_rfl) (by kernel_rfl) ?_
    repeat (go_big_quiet_step (fail))
    refine wpQuiet_nil ?_;rintro _ ⟨y,rfl⟩;have HY:=lh y.x;go_wp2_with fail;refine wp_region_after_tail0 y 29 (by kernel_rfl) (by kernel_rfl) ?_;simp only [List.take_succ_cons,List.take_zero,List.drop_succ_cons,List.drop_zero]
    repeat (go_big_quiet_step ((go_at_call 237;exact After.same (right_any _ _ _ rfl))))
    refine wpQuiet_nil ?_;rintro _ ⟨y2,rfl⟩;rw [HE.out];have HY2:=lh y2.x;go_wp2_with fail;go_roundw
    case rel=>exact ⟨m+16+1,by omega,by go_num,(HX.out.trans HY2.out).setCell (Nat.le_refl _) _,by rw [setCellB ((HY2.out.block (ltB HW.out)).trans HW.out)];exact congrArg (fun a=>some (Obj.cells a 280 (0,0))) (wArr_set r (m+16) hlt)⟩
    case measure=>simp [intOf];omega
  ·have e64:k=64:=by omega
   have HW:=lh (e64▸HW.out);have HK64:=lh e64;clear e64;obtain ⟨wa,rfl⟩:∃ x,x=wr:=⟨_,rfl⟩;have hst:=(HX.out.block (ltB HST.out)).trans HST.out;have hsx:∀ (k:Nat) x,s.list[k]?=some x->wa.cell? ⟨bs,k,none⟩=some (.int .u32 x.toNat):=fun k x h=>(cellB hst).trans (stC_word _ _ _ k x h);clear hst;have s0:wa.cell? ⟨bs,0,none⟩=some (.int .u32 s.a.toNat):=hsx 0 _ rfl;have s1:wa.cell? ⟨bs,1,none⟩=some (.int .u32 s.b.toNat):=hsx 1 _ rfl;have s2:wa.cell? ⟨bs,2,none⟩=some (.int .u32 s.c.toNat):=hsx 2 _ rfl;have s3:wa.cell? ⟨bs,3,none⟩=some (.int .u32 s.d.toNat):=hsx 3 _ rfl;have s4:wa.cell? ⟨bs,4,none⟩=some (.int .u32 s.e.toNat):=hsx 4 _ rfl;have s5:wa.cell? ⟨bs,5,none⟩=some (.int .u32 s.f.toNat):=hsx 5 _ rfl;have s6:wa.cell? ⟨bs,6,none⟩=some (.int .u32 s.g.toNat):=hsx 6 _ rfl;have s7:wa.cell? ⟨bs,7,none⟩=some (.int .u32 s.h.toNat):=hsx 7 _ rfl;go_wp2_with fail;go_loopw [97] (fun i wr=>Hid (∃ k:Nat,k<=64/\i=.int .i64 k/\Ext wa wr/\wr.heap[wa.heap.size]?=some (vObj (rounds s (wordsL r 64) k)))) (fun i _=>64 - (intOf i).toNat)
   case atStart=>exact ⟨0,by omega,rfl,(Ext.refl wa).alloc _,heap_alloc_new _ _⟩
   case round =>
    obtain ⟨k2,hk2,rfl,hx,hvb⟩:=hrel.out;clear hrel hsx s0 s1 s2 s3 s4 s5 s6 s7;have HV:=lh hvb;have HXQ:=lh hx;have HWQ:=lh ((hx.block (ltB HW.out)).trans HW.out);by_cases hlt2:k2<64
    ·obtain ⟨V,gV⟩:∃ V,V=rounds s (wordsL r 64) k2:=⟨_,rfl⟩;obtain ⟨kk,gk⟩:∃ x,x=kAt k2:=⟨_,rfl⟩;obtain ⟨ww,gw⟩:∃ x,x=(wordsL r 64).getD k2 0:=⟨_,rfl⟩;rw [<-gV] at hvb;have HVE:=lh gV.symm;have HR:=lh (show rnd V kk ww=rounds s (wordsL r 64) (k2+1) from by rw [gV,gk,gw];rfl)
     have ck:∀ v:After wr,v.v.cell? ⟨1,k2,none⟩=some (.int .u32 kk.toNat):=fun v=>by
      have h1:=HK.out k2 hlt2;rw [<-gk] at h1;have h2:=(HX.out.cell (lt_of_cell h1)).trans h1;exact After.cell ((hx.cell (lt_of_cell h2)).trans h2) v
     have cw:∀ v:After wr,v.v.cell? ⟨w.heap.size,k2,none⟩=some (.int .u32 ww.toNat):=fun v=>(After.at HWQ.out v).trans (by rw [gw];exact wArr_at r 64 k2 hlt2);clear gV gk gw;have c0:∀ v:After wr,v.v.cell? ⟨wa.heap.size,0,none⟩=some (.int .u32 V.a.toNat):=After.at hvb;have c1:∀ v:After wr,v.v.cell? ⟨wa.heap.size,1,none⟩=some (.int .u32 V.b.toNat):=After.at hvb;have c2:∀ v:After wr,v.v.cell? ⟨wa.heap.size,2,none⟩=some (.int .u32 V.c.toNat):=After.at hvb;have c3:∀ v:After wr,v.v.cell? ⟨wa.heap.size,3,none⟩=some (.int .u32 V.d.toNat):=After.at hvb;have c4:∀ v:After wr,v.v.cell? ⟨wa.heap.size,4,none⟩=some (.int .u32 V.e.toNat):=After.at hvb;have c5:∀ v:After wr,v.v.cell? ⟨wa.heap.size,5,none⟩=some (.int .u32 V.f.toNat):=After.at hvb;have c6:∀ v:After wr,v.v.cell? ⟨wa.heap.size,6,none⟩=some (.int .u32 V.g.toNat):=After.at hvb;have c7:∀ v:After wr,v.v.cell? ⟨wa.heap.size,7,none⟩=some (.int .u32 V.h.toNat):=After.at hvb;have cf:∀ (v:After wr) (k2:Nat),v.v.frozen? ⟨wa.heap.size,k2,none⟩=false:=fun v k2=>After.free hvb v;clear hvb hx;go_wp2_with fail;refine wp_region_after (by kernel_rfl) (by kernel_rfl) ?_
     repeat (go_big_quiet_step (fail))
     refine wpQuiet_nil ?_;rintro _ ⟨y,rfl⟩;go_wp2_with fail;refine wp_region_after0 y (by kernel_rfl) (by kernel_rfl) ?_
     repeat (go_big_quiet_step ((go_at_call 237;exact After.same (right_any _ _ _ rfl))))
     refine wpQuiet_nil ?_;rintro _ ⟨y2,rfl⟩;go_wp2_with fail;refine wp_region_after0 y2 (by kernel_rfl) (by kernel_rfl) ?_
     repeat (go_big_quiet_step ((go_at_call 237;exact After.same (right_any _ _ _ rfl))))
     refine wpQuiet_nil ?_;rintro _ ⟨y3,rfl⟩;rw [xr_eq,yr_eq];obtain ⟨X,gX⟩:∃ X,X=V.h+big1 V.e+chw V.e V.f V.g+kk+ww:=⟨_,rfl⟩;obtain ⟨Y,gY⟩:∃ Y,Y=big0 V.a+mjw V.a V.b V.c:=⟨_,rfl⟩;rw [<-gX,<-gY];have HQ:=lh (show (⟨X+Y,V.a,V.b,V.c,V.d+X,V.e,V.f,V.g⟩:V8)=rounds s (wordsL r 64) (k2+1) from by rw [<-HR.out,gX,gY];rfl);have HY3:=lh y3.x;have hy3:=(HY3.out.block (ltB HV.out)).trans HV.out;rw [HVE.out] at hy3;have HY3B:=lh hy3;clear gX gY y y2 hy3;go_wp2_with (first | (refine wpList_buildAs #[.int .u32 (((X.toNat:Int)+Y.toNat) % 4294967296),.int .u32 V.a.toNat,.int .u32 V.b.toNat,.int .u32 V.c.toNat,.int .u32 (((V.d.toNat:Int)+X.toNat) % 4294967296),.int .u32 V.e.toNat,.int .u32 V.f.toNat,.int .u32 V.g.toNat] rfl _ _ rfl (by kernel_rfl) ?_;go_frame) | (refine wpList_store_row rfl _ _ _ rfl wa.heap.size #[.int .u32 (((X.toNat:Int)+Y.toNat) % 4294967296),.int .u32 V.a.toNat,.int .u32 V.b.toNat,.int .u32 V.c.toNat,.int .u32 (((V.d.toNat:Int)+X.toNat) % 4294967296),.int .u32 V.e.toNat,.int .u32 V.f.toNat,.int .u32 V.g.toNat] rfl rfl 246 V.get HY3B.out (by kernel_rfl) rfl (by kernel_rfl) ?_;go_frame));go_roundw
     case rel=>exact ⟨k2+1,by omega,by go_num,(HXQ.out.trans HY3.out).setRow (Nat.le_refl _) _,by rw [setRow_heap _ _ _ _ _ _ HY3B.out,<-HQ.out,wd_add,wd_add];rfl⟩
     case measure=>simp [intOf];omega
    ·have e64:k2=64:=by omega
     have HV:=lh (e64▸HV.out);clear e64;obtain ⟨wb,rfl⟩:∃ x,x=wr:=⟨_,rfl⟩;have HXB:=lh (HX.out.trans HXQ.out);have HSB:=lh ((HXB.out.block (ltB HST.out)).trans HST.out);obtain ⟨V,gV⟩:∃ V,V=rounds s (wordsL r 64) 64:=⟨_,rfl⟩;have HVB:=lh (show wb.heap[wa.heap.size]?=some (vObj V) from by rw [gV];exact HV.out);have HFIN:=lh (show s.add V=comp s r from by rw [gV];rfl);have hne:wa.heap.size≠bs:=fun e=>by have:=ltB HST.out;have:=HX.out.size;omega
     clear gV HV hx;go_wp2_with fail;go_loopw [177] (fun i wr=>Hid (∃ k:Nat,k<=8/\i=.int .i64 k/\Touch bs wb wr/\wr.heap[bs]?=some (stObj (mixL (s.add V).list s.list k) r n))) (fun i _=>8 - (intOf i).toNat)
     case atStart=>exact ⟨0,by omega,rfl,Touch.of (Ext.refl wb),HSB.out⟩
     case round =>
      obtain ⟨k3,hk3,rfl,ht,hs3⟩:=hrel.out;clear hrel;have HT:=lh ht;have HS3:=lh hs3;have hv3:wr.heap[wa.heap.size]?=some (vObj V):=(ht.block _ (ltB HVB.out) (fun e=>hne (Option.some.inj e))).trans HVB.out;by_cases hlt3:k3<8
      ·obtain ⟨x,hx⟩:∃ x,s.list[k3]?=some x:=⟨_,List.getElem?_eq_getElem (by show k3<8;exact hlt3)⟩;obtain ⟨y,hy⟩:∃ x,V.list[k3]?=some x:=⟨_,List.getElem?_eq_getElem (by show k3<8;exact hlt3)⟩
       have hxy:(s.add V).list[k3]?=some (x+y):=by
        rw [show (s.add V).list=List.zipWith (·+·) s.list V.list from rfl,List.getElem?_zipWith,hx,hy]
       have c1:∀ v:After wr,v.v.cell? ⟨bs,k3,none⟩=some (.int .u32 x.toNat):=fun v=>(After.at hs3 v).trans (stC_word _ _ _ k3 x (by rw [mixL_at _ _ _ rfl hlt3];exact hx));have c2:∀ v:After wr,v.v.cell? ⟨wa.heap.size,k3,none⟩=some (.int .u32 y.toNat):=fun v=>(After.at hv3 v).trans (by rw [show V.get=(V.list.map wv).toArray from rfl,List.getElem?_toArray,List.getElem?_map,hy];rfl);have cf:∀ v:After wr,v.v.frozen? ⟨bs,k3,none⟩=false:=fun v=>After.free hs3 v;obtain ⟨z,gz⟩:∃ z,z=x+y:=⟨_,rfl⟩;have HA:=lh (wd_add x y);rw [<-gz] at HA hxy;have HM:=lh (mixL_set (s.add V).list s.list k3 z rfl rfl hlt3 hxy);have HL:=lh (mixL_len (s.add V).list s.list k3 rfl rfl hk3);clear gz;clear hx hy hxy hs3 hv3 ht;go_wp2_with fail;refine wp_region_after_tail 13 (by kernel_rfl) (by kernel_rfl) ?_;simp only [List.take_succ_cons,List.take_zero,List.drop_succ_cons,List.drop_zero]
       repeat (go_big_quiet_step (fail))
       refine wpQuiet_nil ?_;rintro _ ⟨y3,rfl⟩;rw [HA.out];have HY:=lh y3.x;go_wp2_with fail;go_roundw
       case rel=>exact ⟨k3+1,by omega,by go_num,(HT.out.trans (Touch.of HY.out)).setCell _,by rw [setCellB ((HY.out.block (ltB HS3.out)).trans HS3.out),<-HM.out,<-stObj_set _ _ _ _ _ (by rw [HL.out];exact hlt3)];rfl⟩
       case measure=>simp [intOf];omega
      ·have e8:k3=8:=by omega
       have HS3:=lh (e8▸HS3.out);clear e8;go_wp2_with fail;go_end0;exact ⟨rfl,by rw [HS3.out,<-HFIN.out];rfl,(Touch.of HXB.out).trans HT.out⟩
end
section
def BytesOff (b:Nat) (w:World) (v:Value) (l:List UInt8):Prop :=
 ∃ (a:Option Addr) (cap:Nat),v=.slice a l.length cap/\l.length<=cap/\cap<=maxLen/\(0<l.length->∃ g o,a=some ⟨g,o,none⟩/\g≠b/\g<w.heap.size/\∀ (j:Nat) x,l[j]?=some x->w.cell? ⟨g,o+j,none⟩=some (bv x))
theorem cellT {b g o:Nat} {w w':World} (h:Touch b w w') (hg:g≠b) (hl:g<w.heap.size):w'.cell? ⟨g,o,none⟩=w.cell? ⟨g,o,none⟩:=by
 unfold World.cell?;rw [h.block g hl fun e=>hg (Option.some.inj e)]
theorem BytesOff.touch {b:Nat} {w w':World} {v:Value} {l:List UInt8} (h:BytesOff b w v l) (k:Touch b w w'):BytesOff b w' v l:=by
 obtain ⟨a,cap,h1,h2,h3,h4⟩:=h;refine ⟨a,cap,h1,h2,h3,fun hp=>?_⟩;obtain ⟨g,o,e1,e2,e3,e4⟩:=h4 hp;exact ⟨g,o,e1,e2,Nat.lt_of_lt_of_le e3 k.size,fun j x hj=>(cellT k e2 e3).trans (e4 j x hj)⟩
theorem wpList_copyT {P:Program} {w:World} {ops:Array Oper} {rest:List Oper} {o:Oper} {a:Act} {Q:Exit->Act->World->Prop} (hgd:o.guard=none) (d s:Operand) (dT sT:TypeId)
  (ho:o.op=.call { callee:=.builtin .copy,args:=#[d,s],argTypes:=#[dT,sT] }) (elem:TypeId) (hu:P.underlying dT=some (.slice elem)) (hsz:(P.info? elem).map (·.size)=some 1)
  (g off dLen dCap:Nat) (ad:Addr) (sLen sCap:Nat) (hd:a.eval d=.slice (some ⟨g,off,none⟩) dLen dCap) (hs:a.eval s=.slice (some ad) sLen sCap)
  (cur:Array Value) (t:TypeId) (hg:w.heap[g]?=some (.cells cur t (0,0))) (cs:List Value) (hn:cs.length=Nat.min sLen dLen)
  (hsrc:∀ j v,cs[j]?=some v->w.cell? (ad.add j)=some v) (hfit:off+cs.length<=cur.size) (h1:∀ v∈cs,v.oneCell'=true)
  (X:Array Value) (hX:(cur.toList.take off++(cs++cur.toList.drop (off+cs.length))).toArray=X) (k:Nat) (hk:cs.length=k)
  (h:∀ w1,w1.heap[g]?=some (.cells X t (0,0))->Touch g w w1->wpList P ops Q rest (a.put o.dst (.int .i64 k)) w1):wpList P ops Q (o::rest) a w:=by
 refine wpList_copy_own hgd d s dT sT ho elem hu hsz g off dLen dCap ad sLen sCap hd hs cur t hg cs hn hsrc hfit h1 ?_;rw [hX,show goInt cs.length=.int .i64 k from by rw [hk];rfl];refine h _ (setRow_heap _ _ _ _ _ _ hg) ⟨rfl,rfl,rfl,by rw [setRow_size];exact Nat.le_refl _,fun i _ hne=>setRow_other _ _ _ _ fun e=>hne (by rw [e])⟩
theorem stC_n (l:List Wd) (r:List UInt8) (n:Int) (hl:l.length=8) (hr:r.length=64):(stC l r n)[72]?=some (.int .i64 n):=by
 unfold stC;rw [List.getElem?_toArray,List.getElem?_append_right (by simp [hl]),List.getElem?_append_right (by simp [hl,hr])];simp [hl,hr]
theorem stC_made (l:List Wd) (r:List UInt8) (n:Int) (hl:l.length=8) (hr:r.length=64):(stC l r n)[73]?=some (.bool true):=by
 unfold stC;rw [List.getElem?_toArray,List.getElem?_append_right (by simp [hl]),List.getElem?_append_right (by simp [hl,hr])];simp [hl,hr]
theorem stC_setn (l:List Wd) (r:List UInt8) (n k:Int) (hl:l.length=8) (hr:r.length=64):(stC l r n).setIfInBounds 72 (.int .i64 k)=stC l r k:=by
 unfold stC;rw [List.setIfInBounds_toArray,List.set_append,if_neg (by simp [hl]),List.set_append,if_neg (by simp [hl,hr])];simp [hl,hr]
theorem stC_copy (l:List Wd) (r:List UInt8) (n:Int) (at':Nat) (cs:List UInt8) (hl:l.length=8) (hr:r.length=64) (h:at'+cs.length<=64) :
  ((stC l r n).toList.take (8+at')++(cs.map bv++(stC l r n).toList.drop (8+at'+(cs.map bv).length))).toArray=stC l (r.take at'++(cs++r.drop (at'+cs.length))) n:=by
 unfold stC
 congr 1
 rw [List.take_append,List.drop_append,List.take_append,List.drop_append];simp [hl,hr,List.take_of_length_le,List.map_append,List.map_take,List.map_drop];rw [show at' - 64=0 from by omega,List.drop_eq_nil_of_le (by simp [hl];omega),show 8+at'+cs.length - 8=at'+cs.length from by omega,show at'+cs.length - 64=0 from by omega];simp
def StAt (w:World) (bs:Nat) (m:List UInt8):Prop:=∃ r:List UInt8,r.length=64/\r.take (m.length % 64)=m.drop (64*(m.length / 64))/\w.heap[bs]?=some (stObj (digN m (m.length / 64)).list r m.length)
theorem StAt.ext {b:Nat} {w w':World} {m:List UInt8} (h:StAt w b m) (k:Ext w w'):StAt w' b m:=let ⟨r,h1,h2,h3⟩:=h;⟨r,h1,h2,(k.block (ltB h3)).trans h3⟩
theorem is_any (w:World) (bs:Nat) (m:List UInt8) (h:StAt w bs m):Calls prog 201 #[.pointer (some ⟨bs,0,none⟩)] w fun e w'=>e=.returned (.bool true)/\w'=w:=by
 obtain ⟨r,hr,_,hb⟩:=h;have c:=(cellB (k:=73) hb).trans (stC_made _ _ _ rfl hr);go_enter func201,ntmps201;go_wp2_with fail;go_ret;exact ⟨rfl,rfl⟩
end
section
def lenV:Value->Nat
 | .slice _ n _=>n
 | _=>0
theorem st_part (m cs r:List UInt8) (hr:r.length=64) (hp:r.take (m.length % 64)=m.drop (64*(m.length / 64))) (h:m.length % 64+cs.length<=64) :
  (r.take (m.length % 64)++(cs++r.drop (m.length % 64+cs.length))).length=64/\(r.take (m.length % 64)++(cs++r.drop (m.length % 64+cs.length))).take (m.length % 64+cs.length)=(m++cs).drop (64*(m.length / 64)):=by
 have hl:(r.take (m.length % 64)).length=m.length % 64:=by simp [hr];omega
 constructor
 ·simp only [List.length_append,hl,List.length_drop,hr];omega
 ·rw [List.take_append,hl,List.take_of_length_le (by rw [hl];omega),show m.length % 64+cs.length - m.length % 64=cs.length from by omega,List.take_left',List.drop_append_of_le_length (by omega),hp];rfl
theorem st_less {m cs:List UInt8} (h:m.length % 64+cs.length<64):(m++cs).length / 64=m.length / 64/\(m++cs).length % 64=m.length % 64+cs.length:=by
 rw [List.length_append];omega
theorem st_full {m cs r:List UInt8} (hr:r.length=64) (hp:r.take (m.length % 64)=m.drop (64*(m.length / 64))) (h:m.length % 64+cs.length=64) :
  (m++cs).length / 64=m.length / 64+1/\(m++cs).length % 64=0/\digN (m++cs) ((m++cs).length / 64)=comp (digN m (m.length / 64)) (r.take (m.length % 64)++(cs++r.drop (m.length % 64+cs.length))):=by
 have e1:(m++cs).length / 64=m.length / 64+1:=by rw [List.length_append];omega
 refine ⟨e1,by rw [List.length_append];omega,?_⟩;obtain ⟨h1,h2⟩:=st_part m cs r hr hp (by omega);rw [e1]
 show comp (digN (m++cs) (m.length / 64)) _=_
 rw [digN_app m cs _ (by omega)]
 congr 1
 rw [h] at h1 h2 ⊢;rw [<-h2,List.take_take,show min 64 64=64 from rfl,List.take_of_length_le (by omega)]
theorem min_facts {L a k:Nat} (h:Nat.min L (64 - a)=k) (h0:0<L) (ha:a<64):0<k/\k<=L/\a+k<=64/\(a+k=64\/k=L):=by
 have:Nat.min L (64 - a)=min L (64 - a):=rfl;omega
theorem bytesOff_drop {b g o L cap k:Nat} {w:World} {rem:List UInt8} (h:BytesOff b w (.slice (some ⟨g,o,none⟩) L cap) rem) (hL:rem.length=L) (hk:k<=L):BytesOff b w (.slice (some ⟨g,o+k,none⟩) (L - k) (cap - k)) (rem.drop k):=by
 obtain ⟨a,cap',e,h1,h2,h3⟩:=h;injection e with e1 e2 e3
 subst e1 e3;refine ⟨_,cap - k,by rw [List.length_drop,hL],by rw [List.length_drop];omega,by omega,fun hp=>?_⟩;rw [List.length_drop] at hp;obtain ⟨g',o',e,h4,h5,h6⟩:=h3 (by omega);injection e with e
 injection e with e1 e2
 subst e1 e2;exact ⟨g,o+k,rfl,h4,h5,fun j x hj=>by rw [List.getElem?_drop] at hj;rw [Nat.add_assoc];exact h6 _ _ hj⟩
theorem bytesOff_none {b k L:Nat} {a:Option Addr} {cap:Nat} {w:World} {rem:List UInt8} (hL:rem.length=L) (hk:L<=k) (hc:cap<=maxLen):BytesOff b w (.slice a 0 cap) (rem.drop k):=by
 have h0:(rem.drop k).length=0:=by rw [List.length_drop];omega
 refine ⟨a,cap,by rw [h0],by rw [h0];omega,hc,fun hp=>by omega⟩
theorem slice_rest (bs k:Nat) (w:World) (h:k<64):(Instr.sliceAt 247 (.pointer (some ⟨bs,8,none⟩)) (some (.int .i64 k)) none none).run prog w=.ok (.slice (some ⟨bs,8+k,none⟩) (64 - k) (64 - k)) w:=by
 have hl:prog.arrayLen 247=64:=by kernel_rfl
 have hs:(sizeOf (prog.elem 247)).run prog w=.ok 1 w:=by kernel_rfl
 rw [run_sliceAt_array_l w 247 ⟨bs,8,none⟩ (by kernel_rfl) .i64 k (by omega) (by rw [hl];omega),hs,hl];simp [slicedAt,Result.andThen,Addr.add,show ¬ (64=k) from by omega]
theorem slice_whole (bs:Nat) (w:World):(Instr.sliceAt 247 (.pointer (some ⟨bs,8,none⟩)) none none none).run prog w=.ok (.slice (some ⟨bs,8,none⟩) 64 64) w:=by
 have hl:prog.arrayLen 247=64:=by kernel_rfl
 have hs:(sizeOf (prog.elem 247)).run prog w=.ok 1 w:=by kernel_rfl
 rw [run_sliceAt_array_all w 247 ⟨bs,8,none⟩ (by kernel_rfl),hs,hl];simp [slicedAt,Result.andThen,Addr.add]
set_option maxHeartbeats 4000000 in
set_option maxRecDepth 100000 in
theorem write_any (m b:List UInt8) (bs:Nat) (v:Value) (w:World) (hst:StAt w bs m) (hv:BytesOff bs w v b) (hk:∀ k,k<64->w.cell? ⟨1,k,none⟩=some (.int .u32 (kAt k).toNat)) (hg:1≠bs) (hm:m.length+b.length<=1099511627776) :
  Calls prog 151 #[.pointer (some ⟨bs,0,none⟩),v] w fun e w'=>e=.returned (.int .i64 0)/\StAt w' bs (m++b)/\Touch bs w w':=by
 have HIS:=lh (is_any w bs m hst);have HST:=lh hst;have HV:=lh hv;have HK:=lh hk;clear hst hv hk;go_enter func151,ntmps151;go_wp2_with fail;refine HIS.out.mono ?_;rintro e w1 ⟨rfl,hw1⟩;obtain rfl:=hw1.symm;clear hw1;go_wp2_with fail;go_loopw [1] (fun v wr=>Hid (∃ done rem:List UInt8,b=done++rem/\BytesOff bs wr v rem/\StAt wr bs (m++done)/\Touch bs w wr)) (fun v _=>lenV v)
 case atStart=>exact ⟨[],b,rfl,HV.out,by rw [List.append_nil];exact HST.out,Touch.of (Ext.refl w)⟩
 case round =>
  obtain ⟨done,rem,hb,hv,hs,ht⟩:=hrel.out;clear hrel HIS HV HST;have HV:=lh hv;obtain ⟨a,cap,rfl,h1,h2,h3⟩:=hv;unfold maxLen at h2;have HB:=lh hb;have HS:=lh hs;have HT:=lh ht;have hlen:b.length=done.length+rem.length:=by rw [hb,List.length_append]
  by_cases h0:rem.length=0
  ·have HF:=lh (show StAt wr bs (m++b) from by rw [hb,List.length_eq_zero_iff.1 h0,List.append_nil];exact hs);clear hb hs ht h3;go_wp2_with fail;go_ret;exact ⟨rfl,HF.out,HT.out⟩
  ·obtain ⟨g,o,rfl,h4,h5,h6⟩:=h3 (Nat.pos_of_ne_zero h0);clear h3;obtain ⟨r,hr,hp,hbs⟩:=hs;obtain ⟨m',hm'⟩:∃ m',m'=m++done:=⟨_,rfl⟩;have hml:m'.length=m.length+done.length:=by rw [hm',List.length_append]
   rw [<-hm'] at hp hbs;obtain ⟨n,hn⟩:∃ n,n=m'.length:=⟨_,rfl⟩;obtain ⟨at',hat⟩:∃ x,x=n % 64:=⟨_,rfl⟩;have hat64:at'<64:=by omega
   generalize hL:rem.length=L at *;obtain ⟨k,hk⟩:∃ k,Nat.min L (64 - at')=k:=⟨_,rfl⟩;obtain ⟨hk0,hkL,hkat,hor⟩:=min_facts hk (by omega) hat64;obtain ⟨cs,hcs⟩:∃ cs,cs=rem.take k:=⟨_,rfl⟩;have hcl:cs.length=k:=by rw [hcs,List.length_take];omega
   have hbs2:wr.heap[bs]?=some (.cells (stC (digN m' (n / 64)).list r n) 249 (0,0)):=by rw [hn];exact hbs
   have c72:wr.cell? ⟨bs,72,none⟩=some (.int .i64 n):=(cellB hbs2).trans (stC_n _ _ _ rfl hr);have hmod:(n:Int) % 64=at':=by omega
   have hsrc:∀ j u,(cs.map bv)[j]?=some u->wr.cell? ((⟨g,o,none⟩:Addr).add j)=some u:=fun j u hj=>by
    rw [List.getElem?_map,Option.map_eq_some_iff] at hj;obtain ⟨x,hx,rfl⟩:=hj;rw [hcs] at hx;rw [show (⟨g,o,none⟩:Addr).add j=⟨g,o+j,none⟩ from by simp [Addr.add]];exact h6 j x (by rw [List.getElem?_take] at hx;split at hx <;> simp_all)
   have hone:∀ u∈cs.map bv,u.oneCell'=true:=fun u hu=>by obtain ⟨x,_,rfl⟩:=List.mem_map.1 hu;rfl
   have hX:=stC_copy (digN m' (n / 64)).list r n at' cs rfl hr (by rw [hcl];exact hkat);obtain ⟨r',hr'⟩:∃ r',r'=r.take at'++(cs++r.drop (at'+cs.length)):=⟨_,rfl⟩;rw [<-hr'] at hX;have hsz:8+at'+(cs.map bv).length<=(stC (digN m' (n / 64)).list r n).size:=by rw [List.length_map,hcl];unfold stC;simp [hr,V8.list];omega
   have H1:=lh hsrc;have H2:=lh hone;have H3:=lh hX;have H4:=lh hsz;have H5:=lh hbs2;have H6:=lh (show (cs.map bv).length=k from by rw [List.length_map,hcl]);have H7:=lh hk;have hpart:=st_part m' cs r hr hp (by rw [hcl,<-hn,<-hat];exact hkat);rw [<-hn,<-hat,<-hr'] at hpart;have HR':=lh hpart.1;have esl:=fun w=>slice_rest bs at' w hat64;have ewh:=slice_whole bs;have hcap:k<cap\/(k=cap/\k=L):=by omega
   have HR:=lh hr;have HN:=lh hn;have HL:=lh hL;have HAT:=lh hat;have HM:=lh hm';have HML:=lh hml;have HCL:=lh hcl;have HRR:=lh hr';have HCS:=lh hcs;have HP:=lh hp;have HPART:=lh hpart;have hn40:n<=1099511627776:=by omega
   clear hsrc hone hX hsz hbs2 hk h6 hcs hbs hb ht hn hL hat hm' hml hcl hr' hp hpart hlen hr;by_cases hf:at'+k=64
   ·rcases hcap with hcap | ⟨hcap,hkl⟩
    ·go_wp2_with (refine wpList_copyT rfl (.tmp 22) (.tmp 23) 22 22 rfl 5 (by kernel_rfl) (by kernel_rfl) bs (8+at') (64 - at') (64 - at') ⟨g,o,none⟩ L cap rfl rfl _ _ H5.out (cs.map bv) (by rw [H6.out];exact H7.out.symm) H1.out H4.out H2.out _ H3.out k H6.out ?_;intro w1 hb1 ht1;have c73:w1.cell? ⟨bs,72,none⟩=some (.int .i64 n):=(cellB hb1).trans (stC_n _ _ _ rfl HR'.out);have f73:w1.frozen? ⟨bs,72,none⟩=false:=frozenB hb1;have HB1:=lh hb1;have HT1:=lh ht1;clear hb1 ht1 c72;go_frame);have hb2:(w1.setCell ⟨bs,72,none⟩ (.int .i64 (n+k))).heap[bs]?=some (stObj (digN m' (n / 64)).list r' (n+k)):=by rw [setCellB HB1.out,stC_setn _ _ _ _ rfl HR'.out];rfl
     have hT2:Touch bs wr (w1.setCell ⟨bs,72,none⟩ (.int .i64 (n+k))):=HT1.out.setCell _;refine (block_any _ r' _ bs _ HR'.out hb2 (fun k hk=>(cellT (HT.out.trans hT2) hg (lt_of_cell (HK.out k hk))).trans (HK.out k hk))).mono ?_;rintro e w2 ⟨rfl,hb3,ht3⟩;have HT3:=lh (hT2.trans ht3)
     have HF:=lh (show StAt w2 bs (m++(done++cs)) from by
      rw [<-List.append_assoc,<-HM.out];obtain ⟨q1,q2,q3⟩:=st_full (m:=m') (cs:=cs) HR.out HP.out (by rw [<-HN.out,<-HAT.out,HCL.out];exact hf);refine ⟨r',HR'.out,by rw [q2,q1,List.drop_eq_nil_of_le (by rw [List.length_append] at *;omega)];rfl,?_⟩
      rw [hb3,q3,<-HN.out,<-HAT.out,<-HRR.out,List.length_append,HCL.out,<-HN.out];rfl)
     clear hb2 hT2 hb3 ht3;go_wp2_with fail;go_roundw
     case rel=>exact ⟨done++cs,rem.drop k,by rw [HB.out,HCS.out,List.append_assoc,List.take_append_drop],(bytesOff_drop (HV.out.touch HT3.out) HL.out hkL),HF.out,HT.out.trans HT3.out⟩
     case measure=>simp [lenV];omega
    ·subst hcap;subst hkl;go_wp2_with (refine wpList_copyT rfl (.tmp 22) (.tmp 23) 22 22 rfl 5 (by kernel_rfl) (by kernel_rfl) bs (8+at') (64 - at') (64 - at') ⟨g,o,none⟩ k k rfl rfl _ _ H5.out (cs.map bv) (by rw [H6.out];exact H7.out.symm) H1.out H4.out H2.out _ H3.out k H6.out ?_;intro w1 hb1 ht1;have c73:w1.cell? ⟨bs,72,none⟩=some (.int .i64 n):=(cellB hb1).trans (stC_n _ _ _ rfl HR'.out);have f73:w1.frozen? ⟨bs,72,none⟩=false:=frozenB hb1;have HB1:=lh hb1;have HT1:=lh ht1;clear hb1 ht1 c72;go_frame);have hb2:(w1.setCell ⟨bs,72,none⟩ (.int .i64 (n+k))).heap[bs]?=some (stObj (digN m' (n / 64)).list r' (n+k)):=by rw [setCellB HB1.out,stC_setn _ _ _ _ rfl HR'.out];rfl
     have hT2:Touch bs wr (w1.setCell ⟨bs,72,none⟩ (.int .i64 (n+k))):=HT1.out.setCell _;refine (block_any _ r' _ bs _ HR'.out hb2 (fun k hk=>(cellT (HT.out.trans hT2) hg (lt_of_cell (HK.out k hk))).trans (HK.out k hk))).mono ?_;rintro e w2 ⟨rfl,hb3,ht3⟩;have HT3:=lh (hT2.trans ht3)
     have HF:=lh (show StAt w2 bs (m++(done++cs)) from by
      rw [<-List.append_assoc,<-HM.out];obtain ⟨q1,q2,q3⟩:=st_full (m:=m') (cs:=cs) HR.out HP.out (by rw [<-HN.out,<-HAT.out,HCL.out];exact hf);refine ⟨r',HR'.out,by rw [q2,q1,List.drop_eq_nil_of_le (by rw [List.length_append] at *;omega)];rfl,?_⟩
      rw [hb3,q3,<-HN.out,<-HAT.out,<-HRR.out,List.length_append,HCL.out,<-HN.out];rfl)
     clear hb2 hT2 hb3 ht3;go_wp2_with fail;go_roundw
     case rel=>exact ⟨done++cs,rem.drop k,by rw [HB.out,HCS.out,List.append_assoc,List.take_append_drop],(bytesOff_none HL.out (Nat.le_refl _) (by unfold maxLen;omega)),HF.out,HT.out.trans HT3.out⟩
     case measure=>simp [lenV];omega
   ·have hkl:k=L:=by omega
    subst hkl;rcases hcap with hcap | ⟨hcap,_⟩
    ·go_wp2_with (refine wpList_copyT rfl (.tmp 22) (.tmp 23) 22 22 rfl 5 (by kernel_rfl) (by kernel_rfl) bs (8+at') (64 - at') (64 - at') ⟨g,o,none⟩ k cap rfl rfl _ _ H5.out (cs.map bv) (by rw [H6.out];exact H7.out.symm) H1.out H4.out H2.out _ H3.out k H6.out ?_;intro w1 hb1 ht1;have c73:w1.cell? ⟨bs,72,none⟩=some (.int .i64 n):=(cellB hb1).trans (stC_n _ _ _ rfl HR'.out);have f73:w1.frozen? ⟨bs,72,none⟩=false:=frozenB hb1;have HB1:=lh hb1;have HT1:=lh ht1;clear hb1 ht1 c72;go_frame);have hb2:(w1.setCell ⟨bs,72,none⟩ (.int .i64 (n+k))).heap[bs]?=some (stObj (digN m' (n / 64)).list r' (n+k)):=by rw [setCellB HB1.out,stC_setn _ _ _ _ rfl HR'.out];rfl
     have hT2:Touch bs wr (w1.setCell ⟨bs,72,none⟩ (.int .i64 (n+k))):=HT1.out.setCell _;have HT3:=lh hT2
     have HF:=lh (show StAt (w1.setCell ⟨bs,72,none⟩ (.int .i64 (n+k))) bs (m++(done++cs)) from by
      rw [<-List.append_assoc,<-HM.out];obtain ⟨q1,q2⟩:=st_less (m:=m') (cs:=cs) (by rw [<-HN.out,<-HAT.out,HCL.out];omega);refine ⟨r',HR'.out,?_,?_⟩
      ·rw [q2,q1,<-HN.out,<-HAT.out,HCL.out];have:=HPART.out.2
       rwa [HCL.out] at this
      ·rw [hb2,q1,digN_app _ _ _ (by omega),<-HN.out,List.length_append,HCL.out,<-HN.out];rfl)
     clear hb2 hT2;go_roundw
     case rel=>exact ⟨done++cs,rem.drop k,by rw [HB.out,HCS.out,List.append_assoc,List.take_append_drop],(bytesOff_none HL.out (Nat.le_refl _) (by unfold maxLen;omega)),HF.out,HT.out.trans HT3.out⟩
     case measure=>simp [lenV];omega
    ·subst hcap;go_wp2_with (refine wpList_copyT rfl (.tmp 22) (.tmp 23) 22 22 rfl 5 (by kernel_rfl) (by kernel_rfl) bs (8+at') (64 - at') (64 - at') ⟨g,o,none⟩ k k rfl rfl _ _ H5.out (cs.map bv) (by rw [H6.out];exact H7.out.symm) H1.out H4.out H2.out _ H3.out k H6.out ?_;intro w1 hb1 ht1;have c73:w1.cell? ⟨bs,72,none⟩=some (.int .i64 n):=(cellB hb1).trans (stC_n _ _ _ rfl HR'.out);have f73:w1.frozen? ⟨bs,72,none⟩=false:=frozenB hb1;have HB1:=lh hb1;have HT1:=lh ht1;clear hb1 ht1 c72;go_frame);have hb2:(w1.setCell ⟨bs,72,none⟩ (.int .i64 (n+k))).heap[bs]?=some (stObj (digN m' (n / 64)).list r' (n+k)):=by rw [setCellB HB1.out,stC_setn _ _ _ _ rfl HR'.out];rfl
     have hT2:Touch bs wr (w1.setCell ⟨bs,72,none⟩ (.int .i64 (n+k))):=HT1.out.setCell _;have HT3:=lh hT2
     have HF:=lh (show StAt (w1.setCell ⟨bs,72,none⟩ (.int .i64 (n+k))) bs (m++(done++cs)) from by
      rw [<-List.append_assoc,<-HM.out];obtain ⟨q1,q2⟩:=st_less (m:=m') (cs:=cs) (by rw [<-HN.out,<-HAT.out,HCL.out];omega);refine ⟨r',HR'.out,?_,?_⟩
      ·rw [q2,q1,<-HN.out,<-HAT.out,HCL.out];have:=HPART.out.2
       rwa [HCL.out] at this
      ·rw [hb2,q1,digN_app _ _ _ (by omega),<-HN.out,List.length_append,HCL.out,<-HN.out];rfl)
     clear hb2 hT2;go_roundw
     case rel=>exact ⟨done++cs,rem.drop k,by rw [HB.out,HCS.out,List.append_assoc,List.take_append_drop],(bytesOff_none HL.out (Nat.le_refl _) (by unfold maxLen;omega)),HF.out,HT.out.trans HT3.out⟩
     case measure=>simp [lenV];omega
end
section
structure ShaTabs (w:World):Prop where
 roots:∀ k,k<64->w.cell? ⟨1,k,none⟩=some (.int .u32 (kAt k).toNat)
 first:∀ (k:Nat) x,first8.list[k]?=some x->w.cell? ⟨0,k,none⟩=some (wv x)
theorem ShaTabs.ext {w w':World} (h:ShaTabs w) (k:Ext w w'):ShaTabs w' :=
 ⟨fun j hj=>(k.cell (lt_of_cell (h.roots j hj))).trans (h.roots j hj),fun j x hj=>(k.cell (lt_of_cell (h.first j x hj))).trans (h.first j x hj)⟩
theorem ShaTabs.lt {w:World} (h:ShaTabs w):1<w.heap.size/\0<w.heap.size:=⟨lt_of_cell (h.roots 0 (by decide)),lt_of_cell (h.first 0 _ rfl)⟩
theorem new_any (w:World) (T:ShaTabs w):Calls prog 150 #[] w fun e w'=>e=.returned (.pointer (some ⟨w.heap.size,0,none⟩))/\StAt w' w.heap.size []/\Ext w w':=by
 have HT:=lh T;have s0:w.cell? ⟨0,0,none⟩=some (.int .u32 first8.a.toNat):=T.first 0 _ rfl;have s1:w.cell? ⟨0,1,none⟩=some (.int .u32 first8.b.toNat):=T.first 1 _ rfl;have s2:w.cell? ⟨0,2,none⟩=some (.int .u32 first8.c.toNat):=T.first 2 _ rfl;have s3:w.cell? ⟨0,3,none⟩=some (.int .u32 first8.d.toNat):=T.first 3 _ rfl;have s4:w.cell? ⟨0,4,none⟩=some (.int .u32 first8.e.toNat):=T.first 4 _ rfl;have s5:w.cell? ⟨0,5,none⟩=some (.int .u32 first8.f.toNat):=T.first 5 _ rfl;have s6:w.cell? ⟨0,6,none⟩=some (.int .u32 first8.g.toNat):=T.first 6 _ rfl;have s7:w.cell? ⟨0,7,none⟩=some (.int .u32 first8.h.toNat):=T.first 7 _ rfl;have HFIN:=lh (show StAt (w.alloc (stObj first8.list (List.replicate 64 0) 0)) w.heap.size [] from ⟨List.replicate 64 0,rfl,rfl,heap_alloc_new _ _⟩);have HC:=lh (show stC first8.list (List.replicate 64 0) 0=stC [first8.a,first8.b,first8.c,first8.d,first8.e,first8.f,first8.g,first8.h] (List.replicate 64 0) 0 from rfl);rw [show stObj first8.list (List.replicate 64 0) 0=.cells (stC [first8.a,first8.b,first8.c,first8.d,first8.e,first8.f,first8.g,first8.h] (List.replicate 64 0) 0) 249 (0,0) from rfl] at HFIN;clear T HC;generalize first8.a=a at *;generalize first8.b=b at *;generalize first8.c=c at *;generalize first8.d=d at *;generalize first8.e=e at *;generalize first8.f=f at *;generalize first8.g=g at *;generalize first8.h=h at *;obtain ⟨C,hC⟩:∃ C,C=stC [a,b,c,d,e,f,g,h] (List.replicate 64 0) 0:=⟨_,rfl⟩;have HCC:=lh hC;rw [<-hC] at HFIN;clear hC;go_enter func150,ntmps150;go_wp2_with (refine wpList_buildAs C rfl _ _ rfl (by rw [HCC.out];kernel_rfl) ?_;go_frame);go_ret;exact ⟨rfl,HFIN.out,(Ext.refl w).alloc _⟩
theorem zeroCells_one (u:Value) (n:Nat):(Builtin.zeroCells #[u] n).toList=List.replicate n u:=by
 apply List.ext_getElem
 ·simp [Builtin.zeroCells]
 ·intro i h1 h2;simp [Builtin.zeroCells,Nat.mod_one]
theorem append_zeros_one (w:World) (g z base:Nat) (x:Value) (ty:TypeId) (hb:w.heap[g]?=some (.cells #[x] 5 (0,0))) (hz:z<=1000) (hbase:base<=g) :
  ∃ v' w',(Builtin.append_ #[22,3] ty #[.slice (some ⟨g,0,none⟩) 1 1,.int .i64 z]).run prog w=.ok v' w'/\w'.ownsRow base 5 1 v' (1+z) (x::List.replicate z (.int .u8 0))/\w.grownBy w' none:=by
 have ht:prog.underlying 22=some (.slice 5):=by kernel_rfl
 have htn:prog.underlying 3=some (.int .i64):=by kernel_rfl
 obtain ⟨i,hi,hz0,hz1,hz2⟩:=info_parts (show (prog.info? 5).map (fun i=>(i.zero,i.size,i.bytes))=some (some (.int .u8 0),1,1) from by kernel_rfl);by_cases h0:z=0
 ·subst h0;refine ⟨_,w,?_,⟨rfl,.inr ⟨g,1,#[x],rfl,hbase,hb,by omega,by decide,rfl,rfl⟩⟩,⟨rfl,rfl,rfl,Nat.le_refl _,fun _ _ _=>rfl⟩⟩;simp [Builtin.append_,run_underlying ht,run_underlying htn,sizeOf,typeInfo,hi,hz1,hz2,asInt,asIntOf,IntKind.wrap_i64];rfl
 ·have hold:(Builtin.firstCells i.size 1 (.slice (some ⟨g,0,none⟩) 1 1)).run prog w.drew=.ok [x].toArray w.drew:=by
   have:=run_loadCells_list (P:=prog) w.drew ⟨g,0,none⟩ [x] (fun j v hv=>by
    match j,hv with
    | 0,hv=>simp at hv;subst hv;exact cellB (w:=w.drew) (k:=0) hb)
   rw [hz1];exact this
  refine ⟨_,_,Lib.run_append_grow_zeros w 22 3 ty 5 i (.int .u8 0) .i64 .i64 ht htn hi hz0 (some ⟨g,0,none⟩) 1 1 [x] hold z (by omega) (by omega) (by omega) (by omega) (by rw [hz2];omega) ?_,⟨by simp;omega,.inr ⟨w.heap.size,_,_,rfl,Nat.le_of_lt (Nat.lt_of_le_of_lt hbase (ltB hb)),heap_alloc_new w.drew _,grownCap_ge _ _ _ _,grownCap_le_maxLen _ _ _ _ (by unfold maxLen;omega),?_,?_⟩⟩,⟨rfl,rfl,rfl,by simp,fun k hk h=>(World.grownBy_alloc w.drew _ none).block k hk h⟩⟩
  ·rw [hz2];have:Builtin.nextslicecap (1+z) 1<=1001:=by unfold Builtin.nextslicecap;split <;> (try split) <;> omega
   omega
  ·have:=grownCap_ge w (1+z) 1 5;simp [<-Array.length_toList,zeroCells_one,Value.cells];omega
  ·rw [Array.toList_append,Array.toList_append,show (Value.int .u8 0).cells=#[.int .u8 0] from rfl,zeroCells_one,zeroCells_one,List.take_append_of_le_length (by simp;omega),List.take_of_length_le (by simp;omega)];rfl
theorem bytesOff_owns {b base n:Nat} {w:World} {v:Value} {l:List UInt8} (h:w.ownsRow base 5 1 v n (l.map bv)) (hb:b<base):BytesOff b w v l:=by
 have hn:l.length=n:=by have:=h.1;simpa using this
 subst hn;rcases h.2 with ⟨h1,h2⟩ | ⟨g,cap,cur,hv,hbg,hh,hc,hm,hs,ht⟩
 ·exact ⟨none,0,by rw [h1,h2],by omega,by decide,fun hp=>by omega⟩
 ·refine ⟨_,cap,hv,hc,hm,fun _=>⟨g,0,rfl,by omega,ltB hh,fun j x hj=>?_⟩⟩;have hj':j<l.length:=(List.getElem?_eq_some_iff.1 hj).1;rw [Nat.zero_add,cellB hh,<-Array.getElem?_toList];have:(cur.toList.take (l.length*1))[j]?=some (bv x):=by rw [ht,List.getElem?_map,hj];rfl
  rw [List.getElem?_take] at this;split at this
  ·exact this
  ·cases this
end
section
theorem elU8:Elem prog 22 5 (.int .u8 0) 1:=⟨by kernel_rfl,by kernel_rfl,rfl,by decide⟩
def hArr (l:List UInt8) (k:Nat):Array Value:=((l.take k).map bv++List.replicate (32 - k) (Value.int .u8 0)).toArray
def hObj (l:List UInt8) (k:Nat):Obj:=.cells (hArr l k) 45 (0,0)
theorem stC_one (l:List Wd) (r:List UInt8) (n:Int):(stC l r n).all (·.oneCell')=true:=by
 rw [Array.all_eq_true_iff_forall_mem];intro v hv;unfold stC at hv;simp only [List.mem_toArray,List.mem_append,List.mem_map,List.mem_cons,List.not_mem_nil,or_false] at hv;rcases hv with ⟨x,_,rfl⟩ | ⟨x,_,rfl⟩ | rfl | rfl <;> rfl
theorem wpList_storeT {P:Program} {ops:Array Oper} {rest:List Oper} {o:Oper} {a:Act} {w:World} {Q:Exit->Act->World->Prop} (hgd:o.guard=none) (ty:TypeId) (x y:Operand) (ho:o.op=.store ty x y)
  (g:Nat) (cells:Array Value) (hx:a.eval x=.pointer (some ⟨g,0,none⟩)) (hy:a.eval y=.agg cells)
  (t:TypeId) (old:Array Value) (hg:w.heap[g]?=some (.cells old t (0,0))) (hi:(P.info? ty).map (·.size)=some cells.size)
  (hold:old.size=cells.size) (h1:cells.all (·.oneCell')=true)
  (h:∀ w1,w1.heap[g]?=some (.cells cells t (0,0))->Touch g w w1->wpList P ops Q rest (a.put o.dst undef) w1):wpList P ops Q (o::rest) a w :=
 wpList_store_row hgd ty x y ho g cells hx hy t old hg hi hold h1 (h _ (setRow_heap _ _ _ _ _ _ hg) ⟨rfl,rfl,rfl,by rw [setRow_size];exact Nat.le_refl _,fun i _ hne=>setRow_other _ _ _ _ fun e=>hne (by rw [e])⟩)
theorem Touch.fresh {b:Nat} {u v w:World} (h:Touch b v w) (x:Ext u v) (hb:u.heap.size<=b):Ext u w :=
 Below.trans x ⟨h.os,h.tape,h.output,h.size,fun i hi=>h.block i (Nat.lt_of_lt_of_le hi x.size) fun e=>by have:=Option.some.inj e;omega⟩
theorem be8_at (n k:Nat) (h:k<8):(be8 n)[k]?=some (byteOf (n / 2 ^ (56 - 8*k))):=by
 have:k=0\/k=1\/k=2\/k=3\/k=4\/k=5\/k=6\/k=7:=by omega
 rcases this with rfl | rfl | rfl | rfl | rfl | rfl | rfl | rfl <;> first | rfl | simp [be8]
theorem padL_step (n k:Nat) (h:k<8):(128::List.replicate (zerosOf n) 0++(be8 (8*n)).take (k+1):List UInt8)=(128::List.replicate (zerosOf n) 0++(be8 (8*n)).take k)++[byteOf (8*n / 2 ^ (56 - 8*k))]:=by
 rw [List.take_add_one,be8_at _ _ h,List.append_assoc];rfl
theorem ext_own {w0 w w1:World} {base k:Nat} {e:TypeId} {v:Value} {n:Nat} {xs:List Value} (x:Ext w0 w) (hb:w0.heap.size<=base) (ho:w.ownsRow base e k v n xs) (hg:w.grownBy w1 v.ownBlock):Ext w0 w1 :=
 Below.trans x ⟨hg.os,hg.tape,hg.output,hg.size,fun i hi=>hg.block i (Nat.lt_of_lt_of_le hi x.size) fun e=>by have:=(ho.lt _ e.symm).1;omega⟩
theorem own_cast {w:World} {base n:Nat} {e:TypeId} {v:Value} {xs:List Value} {a b:Int} (h:w.ownsRow base e 1 v n (xs++[.int .u8 a])) (hab:b=a):w.ownsRow base e 1 v n (xs++[.int .u8 b]):=hab▸h
theorem ext_none {w w1:World} (hg:w.grownBy w1 none):Ext w w1:=⟨hg.os,hg.tape,hg.output,hg.size,fun i hi=>hg.block i hi (by simp)⟩
theorem hArr_size (l:List UInt8) (k:Nat) (hl:l.length=32) (h:k<=32):(hArr l k).size=32:=by simp [hArr,hl];omega
theorem hArr_at (l:List UInt8) (k j:Nat) (hl:l.length=32) (h:k<=32) (hj:j<32):∃ u,(hArr l k)[j]?=some u:=⟨_,Array.getElem?_eq_getElem (by rw [hArr_size l k hl h];exact hj)⟩
theorem hArr_set (l:List UInt8) (j:Nat) (b:UInt8) (val:Int) (hb:l[j]?=some b) (hl:l.length=32) (hv:val=b.toNat):(hArr l j).setIfInBounds j (.int .u8 val)=hArr l (j+1):=by
 have hj:j<32:=hl▸(List.getElem?_eq_some_iff.1 hb).1;subst hv;unfold hArr;rw [List.setIfInBounds_toArray,List.set_append,if_neg (by simp [hl];omega),List.take_add_one,hb];simp only [List.length_map,List.length_take,hl,show min j 32=j from by omega,Nat.sub_self];rw [show 32 - j=(32 - (j+1))+1 from by omega,List.replicate_succ];simp [bv]
theorem hObj_set (l:List UInt8) (j:Nat) (b:UInt8) (val:Int) (hb:l[j]?=some b) (hl:l.length=32) (hv:val=b.toNat):Obj.cells ((hArr l j).setIfInBounds j (.int .u8 val)) 45 (0,0)=hObj l (j+1):=by rw [hArr_set l j b val hb hl hv];rfl
theorem hArr_one (l:List UInt8) (k:Nat):(hArr l k).all (·.oneCell')=true:=by
 rw [Array.all_eq_true_iff_forall_mem];intro v hv;unfold hArr at hv;simp only [List.mem_toArray,List.mem_append,List.mem_map,List.mem_replicate] at hv;rcases hv with ⟨x,_,rfl⟩ | ⟨_,rfl⟩ <;> rfl
theorem sha_word (v:V8) (i k:Nat) (x:Wd) (h:v.list[i]?=some x) (hk:k<4):((v.list.map outB).flatten)[4*i+k]?=some (byteOf (x.toNat / 2 ^ (24 - 8*k))):=by
 have hi:i<8:=(List.getElem?_eq_some_iff.1 h).1;have h1:i=0\/i=1\/i=2\/i=3\/i=4\/i=5\/i=6\/i=7:=by omega
 have h2:k=0\/k=1\/k=2\/k=3:=by omega
 rcases h1 with rfl | rfl | rfl | rfl | rfl | rfl | rfl | rfl <;> (injection h with h;subst h;rcases h2 with rfl | rfl | rfl | rfl <;> simp [V8.list,outB])
theorem index_w0 (V:V8) (w:World):(Instr.index 246 (.agg #[.int .u32 V.a.toNat,.int .u32 V.b.toNat,.int .u32 V.c.toNat,.int .u32 V.d.toNat,.int .u32 V.e.toNat,.int .u32 V.f.toNat,.int .u32 V.g.toNat,.int .u32 V.h.toNat]) (.int .i64 ((0:Nat):Int))).run prog w=.ok (.int .u32 V.a.toNat) w:=by kernel_rfl
theorem index_w1 (V:V8) (w:World):(Instr.index 246 (.agg #[.int .u32 V.a.toNat,.int .u32 V.b.toNat,.int .u32 V.c.toNat,.int .u32 V.d.toNat,.int .u32 V.e.toNat,.int .u32 V.f.toNat,.int .u32 V.g.toNat,.int .u32 V.h.toNat]) (.int .i64 ((1:Nat):Int))).run prog w=.ok (.int .u32 V.b.toNat) w:=by kernel_rfl
theorem index_w2 (V:V8) (w:World):(Instr.index 246 (.agg #[.int .u32 V.a.toNat,.int .u32 V.b.toNat,.int .u32 V.c.toNat,.int .u32 V.d.toNat,.int .u32 V.e.toNat,.int .u32 V.f.toNat,.int .u32 V.g.toNat,.int .u32 V.h.toNat]) (.int .i64 ((2:Nat):Int))).run prog w=.ok (.int .u32 V.c.toNat) w:=by kernel_rfl
theorem index_w3 (V:V8) (w:World):(Instr.index 246 (.agg #[.int .u32 V.a.toNat,.int .u32 V.b.toNat,.int .u32 V.c.toNat,.int .u32 V.d.toNat,.int .u32 V.e.toNat,.int .u32 V.f.toNat,.int .u32 V.g.toNat,.int .u32 V.h.toNat]) (.int .i64 ((3:Nat):Int))).run prog w=.ok (.int .u32 V.d.toNat) w:=by kernel_rfl
theorem index_w4 (V:V8) (w:World):(Instr.index 246 (.agg #[.int .u32 V.a.toNat,.int .u32 V.b.toNat,.int .u32 V.c.toNat,.int .u32 V.d.toNat,.int .u32 V.e.toNat,.int .u32 V.f.toNat,.int .u32 V.g.toNat,.int .u32 V.h.toNat]) (.int .i64 ((4:Nat):Int))).run prog w=.ok (.int .u32 V.e.toNat) w:=by kernel_rfl
theorem index_w5 (V:V8) (w:World):(Instr.index 246 (.agg #[.int .u32 V.a.toNat,.int .u32 V.b.toNat,.int .u32 V.c.toNat,.int .u32 V.d.toNat,.int .u32 V.e.toNat,.int .u32 V.f.toNat,.int .u32 V.g.toNat,.int .u32 V.h.toNat]) (.int .i64 ((5:Nat):Int))).run prog w=.ok (.int .u32 V.f.toNat) w:=by kernel_rfl
theorem index_w6 (V:V8) (w:World):(Instr.index 246 (.agg #[.int .u32 V.a.toNat,.int .u32 V.b.toNat,.int .u32 V.c.toNat,.int .u32 V.d.toNat,.int .u32 V.e.toNat,.int .u32 V.f.toNat,.int .u32 V.g.toNat,.int .u32 V.h.toNat]) (.int .i64 ((6:Nat):Int))).run prog w=.ok (.int .u32 V.g.toNat) w:=by kernel_rfl
theorem index_w7 (V:V8) (w:World):(Instr.index 246 (.agg #[.int .u32 V.a.toNat,.int .u32 V.b.toNat,.int .u32 V.c.toNat,.int .u32 V.d.toNat,.int .u32 V.e.toNat,.int .u32 V.f.toNat,.int .u32 V.g.toNat,.int .u32 V.h.toNat]) (.int .i64 ((7:Nat):Int))).run prog w=.ok (.int .u32 V.h.toNat) w:=by kernel_rfl
theorem index_words (V:V8) (i:Nat) (x:Wd) (h:V.list[i]?=some x) (w:World):(Instr.index 246 (.agg #[.int .u32 V.a.toNat,.int .u32 V.b.toNat,.int .u32 V.c.toNat,.int .u32 V.d.toNat,.int .u32 V.e.toNat,.int .u32 V.f.toNat,.int .u32 V.g.toNat,.int .u32 V.h.toNat]) (.int .i64 i)).run prog w=.ok (.int .u32 x.toNat) w:=by
 have hi:i<8:=(List.getElem?_eq_some_iff.1 h).1;have h1:i=0\/i=1\/i=2\/i=3\/i=4\/i=5\/i=6\/i=7:=by omega
 rcases h1 with rfl | rfl | rfl | rfl | rfl | rfl | rfl | rfl
 ·obtain rfl:V.a=x:=Option.some.inj h;exact index_w0 V w
 ·obtain rfl:V.b=x:=Option.some.inj h;exact index_w1 V w
 ·obtain rfl:V.c=x:=Option.some.inj h;exact index_w2 V w
 ·obtain rfl:V.d=x:=Option.some.inj h;exact index_w3 V w
 ·obtain rfl:V.e=x:=Option.some.inj h;exact index_w4 V w
 ·obtain rfl:V.f=x:=Option.some.inj h;exact index_w5 V w
 ·obtain rfl:V.g=x:=Option.some.inj h;exact index_w6 V w
 ·obtain rfl:V.h=x:=Option.some.inj h;exact index_w7 V w
def padK (n k:Nat):List UInt8:=128::List.replicate (zerosOf n) 0++(be8 (8*n)).take k
theorem padK_step (n k:Nat) (h:k<8):(padK n k).map bv++[Value.int .u8 ((8*n / 2 ^ (56 - 8*k) % 256:Nat):Int)]=(padK n (k+1)).map bv:=by
 unfold padK;rw [padL_step n k h,List.map_append (l₂:=[_])];simp [bv,byteOf]
theorem padK_zero (n:Nat):(Value.int .u8 128::List.replicate (zerosOf n) (Value.int .u8 0))=(padK n 0).map bv:=by simp [padK,bv]
theorem padK_full (n:Nat):padK n 8=padL n:=by simp [padK,padL,be8]
set_option maxHeartbeats 4000000 in
set_option maxRecDepth 100000 in
theorem ssum_any (m:List UInt8) (bs:Nat) (w:World) (T:ShaTabs w) (hst:StAt w bs m) (hm:m.length<=1048576) :
  Calls prog 152 #[.pointer (some ⟨bs,0,none⟩)] w fun e w'=>e=.returned (.agg (hArr (shaL m) 32))/\Ext w w':=by
 have HIS:=fun w h=>lh (is_any w bs m h);have HST:=lh hst;have HT:=lh T;obtain ⟨r,hr,hp,hb⟩:=hst;obtain ⟨n,hn⟩:∃ n,n=m.length:=⟨_,rfl⟩;rw [<-hn] at hb hm;have HN:=lh hn;have HP:=lh hp;have HR:=lh hr;obtain ⟨C,hC⟩:∃ C,C=stC (digN m (n / 64)).list r n:=⟨_,rfl⟩;have HC:=lh hC;have hb':w.heap[bs]?=some (.cells C 249 (0,0)):=by rw [hC];exact hb
 have c72:w.cell? ⟨bs,72,none⟩=some (.int .i64 n):=(cellB hb).trans (stC_n _ _ _ rfl hr);have HB:=lh hb';have hsz:C.size=74:=by rw [hC];simp [stC,V8.list,hr]
 have HSZ:=lh hsz;clear hn hp hr hC hb hb' T hsz;go_enter func152,ntmps152;go_wp2_with fail;refine (HIS _ (HST.out.ext ((Ext.refl w).alloc _))).out.mono ?_;rintro e w1 ⟨rfl,hw1⟩;have X1:=lh (show Ext w w1 from hw1▸(Ext.refl w).alloc _);have HB0:=lh (show w1.heap[w.heap.size]?=some (hObj [] 0) from by rw [hw1];exact heap_alloc_new _ _);have HB1:=lh ((X1.out.block (ltB HB.out)).trans HB.out);have hs1:w1.heap.size=w.heap.size+1:=by rw [hw1];simp
 have HS1:=lh hs1;have c72a:w1.cell? ⟨bs,72,none⟩=some (.int .i64 n):=(X1.out.cell (lt_of_cell c72)).trans c72;obtain ⟨z,hz⟩:∃ z,z=zerosOf n:=⟨_,rfl⟩;have hze:(119 - (n:Int) % 64) % 64=(z:Int):=by rw [hz];unfold zerosOf;omega
 have hz64:z<64:=by rw [hz];unfold zerosOf;omega
 have HZ:=lh hz;clear hw1 c72 hs1 hz
 go_wp2_with (first
  | (refine wpList_load_row rfl _ _ rfl bs rfl 249 C (0,0) _ HB1.out underlying249 rfl (by rw [HSZ.out];kernel_rfl) ?_;go_frame)
  | (refine wpList_storeT rfl _ _ _ rfl w1.heap.size C rfl rfl 249 _ (heap_alloc_new w1 _) (by rw [HSZ.out];kernel_rfl) (by rw [HSZ.out];rfl) (by rw [HC.out];exact stC_one _ _ _) ?_;intro w2 hb2 ht2;have HB2:=lh hb2;have X2:=lh (ht2.fresh ((Ext.refl w1).alloc _) (Nat.le_refl _));have c72:w2.cell? ⟨bs,72,none⟩=some (.int .i64 n):=(X2.out.cell (lt_of_cell c72a)).trans c72a;have c72b:(w2.alloc (.cells #[.int .u8 128] 5)).cell? ⟨bs,72,none⟩=some (.int .i64 n):=(cell_alloc_old (lt_of_cell c72)).trans c72;obtain ⟨pv,w3,hrun,hown,hgr⟩:=append_zeros_one (w2.alloc (.cells #[.int .u8 128] 5)) w2.heap.size z w2.heap.size (.int .u8 128) 22 (heap_alloc_new _ _) (by omega) (Nat.le_refl _);have HOWN:=lh hown;have HGR:=lh hgr;have HW12:=lh (ltB hb2);clear hb2 ht2 c72a hown hgr;go_frame)
  | (at_builtin;refine Lib.wpList_append_run _ rfl _ _ _ _ rfl (.slice (some ⟨w2.heap.size,0,none⟩) 1 1) (.int .i64 z) rfl (congrArg (Value.int .i64) hze) pv w3 hrun ?_;clear hrun c72 c72b;go_frame))
 rw [hze];clear hze;have HO0:=lh (show w3.ownsRow w2.heap.size 5 1 pv (1+z+0) ((padK n 0).map bv) from by rw [<-padK_zero,<-HZ.out];exact HOWN.out);have HX3:=lh (((Ext.refl w2).alloc (.cells #[.int .u8 128] 5)).trans (ext_none HGR.out));clear HOWN HGR HZ;go_loopw [5,6] (fun qv iv wr=>Hid (∃ k:Nat,k<=8/\iv=.int .i64 (56 - 8*k)/\wr.ownsRow w2.heap.size 5 1 qv (1+z+k) ((padK n k).map bv)/\Ext w2 wr)) (fun _ iv _=>(8+intOf iv).toNat)
 case atStart=>exact ⟨0,by omega,rfl,HO0.out,HX3.out⟩
 case round =>
  obtain ⟨k,hk,rfl,ho,hx⟩:=hrel.out;clear hrel HO0 HX3;have HO:=lh ho;have HX:=lh hx;by_cases h8:k<8
  ·have HST:=lh (padK_step n k h8);clear ho hx;have hc:k=0\/k=1\/k=2\/k=3\/k=4\/k=5\/k=6\/k=7:=by omega
   rcases hc with rfl | rfl | rfl | rfl | rfl | rfl | rfl | rfl
   ·go_wp2_with (at_builtin;refine append_one elU8 w2.heap.size _ _ _ (HO.out.alloc _) wr.heap.size _ (.tmp 36) (.tmp 41) rfl rfl rfl rfl (by rw [cell_alloc_new rfl];rfl) rfl (by omega) (by have:=HX.out.size;simp;omega) ?_;intro pv' w4 hown4 hg4 _;have HX4:=lh (ext_own (HX.out.alloc _) (Nat.le_refl _) (HO.out.alloc _) hg4);have HO4:=lh (show w4.ownsRow w2.heap.size 5 1 pv' (1+z+1) ((padK n 1).map bv) from by rw [<-HST.out];exact own_cast hown4 (by rw [show (2:Nat) ^ (56 - 8*0)=72057594037927936 from by decide];omega));clear hown4 hg4;go_frame);go_roundw
    case rel=>exact ⟨1,by omega,rfl,HO4.out,HX4.out⟩
    case measure=>simp [intOf]
   ·go_wp2_with (at_builtin;refine append_one elU8 w2.heap.size _ _ _ (HO.out.alloc _) wr.heap.size _ (.tmp 36) (.tmp 41) rfl rfl rfl rfl (by rw [cell_alloc_new rfl];rfl) rfl (by omega) (by have:=HX.out.size;simp;omega) ?_;intro pv' w4 hown4 hg4 _;have HX4:=lh (ext_own (HX.out.alloc _) (Nat.le_refl _) (HO.out.alloc _) hg4);have HO4:=lh (show w4.ownsRow w2.heap.size 5 1 pv' (1+z+2) ((padK n 2).map bv) from by rw [<-HST.out];exact own_cast hown4 (by rw [show (2:Nat) ^ (56 - 8*1)=281474976710656 from by decide];omega));clear hown4 hg4;go_frame);go_roundw
    case rel=>exact ⟨2,by omega,rfl,HO4.out,HX4.out⟩
    case measure=>simp [intOf]
   ·go_wp2_with (at_builtin;refine append_one elU8 w2.heap.size _ _ _ (HO.out.alloc _) wr.heap.size _ (.tmp 36) (.tmp 41) rfl rfl rfl rfl (by rw [cell_alloc_new rfl];rfl) rfl (by omega) (by have:=HX.out.size;simp;omega) ?_;intro pv' w4 hown4 hg4 _;have HX4:=lh (ext_own (HX.out.alloc _) (Nat.le_refl _) (HO.out.alloc _) hg4);have HO4:=lh (show w4.ownsRow w2.heap.size 5 1 pv' (1+z+3) ((padK n 3).map bv) from by rw [<-HST.out];exact own_cast hown4 (by rw [show (2:Nat) ^ (56 - 8*2)=1099511627776 from by decide];omega));clear hown4 hg4;go_frame);go_roundw
    case rel=>exact ⟨3,by omega,rfl,HO4.out,HX4.out⟩
    case measure=>simp [intOf]
   ·go_wp2_with (at_builtin;refine append_one elU8 w2.heap.size _ _ _ (HO.out.alloc _) wr.heap.size _ (.tmp 36) (.tmp 41) rfl rfl rfl rfl (by rw [cell_alloc_new rfl];rfl) rfl (by omega) (by have:=HX.out.size;simp;omega) ?_;intro pv' w4 hown4 hg4 _;have HX4:=lh (ext_own (HX.out.alloc _) (Nat.le_refl _) (HO.out.alloc _) hg4);have HO4:=lh (show w4.ownsRow w2.heap.size 5 1 pv' (1+z+4) ((padK n 4).map bv) from by rw [<-HST.out];exact own_cast hown4 (by rw [show (2:Nat) ^ (56 - 8*3)=4294967296 from by decide];omega));clear hown4 hg4;go_frame);go_roundw
    case rel=>exact ⟨4,by omega,rfl,HO4.out,HX4.out⟩
    case measure=>simp [intOf]
   ·go_wp2_with (at_builtin;refine append_one elU8 w2.heap.size _ _ _ (HO.out.alloc _) wr.heap.size _ (.tmp 36) (.tmp 41) rfl rfl rfl rfl (by rw [cell_alloc_new rfl];rfl) rfl (by omega) (by have:=HX.out.size;simp;omega) ?_;intro pv' w4 hown4 hg4 _;have HX4:=lh (ext_own (HX.out.alloc _) (Nat.le_refl _) (HO.out.alloc _) hg4);have HO4:=lh (show w4.ownsRow w2.heap.size 5 1 pv' (1+z+5) ((padK n 5).map bv) from by rw [<-HST.out];exact own_cast hown4 (by rw [show (2:Nat) ^ (56 - 8*4)=16777216 from by decide];omega));clear hown4 hg4;go_frame);go_roundw
    case rel=>exact ⟨5,by omega,rfl,HO4.out,HX4.out⟩
    case measure=>simp [intOf]
   ·go_wp2_with (at_builtin;refine append_one elU8 w2.heap.size _ _ _ (HO.out.alloc _) wr.heap.size _ (.tmp 36) (.tmp 41) rfl rfl rfl rfl (by rw [cell_alloc_new rfl];rfl) rfl (by omega) (by have:=HX.out.size;simp;omega) ?_;intro pv' w4 hown4 hg4 _;have HX4:=lh (ext_own (HX.out.alloc _) (Nat.le_refl _) (HO.out.alloc _) hg4);have HO4:=lh (show w4.ownsRow w2.heap.size 5 1 pv' (1+z+6) ((padK n 6).map bv) from by rw [<-HST.out];exact own_cast hown4 (by rw [show (2:Nat) ^ (56 - 8*5)=65536 from by decide];omega));clear hown4 hg4;go_frame);go_roundw
    case rel=>exact ⟨6,by omega,rfl,HO4.out,HX4.out⟩
    case measure=>simp [intOf]
   ·go_wp2_with (at_builtin;refine append_one elU8 w2.heap.size _ _ _ (HO.out.alloc _) wr.heap.size _ (.tmp 36) (.tmp 41) rfl rfl rfl rfl (by rw [cell_alloc_new rfl];rfl) rfl (by omega) (by have:=HX.out.size;simp;omega) ?_;intro pv' w4 hown4 hg4 _;have HX4:=lh (ext_own (HX.out.alloc _) (Nat.le_refl _) (HO.out.alloc _) hg4);have HO4:=lh (show w4.ownsRow w2.heap.size 5 1 pv' (1+z+7) ((padK n 7).map bv) from by rw [<-HST.out];exact own_cast hown4 (by rw [show (2:Nat) ^ (56 - 8*6)=256 from by decide];omega));clear hown4 hg4;go_frame);go_roundw
    case rel=>exact ⟨7,by omega,rfl,HO4.out,HX4.out⟩
    case measure=>simp [intOf]
   ·go_wp2_with (at_builtin;refine append_one elU8 w2.heap.size _ _ _ (HO.out.alloc _) wr.heap.size _ (.tmp 36) (.tmp 41) rfl rfl rfl rfl (by rw [cell_alloc_new rfl];rfl) rfl (by omega) (by have:=HX.out.size;simp;omega) ?_;intro pv' w4 hown4 hg4 _;have HX4:=lh (ext_own (HX.out.alloc _) (Nat.le_refl _) (HO.out.alloc _) hg4);have HO4:=lh (show w4.ownsRow w2.heap.size 5 1 pv' (1+z+8) ((padK n 8).map bv) from by rw [<-HST.out];exact own_cast hown4 (by rw [show (2:Nat) ^ (56 - 8*7)=1 from by decide];omega));clear hown4 hg4;go_frame);go_roundw
    case rel=>exact ⟨8,by omega,rfl,HO4.out,HX4.out⟩
    case measure=>simp [intOf]
  ·obtain rfl:k=8:=by omega
   rw [padK_full] at ho;have HO:=lh ho;obtain ⟨wb,rfl⟩:∃ x,x=wr:=⟨_,rfl⟩;have HXB:=lh hx;have hne:w.heap.size≠w1.heap.size:=by have:=X1.out.size;have:=HS1.out;omega
   have hrt:1≠w1.heap.size:=by have:=HT.out.lt.1;have:=X1.out.size;omega
   have XWB:=lh ((X1.out.trans X2.out).trans hx);have hst:StAt wb w1.heap.size m:=⟨r,HR.out,HP.out,by rw [hx.block (ltB HB2.out),HB2.out,HC.out,HN.out];rfl⟩;have hwr:=lh (write_any m (padL n) w1.heap.size _ wb hst (bytesOff_owns ho HW12.out) (XWB.out |> fun x=>(HT.out.ext x).roots) hrt (by have:=HN.out;rw [padL_len];unfold zerosOf;omega));clear ho hx hst hrt;go_wp2_with fail;refine hwr.out.mono ?_;rintro e w5 ⟨rfl,hst5,ht5⟩;obtain ⟨out,hout⟩:∃ out,out=shaL m:=⟨_,rfl⟩;have hol:out.length=32:=by rw [hout,shaL_len]
   obtain ⟨V,hV⟩:∃ V,V=digN (padded m) ((padded m).length / 64):=⟨_,rfl⟩;have HOUT:=lh hout;have HOL:=lh hol
   have HWD:∀ (i k:Nat) x,V.list[i]?=some x->k<4->out[4*i+k]?=some (byteOf (x.toNat / 2 ^ (24 - 8*k))):=fun i k x h hk=>by
    have:=sha_word V i k x h hk;rw [hV] at this;rw [hout];exact this
   have HWDh:=lh HWD;have X5:=lh (ht5.fresh XWB.out X1.out.size)
   have hb0:w5.heap[w.heap.size]?=some (hObj out 0):=by
    rw [ht5.block _ (Nat.lt_of_lt_of_le (ltB HB0.out) (X2.out.trans HXB.out).size) (fun e=>hne (Option.some.inj e)),(X2.out.trans HXB.out).block (ltB HB0.out)];exact HB0.out
   have HB05:=lh hb0;obtain ⟨r5,_,_,hb5⟩:=hst5;rw [show m++padL n=padded m from by rw [HN.out];rfl,<-hV] at hb5;have s0:w5.cell? ⟨w1.heap.size,0,none⟩=some (.int .u32 V.a.toNat):=(cellB hb5).trans (stC_word _ _ _ 0 _ rfl);have s1:w5.cell? ⟨w1.heap.size,1,none⟩=some (.int .u32 V.b.toNat):=(cellB hb5).trans (stC_word _ _ _ 1 _ rfl);have s2:w5.cell? ⟨w1.heap.size,2,none⟩=some (.int .u32 V.c.toNat):=(cellB hb5).trans (stC_word _ _ _ 2 _ rfl);have s3:w5.cell? ⟨w1.heap.size,3,none⟩=some (.int .u32 V.d.toNat):=(cellB hb5).trans (stC_word _ _ _ 3 _ rfl);have s4:w5.cell? ⟨w1.heap.size,4,none⟩=some (.int .u32 V.e.toNat):=(cellB hb5).trans (stC_word _ _ _ 4 _ rfl);have s5:w5.cell? ⟨w1.heap.size,5,none⟩=some (.int .u32 V.f.toNat):=(cellB hb5).trans (stC_word _ _ _ 5 _ rfl);have s6:w5.cell? ⟨w1.heap.size,6,none⟩=some (.int .u32 V.g.toNat):=(cellB hb5).trans (stC_word _ _ _ 6 _ rfl);have s7:w5.cell? ⟨w1.heap.size,7,none⟩=some (.int .u32 V.h.toNat):=(cellB hb5).trans (stC_word _ _ _ 7 _ rfl);clear hout hol hV HWD hb0 hb5 ht5 hwr;go_wp2_with fail;clear s0 s1 s2 s3 s4 s5 s6 s7;go_loopw [47] (fun iv wr=>Hid (∃ i:Nat,i<=8/\iv=.int .i64 i/\Touch w.heap.size w5 wr/\wr.heap[w.heap.size]?=some (hObj out (4*i)))) (fun iv _=>8 - (intOf iv).toNat)
   case atStart=>exact ⟨0,by omega,rfl,Touch.of (Ext.refl _),HB05.out⟩
   case round =>
    obtain ⟨i,hi,rfl,ht,hb⟩:=hrel.out;clear hrel;have HTI:=lh ht;have HBI:=lh hb;clear ht hb;by_cases hi8:i<8
    ·obtain ⟨x,hx⟩:∃ x,V.list[i]?=some x:=⟨_,List.getElem?_eq_getElem (by show i<8;exact hi8)⟩;have hidx:=fun w=>index_words V i x hx w;have HXL:=lh hx;clear hx;go_wp2_with fail;clear hidx;obtain ⟨wi,rfl⟩:∃ x,x=wr:=⟨_,rfl⟩;go_loopw [51] (fun kv wr=>Hid (∃ k:Nat,k<=4/\kv=.int .i64 k/\Touch w.heap.size w5 wr/\wr.heap[w.heap.size]?=some (hObj out (4*i+k)))) (fun kv _=>4 - (intOf kv).toNat)
     case atStart=>exact ⟨0,by omega,rfl,HTI.out,HBI.out⟩
     case round =>
      obtain ⟨k,hk,rfl,ht,hb⟩:=hrel.out;clear hrel;have HTK:=lh ht;have HBK:=lh hb;clear ht;have fr:∀ k,wr.frozen? ⟨w.heap.size,k,none⟩=false:=fun k=>frozenB hb;by_cases hk4:k<4
      ·obtain ⟨u,hu⟩:=hArr_at out (4*i+k) (4*i+k) HOL.out (by omega) (by omega);have cu:wr.cell? ⟨w.heap.size,4*i+k,none⟩=some u:=(cellB hb).trans hu;clear hb hu;have hd:k=0\/k=1\/k=2\/k=3:=by omega
       rcases hd with rfl | rfl | rfl | rfl
       ·replace cu:wr.cell? ⟨w.heap.size,4*i,none⟩=some u:=cu
        go_wp2_with fail;go_roundw
        case rel=>exact ⟨1,by omega,rfl,HTK.out.setCell _,by rw [setCellB HBK.out];exact congrArg some (hObj_set out (4*i+0) _ _ (HWDh.out i 0 _ HXL.out (by omega)) HOL.out (by have:=x.isLt;show _=((x.toNat / 2 ^ (24 - 8*0) % 256:Nat):Int);rw [show (2:Nat) ^ (24 - 8*0)=16777216 from by decide];omega))⟩
        case measure=>simp [intOf]
       ·go_wp2_with fail;go_roundw
        case rel=>exact ⟨2,by omega,rfl,HTK.out.setCell _,by rw [setCellB HBK.out];exact congrArg some (hObj_set out (4*i+1) _ _ (HWDh.out i 1 _ HXL.out (by omega)) HOL.out (by have:=x.isLt;show _=((x.toNat / 2 ^ (24 - 8*1) % 256:Nat):Int);rw [show (2:Nat) ^ (24 - 8*1)=65536 from by decide];omega))⟩
        case measure=>simp [intOf]
       ·go_wp2_with fail;go_roundw
        case rel=>exact ⟨3,by omega,rfl,HTK.out.setCell _,by rw [setCellB HBK.out];exact congrArg some (hObj_set out (4*i+2) _ _ (HWDh.out i 2 _ HXL.out (by omega)) HOL.out (by have:=x.isLt;show _=((x.toNat / 2 ^ (24 - 8*2) % 256:Nat):Int);rw [show (2:Nat) ^ (24 - 8*2)=256 from by decide];omega))⟩
        case measure=>simp [intOf]
       ·go_wp2_with fail;go_roundw
        case rel=>exact ⟨4,by omega,rfl,HTK.out.setCell _,by rw [setCellB HBK.out];exact congrArg some (hObj_set out (4*i+3) _ _ (HWDh.out i 3 _ HXL.out (by omega)) HOL.out (by have:=x.isLt;show _=((x.toNat / 2 ^ (24 - 8*3) % 256:Nat):Int);rw [show (2:Nat) ^ (24 - 8*3)=1 from by decide];omega))⟩
        case measure=>simp [intOf]
      ·obtain rfl:k=4:=by omega
       clear hb fr;go_wp2_with fail;go_roundw
       case rel=>exact ⟨i+1,by omega,by go_num,HTK.out,by rw [show 4*(i+1)=4*i+4 from by omega];exact HBK.out⟩
       case measure=>simp [intOf];omega
    ·obtain rfl:i=8:=by omega
     have hsz:(hArr out (4*8)).size=32:=hArr_size out 32 HOL.out (by omega);have HSZ2:=lh hsz;clear hsz
     go_wp2_with (first
      | (refine wpList_load_row rfl _ _ rfl w.heap.size rfl 45 (hArr out (4*8)) (0,0) _ HBI.out underlying45 rfl (by rw [HSZ2.out];kernel_rfl) ?_;go_frame)
      | (refine wpList_storeT rfl _ _ _ rfl w.heap.size (hArr out (4*8)) rfl rfl 45 _ HBI.out (by rw [HSZ2.out];kernel_rfl) rfl (hArr_one _ _) ?_;intro w6 hb6 ht6;have HB6:=lh hb6;have HT6:=lh ht6;clear hb6 ht6;go_frame))
     refine bodyPost_ret (results_cell_row rfl _ _ w.heap.size 45 _ (0,0) _ rfl HB6.out underlying45 rfl (by rw [HSZ2.out];kernel_rfl)) rfl ⟨by rw [HOUT.out],?_⟩;exact (HTI.out.trans HT6.out).fresh X5.out (Nat.le_refl _)
end
section
abbrev IsB (B b:Nat) (l:List UInt8) (w:World):Prop:=Lib.IsBuilder 201 5 B b (Lib.byteCells l) w
set_option maxHeartbeats 1000000 in
set_option maxRecDepth 100000 in
theorem copyCheck_used (b:Nat) (w:World) (h0:w.cell? ⟨b,0,none⟩=some (.pointer (some ⟨b,0,none⟩))) :
  Calls prog 192 #[.pointer (some ⟨b,0,none⟩)] w fun e w'=>e=.returned (.tuple #[])/\w'=w:=by
 obtain ⟨j,hj,_⟩:=Option.map_eq_some_iff.1 (show (prog.info? 201).map (·.size)=some 2 from by kernel_rfl);go_enter func192,ntmps192;go_wp2;rw [Lib.run_neq_ptr_same w _ underlying199 hj];go_wp2;go_end0;exact ⟨rfl,rfl⟩
set_option maxHeartbeats 1000000 in
set_option maxRecDepth 100000 in
theorem copyCheck_fresh (b:Nat) (w:World) (h0:w.cell? ⟨b,0,none⟩=some (.pointer none)) (hsh:w.shape? b=some (201,2)) (hfz:w.frozen? ⟨b,0,none⟩=false) :
  Calls prog 192 #[.pointer (some ⟨b,0,none⟩)] w fun e w'=>e=.returned (.tuple #[])/\w'=w.setCell ⟨b,0,none⟩ (.pointer (some ⟨b,0,none⟩)):=by
 obtain ⟨j,hj,hjs⟩:=Option.map_eq_some_iff.1 (show (prog.info? 201).map (·.size)=some 2 from by kernel_rfl);go_enter func192,ntmps192;go_wp2;rw [Lib.run_to_unsafe w ⟨b,0,none⟩ underlying199 (by kernel_rfl) hj (by rw [hjs];decide) hsh (Nat.zero_lt_succ 1)];simp only [Result.andThen];rw [Oper.upon_value];go_wp2;rw [run_callFunc_extern func232 (by kernel_rfl) (by kernel_rfl) (by kernel_rfl) (e:=Extern.AbiNoEscape.same) (by kernel_rfl)];rw [Lib.run_noEscape];simp only [Result.andThen];rw [Oper.upon_value];go_wp2;rw [Lib.run_from_unsafe w ⟨b,0,none⟩ (by kernel_rfl) underlying199 hj hsh (by kernel_rfl)];simp only [Result.andThen];rw [Oper.upon_value];go_wp2;go_end0;exact ⟨rfl,rfl⟩
theorem copyCheck_any (B b:Nat) (l:List UInt8) (w:World) (h:IsB B b l w) :
  Calls prog 192 #[.pointer (some ⟨b,0,none⟩)] w fun e w'=>e=.returned (.tuple #[])/\Lib.BuilderAt 201 5 B b (.pointer (some ⟨b,0,none⟩)) (Lib.byteCells l) w'/\Below B w w':=by
 rcases h with h | h
 ·refine (copyCheck_fresh b w h.cell0 h.shape h.frozen0).mono ?_;rintro e w' ⟨rfl,rfl⟩;exact ⟨rfl,h.used _,(Below.refl B w).setCell (p:=⟨b,0,none⟩) h.1 _⟩
 ·refine (copyCheck_used b w h.cell0).mono ?_;rintro e w' ⟨rfl,rfl⟩;exact ⟨rfl,h,Below.refl B _⟩
set_option maxHeartbeats 2000000 in
set_option maxRecDepth 100000 in
theorem writeByte_any (B b:Nat) (l:List UInt8) (c:UInt8) (w:World) (h:IsB B b l w) (hlen:l.length<=1000000) (hBw:B<=w.heap.size) :
  Calls prog 234 #[.pointer (some ⟨b,0,none⟩),.int .u8 c.toNat] w fun e w'=>e=.returned .nilIface/\IsB B b (l++[c]) w'/\Below B w w':=by
 have HC:=lh (copyCheck_any B b l w h);clear h;go_enter func234,ntmps234;go_wp2_with fail;refine HC.out.mono ?_;rintro e w1 ⟨rfl,h1,hb1⟩;obtain ⟨hB,v,hbk,hown,hne⟩:=h1;have c0:w1.cell? ⟨b,0,none⟩=some (.pointer (some ⟨b,0,none⟩)):=by rw [cellB hbk];rfl
 have c1:w1.cell? ⟨b,1,none⟩=some v:=by rw [cellB hbk];rfl
 have hln:(Lib.byteCells l).length=l.length:=by simp [Lib.byteCells]
 have HOWN:=lh hown;have HBK:=lh hbk;have HB1:=lh hb1;have HNE:=lh hne;have hsz:=hb1.size;have HLN:=lh hln;clear hown hbk hb1 hne hln;go_wp2_with (at_builtin;refine append_one elU8 B _ _ _ (HOWN.out.alloc _) w1.heap.size (.int .u8 c.toNat) (.tmp 11) (.tmp 13) rfl rfl rfl rfl (by rw [cell_alloc_new rfl];rfl) rfl (by rw [HLN.out];omega) (by simp;omega) ?_;intro v' w2 hown' hgrow hrow;have HOWN':=lh hown';have HG:=lh hgrow;have hbw2:w2.heap[b]?=some (.cells #[.pointer (some ⟨b,0,none⟩),v] 201 (0,0)):=(by rw [hgrow.block b (by have:=ltB HBK.out;simp;omega) (fun e=>HNE.out e.symm),((Ext.refl w1).alloc _).block (ltB HBK.out)];exact HBK.out);have HB2:=lh hbw2;have d1:w2.cell? ⟨b,1,none⟩=some v:=(by rw [cellB hbw2];rfl);have f1:w2.frozen? ⟨b,1,none⟩=false:=frozenB hbw2;obtain ⟨g,cap,rfl,_⟩:=hrow;clear hown' hgrow hbw2 c0 c1;go_frame);go_ret;refine ⟨rfl,.inr ?_,?_⟩
 ·exact Lib.BuilderAt.put hB HB2.out (bs':=Lib.byteCells (l++[c])) (by rw [show Lib.byteCells (l++[c])=Lib.byteCells l++[.int .u8 c.toNat] from by simp [Lib.byteCells],List.length_append];exact HOWN'.out) (by decide)
 ·exact ((HB1.out.alloc (by omega) _).grown HG.out (by simp;omega) (fun k hk=>(HOWN.out.lt k hk).1)).setCell (p:=⟨b,1,none⟩) hB _
end
section
theorem bytesOff_any {b b':Nat} {w w':World} {v:Value} {l:List UInt8} (h:BytesOff b w v l) (x:Ext w w') (hb:w.heap.size<=b'):BytesOff b' w' v l:=by
 obtain ⟨a,cap,h1,h2,h3,h4⟩:=h;refine ⟨a,cap,h1,h2,h3,fun hp=>?_⟩;obtain ⟨g,o,e1,e2,e3,e4⟩:=h4 hp;exact ⟨g,o,e1,by omega,Nat.lt_of_lt_of_le e3 x.size,fun j y hj=>(x.cell e3).trans (e4 j y hj)⟩
theorem World.size_alloc_heap (w:World) (o:Obj):(w.alloc o).heap.size=w.heap.size+1:=by simp
def hashV (l:List UInt8):Value:=.agg (hArr l 32)
set_option maxHeartbeats 1000000 in
set_option maxRecDepth 100000 in
theorem sum_any (b:List UInt8) (v:Value) (w:World) (T:ShaTabs w) (hv:BytesOff w.heap.size w v b) (hm:b.length<=1048576) :
  Calls prog 86 #[v] w fun e w'=>e=.returned (hashV (shaL b))/\Ext w w':=by
 have HT:=lh T;have HV:=lh hv;have hss:(hArr (shaL b) 32).size=32:=hArr_size _ _ (shaL_len b) (by omega);have HSS:=lh hss;have HN:=fun w T=>lh (new_any w T);have HW:=fun bs w h1 h2 h3 h4=>lh (write_any [] b bs v w h1 h2 h3 h4 (by simp;omega));have HS:=fun bs w T h=>lh (ssum_any b bs w T h hm);unfold hashV;generalize shaL b=out at *;clear T hv hss;go_enter func86,ntmps86;go_wp2_with fail;refine (HN _ (HT.out.ext ((Ext.refl w).alloc _))).out.mono ?_;rintro e w2 ⟨rfl,hst2,hx2⟩;have X2:=lh (((Ext.refl w).alloc _).trans hx2);have HB0:=lh (show w2.heap[w.heap.size]?=some (.cells (hArr [] 0) 45 (0,0)) from (hx2.block (by simp)).trans (heap_alloc_new w _));have hlt:=lh (HT.out.lt.1);simp only [World.size_alloc_heap] at hst2 ⊢;have HST:=lh hst2;clear hst2 hx2;go_wp2_with fail;refine (HW (w.heap.size+1) _ HST.out (bytesOff_any HV.out X2.out (by omega)) (HT.out.ext X2.out).roots (by have:=hlt.out;omega)).out.mono ?_;rintro e w3 ⟨rfl,hst3,ht3⟩;have X3:=lh (ht3.fresh X2.out (by omega));have HB3:=lh ((ht3.block _ (ltB HB0.out) (fun e=>by have:=Option.some.inj e;omega)).trans HB0.out);have HST3:=lh (show StAt w3 (w.heap.size+1) b from hst3);clear hst3 ht3;go_wp2_with fail;refine (HS _ _ (HT.out.ext X3.out) HST3.out).out.mono ?_;rintro e w4 ⟨rfl,hx4⟩;have HB4:=lh ((hx4.block (ltB HB3.out)).trans HB3.out);have X4:=lh (X3.out.trans hx4);clear hx4;go_wp2_with (refine wpList_storeT rfl _ _ _ rfl w.heap.size (hArr out 32) rfl rfl 45 _ HB4.out (by rw [HSS.out];kernel_rfl) (by rw [HSS.out];rfl) (hArr_one _ _) ?_;intro w6 hb6 ht6;have HB6:=lh hb6;have HT6:=lh ht6;clear hb6 ht6;go_frame);refine bodyPost_ret (results_cell_row rfl _ _ w.heap.size 45 _ (0,0) _ rfl HB6.out underlying45 rfl (by rw [HSS.out];kernel_rfl)) rfl ⟨rfl,HT6.out.fresh X4.out (Nat.le_refl _)⟩
theorem index_hash (l:List UInt8) (hl:l.length=32) (i:Nat) (x:UInt8) (h:l[i]?=some x) (w:World):(Instr.index 45 (.agg (hArr l 32)) (.int .i64 i)).run prog w=.ok (.int .u8 x.toNat) w:=by
 have hi:i<32:=hl▸(List.getElem?_eq_some_iff.1 h).1;have hu:prog.underlying 45=some (.array 32 5):=by kernel_rfl
 obtain ⟨j,hj,hjs⟩:=Option.map_eq_some_iff.1 (show (prog.info? 5).map (·.size)=some 1 from by kernel_rfl)
 have hc:(hArr l 32)[i]?=some (.int .u8 x.toNat):=by
  unfold hArr;rw [List.getElem?_toArray,List.getElem?_append_left (by simp [hl,hi]),List.getElem?_map,List.getElem?_take,if_pos hi,h];rfl
 simp [Instr.index,run_underlying hu,asIntOf,sizeOf,typeInfo,hj,hjs,part,hc];intro hh;omega
end
section
def digitsS:ByteArray:=⟨#[48,49,50,51,52,53,54,55,56,57,97,98,99,100,101,102]⟩
theorem digits_at (n:Nat) (h:n<16):digitsS[n]?=some (hexD n):=by
 have:n=0\/n=1\/n=2\/n=3\/n=4\/n=5\/n=6\/n=7\/n=8\/n=9\/n=10\/n=11\/n=12\/n=13\/n=14\/n=15:=by omega
 rcases this with rfl | rfl | rfl | rfl | rfl | rfl | rfl | rfl | rfl | rfl | rfl | rfl | rfl | rfl | rfl | rfl <;> rfl
theorem digits_get (n:Nat) (h:n<(⟨#[48,49,50,51,52,53,54,55,56,57,97,98,99,100,101,102]⟩:ByteArray).size):(⟨#[48,49,50,51,52,53,54,55,56,57,97,98,99,100,101,102]⟩:ByteArray)[n]'h=hexD n:=Option.some.inj ((getElem?_pos digitsS n h).symm.trans (digits_at n h))
theorem hexL_step (l:List UInt8) (k:Nat) (x:UInt8) (h:l[k]?=some x):hexL (l.take (k+1))=hexL (l.take k)++[hexD (x.toNat / 16)]++[hexD (x.toNat % 16)]:=by
 rw [List.take_add_one,h];simp [hexL]
set_option maxHeartbeats 2000000 in
set_option maxRecDepth 100000 in
theorem text_any (l:List UInt8) (hl:l.length=32) (w:World) :
  Calls prog 194 #[hashV l] w fun e w'=>e=.returned (.string ⟨(hexL l).toArray⟩)/\Ext w w':=by
 unfold hashV;have HI:=fun i x h w=>lh (index_hash l hl i x h w);have hsz:(hArr l 32).size=32:=hArr_size l 32 hl (by omega);have HSZ:=lh hsz;obtain ⟨H,hH⟩:∃ H,H=hArr l 32:=⟨_,rfl⟩;rw [<-hH] at hsz HSZ HI ⊢;clear hH hsz;go_enter func194,ntmps194;have HB:=lh (((Ext.refl (w.alloc (.cells H 45))).alloc (.cells #[.pointer none,.slice none 0 0] 201)).block (by simp) |>.trans (heap_alloc_new w (.cells H 45)));have HBB:=lh (show IsB (w.heap.size+1) (w.heap.size+1) [] ((w.alloc (.cells H 45)).alloc (.cells #[.pointer none,.slice none 0 0] 201)) from .inl ⟨Nat.le_refl _,.slice none 0 0,by rw [show w.heap.size+1=(w.alloc (.cells H 45)).heap.size from by simp];exact heap_alloc_new _ _,World.ownsRow_nil _ _ _ _,by simp [Value.ownBlock]⟩);have HX0:=lh (((Ext.refl w).alloc (.cells H 45)).alloc (.cells #[.pointer none,.slice none 0 0] 201));go_wp2_with (refine wpList_load_row rfl _ _ rfl w.heap.size rfl 45 H (0,0) _ HB.out underlying45 rfl (by rw [HSZ.out];kernel_rfl) ?_;go_frame);go_loopw [7] (fun iv wr=>Hid (∃ k:Nat,k<=32/\iv=.int .i64 k/\IsB (w.heap.size+1) (w.heap.size+1) (hexL (l.take k)) wr/\Ext w wr/\w.heap.size+1<=wr.heap.size)) (fun iv _=>32 - (intOf iv).toNat)
 case atStart=>exact ⟨0,by omega,rfl,HBB.out,HX0.out,by simp⟩
 case round =>
  obtain ⟨k,hk,rfl,hb,hx,hs⟩:=hrel.out;clear hrel HBB HX0 HB;have HX:=lh hx;by_cases h32:k<32
  ·obtain ⟨x,hlx⟩:∃ x,l[k]?=some x:=⟨_,List.getElem?_eq_getElem (by omega)⟩;have hidx:=fun w=>(HI k x hlx w).out;have hln:(hexL (l.take k)).length<=64:=by rw [hexL_len,List.length_take];omega
   have hxl:=x.toNat_lt;have hd1:=digits_get (x.toNat / 16);have hd2:=digits_get (x.toNat % 16);have HST:=lh (hexL_step l k x hlx);have HB1:=lh (writeByte_any _ _ _ (hexD (x.toNat / 16)) wr hb (by omega) hs);generalize hexL (l.take k)=acc at *;clear hb hx hlx;go_wp2_with fail;refine HB1.out.mono ?_;rintro e w1 ⟨rfl,hb1,hx1⟩;have HX1:=lh (show Ext w w1 from Below.trans HX.out (Below.mono hx1 (by omega)));have hs1:w.heap.size+1<=w1.heap.size:=Nat.le_trans hs hx1.size;have HB2:=lh (writeByte_any _ _ _ (hexD (x.toNat % 16)) w1 hb1 (by simp;omega) hs1);clear hb1 hx1;go_wp2_with fail;refine HB2.out.mono ?_;rintro e w2 ⟨rfl,hb2,hx2⟩;have HX2:=lh (show Ext w w2 from Below.trans HX1.out (Below.mono hx2 (by omega)));have hs2:w.heap.size+1<=w2.heap.size:=Nat.le_trans hs1 hx2.size;have HB3:=lh hb2;clear hb2 hx2;go_wp2_with fail;go_roundw
   case rel=>exact ⟨k+1,by omega,by go_num,by rw [HST.out];exact HB3.out,HX2.out,hs2⟩
   case measure=>simp [intOf];omega
  ·have e32:l.take k=l:=List.take_of_length_le (by omega);have HS:=lh (Tryz.Builder_String_any _ _ _ wr (by rw [e32] at hb;exact hb) hs);clear hb hx e32;go_wp2_with fail;refine HS.out.mono ?_;rintro e w1 ⟨rfl,hx1⟩;have HX1:=lh (show Ext w w1 from Below.trans HX.out (Below.mono hx1 (by omega)));clear hx1;go_wp2_with fail;go_ret;exact ⟨rfl,HX1.out⟩
end
end Go.Proofs.YtldppmjjgljinaaGreatDoor
