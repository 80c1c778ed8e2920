import Derived.Test.YtodickpibbbiiaaGreatDoorWkA1
import Derived.Test.YtodickpibbbiiaaGreatDoorShelf
import Derived.Laws.BitsAllLaws
import Derived.Laws.CopyOwn
import Derived.Lib.AppendZerosOnto
import Derived.Lib.AppendZeros
import Derived.Great.FillDense
import Derived.ChangeKeysEq
open Go.Proofs.Tryz
namespace Go.Proofs.YtodickpibbbiiaaGreatDoor
open Go.RowKit
section
abbrev Wd:=BitVec 32
def rotr (x:Wd) (n:Nat):Wd:=x >>> n ||| x <<< (32 - n)
def sg0 (x:Wd):Wd:=rotr x 7 ^^^ rotr x 18 ^^^ x >>> 3
def sg1 (x:Wd):Wd:=rotr x 17 ^^^ rotr x 19 ^^^ x >>> 10
def big0 (x:Wd):Wd:=rotr x 2 ^^^ rotr x 13 ^^^ rotr x 22
def big1 (x:Wd):Wd:=rotr x 6 ^^^ rotr x 11 ^^^ rotr x 25
def chw (e f g:Wd):Wd:=(e &&& f) ^^^ (~~~e &&& g)
def mjw (a b c:Wd):Wd:=(a &&& b) ^^^ (a &&& c) ^^^ (b &&& c)
def wordAt (p:List UInt8) (t:Nat):Wd:=BitVec.ofNat 32 ((((p.getD (4*t) 0).toNat*256+(p.getD (4*t+1) 0).toNat)*256+(p.getD (4*t+2) 0).toNat)*256+(p.getD (4*t+3) 0).toNat)
def nextW (p:List UInt8) (w:List Wd) (t:Nat):Wd :=
 if t<16 then wordAt p t else w.getD (t - 16) 0+sg0 (w.getD (t - 15) 0)+w.getD (t - 7) 0+sg1 (w.getD (t - 2) 0)
def wordsL (p:List UInt8):Nat->List Wd
 | 0=>[]
 | t+1=>wordsL p t++[nextW p (wordsL p t) t]
theorem wordsL_len (p:List UInt8) (t:Nat):(wordsL p t).length=t:=by
 induction t with
 | zero=>rfl
 | succ t ih=>simp [wordsL,ih]
theorem wordsL_at (p:List UInt8) (t k:Nat) (h:k<t):(wordsL p t)[k]?=some (nextW p (wordsL p k) k):=by
 induction t with
 | zero=>omega
 | succ t ih =>
  rw [show wordsL p (t+1)=wordsL p t++[nextW p (wordsL p t) t] from rfl];by_cases e:k=t
  ·subst e;rw [List.getElem?_append_right (by rw [wordsL_len];exact Nat.le_refl _),wordsL_len];simp
  ·rw [List.getElem?_append_left (by rw [wordsL_len];omega)];exact ih (by omega)
structure V8 where
 (a b c d e f g h:Wd)
def rnd (v:V8) (k w:Wd):V8 :=
 let x:=v.h+big1 v.e+chw v.e v.f v.g+k+w
 let y:=big0 v.a+mjw v.a v.b v.c
 ⟨x+y,v.a,v.b,v.c,v.d+x,v.e,v.f,v.g⟩
def kTab:List Nat:=[
 0x428a2f98,0x71374491,0xb5c0fbcf,0xe9b5dba5,0x3956c25b,0x59f111f1,0x923f82a4,0xab1c5ed5,
 0xd807aa98,0x12835b01,0x243185be,0x550c7dc3,0x72be5d74,0x80deb1fe,0x9bdc06a7,0xc19bf174,
 0xe49b69c1,0xefbe4786,0x0fc19dc6,0x240ca1cc,0x2de92c6f,0x4a7484aa,0x5cb0a9dc,0x76f988da,
 0x983e5152,0xa831c66d,0xb00327c8,0xbf597fc7,0xc6e00bf3,0xd5a79147,0x06ca6351,0x14292967,
 0x27b70a85,0x2e1b2138,0x4d2c6dfc,0x53380d13,0x650a7354,0x766a0abb,0x81c2c92e,0x92722c85,
 0xa2bfe8a1,0xa81a664b,0xc24b8b70,0xc76c51a3,0xd192e819,0xd6990624,0xf40e3585,0x106aa070,
 0x19a4c116,0x1e376c08,0x2748774c,0x34b0bcb5,0x391c0cb3,0x4ed8aa4a,0x5b9cca4f,0x682e6ff3,
 0x748f82ee,0x78a5636f,0x84c87814,0x8cc70208,0x90befffa,0xa4506ceb,0xbef9a3f7,0xc67178f2]
def kAt (t:Nat):Wd:=BitVec.ofNat 32 (kTab.getD t 0)
def rounds (v:V8) (ws:List Wd):Nat->V8
 | 0=>v
 | t+1=>rnd (rounds v ws t) (kAt t) (ws.getD t 0)
def V8.add (x y:V8):V8:=⟨x.a+y.a,x.b+y.b,x.c+y.c,x.d+y.d,x.e+y.e,x.f+y.f,x.g+y.g,x.h+y.h⟩
def comp (s:V8) (p:List UInt8):V8:=s.add (rounds s (wordsL p 64) 64)
def first8:V8:=⟨0x6a09e667,0xbb67ae85,0x3c6ef372,0xa54ff53a,0x510e527f,0x9b05688c,0x1f83d9ab,0x5be0cd19⟩
def digN (m:List UInt8):Nat->V8
 | 0=>first8
 | n+1=>comp (digN m n) ((m.drop (64*n)).take 64)
theorem digN_app (m b:List UInt8) (n:Nat) (h:64*n<=m.length):digN (m++b) n=digN m n:=by
 induction n with
 | zero=>rfl
 | succ n ih =>
  unfold digN;rw [ih (by omega),List.drop_append,List.take_append_of_le_length (by rw [List.length_drop];omega)]
def zerosOf (n:Nat):Nat:=(119 - n % 64) % 64
def byteOf (n:Nat):UInt8:=UInt8.ofNat n
def be8 (n:Nat):List UInt8:=[byteOf (n / 2 ^ 56),byteOf (n / 2 ^ 48),byteOf (n / 2 ^ 40),byteOf (n / 2 ^ 32),byteOf (n / 2 ^ 24),byteOf (n / 2 ^ 16),byteOf (n / 2 ^ 8),byteOf n]
def padL (n:Nat):List UInt8:=128::List.replicate (zerosOf n) 0++be8 (8*n)
def padded (m:List UInt8):List UInt8:=m++padL m.length
theorem padL_len (n:Nat):(padL n).length=zerosOf n+9:=by simp [padL,be8]
def V8.list (v:V8):List Wd:=[v.a,v.b,v.c,v.d,v.e,v.f,v.g,v.h]
def outB (w:Wd):List UInt8:=[byteOf (w.toNat / 2 ^ 24),byteOf (w.toNat / 2 ^ 16),byteOf (w.toNat / 2 ^ 8),byteOf w.toNat]
def shaL (m:List UInt8):List UInt8:=((digN (padded m) ((padded m).length / 64)).list.map outB).flatten
theorem shaL_len (m:List UInt8):(shaL m).length=32:=by simp [shaL,V8.list,outB]
end
section
theorem wd_ofInt (x:Wd):BitVec.ofInt 32 (x.toNat:Int)=x:=by
 rw [show ((x.toNat:Nat):Int)=Int.ofNat x.toNat from rfl];apply BitVec.eq_of_toNat_eq;rw [BitVec.toNat_ofInt];have:=x.isLt;simp;omega
theorem wd_wrap (x:Wd):IntKind.u32.wrap (x.toNat:Int)=x.toNat:=by
 have:=x.isLt;rw [IntKind.wrap_u32'];omega
theorem wd_xor (x y:Wd):bits .xor .u32 (x.toNat:Int) (y.toNat:Int)=((x ^^^ y).toNat:Int):=by
 show IntKind.u32.wrap ((BitVec.ofInt 32 (x.toNat:Int) ^^^ BitVec.ofInt 32 (y.toNat:Int)).toNat:Int)=_
 rw [wd_ofInt,wd_ofInt,wd_wrap]
theorem wd_and (x y:Wd):bits .and .u32 (x.toNat:Int) (y.toNat:Int)=((x &&& y).toNat:Int):=by
 show IntKind.u32.wrap ((BitVec.ofInt 32 (x.toNat:Int) &&& BitVec.ofInt 32 (y.toNat:Int)).toNat:Int)=_
 rw [wd_ofInt,wd_ofInt,wd_wrap]
theorem wd_or (x y:Wd):bits .or .u32 (x.toNat:Int) (y.toNat:Int)=((x ||| y).toNat:Int):=by
 show IntKind.u32.wrap ((BitVec.ofInt 32 (x.toNat:Int) ||| BitVec.ofInt 32 (y.toNat:Int)).toNat:Int)=_
 rw [wd_ofInt,wd_ofInt,wd_wrap]
theorem wd_add (x y:Wd):((x.toNat:Int)+y.toNat) % 4294967296=((x+y).toNat:Int):=by
 rw [BitVec.toNat_add];omega
theorem wd_shr (x:Wd) (n:Nat):(x.toNat:Int) / ((2 ^ n:Nat):Int)=((x >>> n).toNat:Int):=by
 rw [BitVec.toNat_ushiftRight,Nat.shiftRight_eq_div_pow];rfl
theorem wd_shl (x:Wd) (n:Nat):(x.toNat:Int)*((2 ^ n:Nat):Int) % 4294967296=((x <<< n).toNat:Int):=by
 rw [BitVec.toNat_shiftLeft,Nat.shiftLeft_eq];rfl
theorem wd_rot (x:Wd) (n:Nat):bits .or .u32 ((x.toNat:Int)*((2 ^ (32 - n):Nat):Int) % 4294967296) ((x.toNat:Int) / ((2 ^ n:Nat):Int))=((rotr x n).toNat:Int):=by
 rw [wd_shl,wd_shr,wd_or,rotr,BitVec.or_comm]
def rotOk (n:Int):Bool:=[(2:Int),(6:Int),(7:Int),(11:Int),(13:Int),(17:Int),(18:Int),(19:Int),(22:Int),(25:Int)].contains n
theorem rot2 (x:Wd) (w:World):Calls prog 308 #[.int .u32 x.toNat,.int .i64 (-2)] w fun e w'=>e=.returned (.int .u32 (rotr x 2).toNat)/\w'=w:=by
 have e1:bits BinOp.and IntKind.u64 (IntKind.u64.wrap (-2)) 31=30:=by decide
 have HR:=lh (wd_rot x 2);go_enter func308,ntmps308;go_wp2_with fail;go_ret;exact ⟨ret_int HR.out,rfl⟩
theorem right2 (x:Wd) (w:World):Calls prog 270 #[.int .u32 x.toNat,.int .i64 2] w fun e w'=>e=.returned (.int .u32 (rotr x 2).toNat)/\w'=w:=by
 have HR:=lh (rot2 x w);generalize rotr x 2=y at *;go_enter func270,ntmps270;go_wp2_with fail;refine HR.out.mono ?_;rintro e w1 ⟨rfl,rfl⟩;go_wp2_with fail;go_ret;exact ⟨rfl,rfl⟩
theorem rot6 (x:Wd) (w:World):Calls prog 308 #[.int .u32 x.toNat,.int .i64 (-6)] w fun e w'=>e=.returned (.int .u32 (rotr x 6).toNat)/\w'=w:=by
 have e1:bits BinOp.and IntKind.u64 (IntKind.u64.wrap (-6)) 31=26:=by decide
 have HR:=lh (wd_rot x 6);go_enter func308,ntmps308;go_wp2_with fail;go_ret;exact ⟨ret_int HR.out,rfl⟩
theorem right6 (x:Wd) (w:World):Calls prog 270 #[.int .u32 x.toNat,.int .i64 6] w fun e w'=>e=.returned (.int .u32 (rotr x 6).toNat)/\w'=w:=by
 have HR:=lh (rot6 x w);generalize rotr x 6=y at *;go_enter func270,ntmps270;go_wp2_with fail;refine HR.out.mono ?_;rintro e w1 ⟨rfl,rfl⟩;go_wp2_with fail;go_ret;exact ⟨rfl,rfl⟩
theorem rot7 (x:Wd) (w:World):Calls prog 308 #[.int .u32 x.toNat,.int .i64 (-7)] w fun e w'=>e=.returned (.int .u32 (rotr x 7).toNat)/\w'=w:=by
 have e1:bits BinOp.and IntKind.u64 (IntKind.u64.wrap (-7)) 31=25:=by decide
 have HR:=lh (wd_rot x 7);go_enter func308,ntmps308;go_wp2_with fail;go_ret;exact ⟨ret_int HR.out,rfl⟩
theorem right7 (x:Wd) (w:World):Calls prog 270 #[.int .u32 x.toNat,.int .i64 7] w fun e w'=>e=.returned (.int .u32 (rotr x 7).toNat)/\w'=w:=by
 have HR:=lh (rot7 x w);generalize rotr x 7=y at *;go_enter func270,ntmps270;go_wp2_with fail;refine HR.out.mono ?_;rintro e w1 ⟨rfl,rfl⟩;go_wp2_with fail;go_ret;exact ⟨rfl,rfl⟩
theorem rot11 (x:Wd) (w:World):Calls prog 308 #[.int .u32 x.toNat,.int .i64 (-11)] w fun e w'=>e=.returned (.int .u32 (rotr x 11).toNat)/\w'=w:=by
 have e1:bits BinOp.and IntKind.u64 (IntKind.u64.wrap (-11)) 31=21:=by decide
 have HR:=lh (wd_rot x 11);go_enter func308,ntmps308;go_wp2_with fail;go_ret;exact ⟨ret_int HR.out,rfl⟩
theorem right11 (x:Wd) (w:World):Calls prog 270 #[.int .u32 x.toNat,.int .i64 11] w fun e w'=>e=.returned (.int .u32 (rotr x 11).toNat)/\w'=w:=by
 have HR:=lh (rot11 x w);generalize rotr x 11=y at *;go_enter func270,ntmps270;go_wp2_with fail;refine HR.out.mono ?_;rintro e w1 ⟨rfl,rfl⟩;go_wp2_with fail;go_ret;exact ⟨rfl,rfl⟩
theorem rot13 (x:Wd) (w:World):Calls prog 308 #[.int .u32 x.toNat,.int .i64 (-13)] w fun e w'=>e=.returned (.int .u32 (rotr x 13).toNat)/\w'=w:=by
 have e1:bits BinOp.and IntKind.u64 (IntKind.u64.wrap (-13)) 31=19:=by decide
 have HR:=lh (wd_rot x 13);go_enter func308,ntmps308;go_wp2_with fail;go_ret;exact ⟨ret_int HR.out,rfl⟩
theorem right13 (x:Wd) (w:World):Calls prog 270 #[.int .u32 x.toNat,.int .i64 13] w fun e w'=>e=.returned (.int .u32 (rotr x 13).toNat)/\w'=w:=by
 have HR:=lh (rot13 x w);generalize rotr x 13=y at *;go_enter func270,ntmps270;go_wp2_with fail;refine HR.out.mono ?_;rintro e w1 ⟨rfl,rfl⟩;go_wp2_with fail;go_ret;exact ⟨rfl,rfl⟩
theorem rot17 (x:Wd) (w:World):Calls prog 308 #[.int .u32 x.toNat,.int .i64 (-17)] w fun e w'=>e=.returned (.int .u32 (rotr x 17).toNat)/\w'=w:=by
 have e1:bits BinOp.and IntKind.u64 (IntKind.u64.wrap (-17)) 31=15:=by decide
 have HR:=lh (wd_rot x 17);go_enter func308,ntmps308;go_wp2_with fail;go_ret;exact ⟨ret_int HR.out,rfl⟩
theorem right17 (x:Wd) (w:World):Calls prog 270 #[.int .u32 x.toNat,.int .i64 17] w fun e w'=>e=.returned (.int .u32 (rotr x 17).toNat)/\w'=w:=by
 have HR:=lh (rot17 x w);generalize rotr x 17=y at *;go_enter func270,ntmps270;go_wp2_with fail;refine HR.out.mono ?_;rintro e w1 ⟨rfl,rfl⟩;go_wp2_with fail;go_ret;exact ⟨rfl,rfl⟩
theorem rot18 (x:Wd) (w:World):Calls prog 308 #[.int .u32 x.toNat,.int .i64 (-18)] w fun e w'=>e=.returned (.int .u32 (rotr x 18).toNat)/\w'=w:=by
 have e1:bits BinOp.and IntKind.u64 (IntKind.u64.wrap (-18)) 31=14:=by decide
 have HR:=lh (wd_rot x 18);go_enter func308,ntmps308;go_wp2_with fail;go_ret;exact ⟨ret_int HR.out,rfl⟩
theorem right18 (x:Wd) (w:World):Calls prog 270 #[.int .u32 x.toNat,.int .i64 18] w fun e w'=>e=.returned (.int .u32 (rotr x 18).toNat)/\w'=w:=by
 have HR:=lh (rot18 x w);generalize rotr x 18=y at *;go_enter func270,ntmps270;go_wp2_with fail;refine HR.out.mono ?_;rintro e w1 ⟨rfl,rfl⟩;go_wp2_with fail;go_ret;exact ⟨rfl,rfl⟩
theorem rot19 (x:Wd) (w:World):Calls prog 308 #[.int .u32 x.toNat,.int .i64 (-19)] w fun e w'=>e=.returned (.int .u32 (rotr x 19).toNat)/\w'=w:=by
 have e1:bits BinOp.and IntKind.u64 (IntKind.u64.wrap (-19)) 31=13:=by decide
 have HR:=lh (wd_rot x 19);go_enter func308,ntmps308;go_wp2_with fail;go_ret;exact ⟨ret_int HR.out,rfl⟩
theorem right19 (x:Wd) (w:World):Calls prog 270 #[.int .u32 x.toNat,.int .i64 19] w fun e w'=>e=.returned (.int .u32 (rotr x 19).toNat)/\w'=w:=by
 have HR:=lh (rot19 x w);generalize rotr x 19=y at *;go_enter func270,ntmps270;go_wp2_with fail;refine HR.out.mono ?_;rintro e w1 ⟨rfl,rfl⟩;go_wp2_with fail;go_ret;exact ⟨rfl,rfl⟩
theorem rot22 (x:Wd) (w:World):Calls prog 308 #[.int .u32 x.toNat,.int .i64 (-22)] w fun e w'=>e=.returned (.int .u32 (rotr x 22).toNat)/\w'=w:=by
 have e1:bits BinOp.and IntKind.u64 (IntKind.u64.wrap (-22)) 31=10:=by decide
 have HR:=lh (wd_rot x 22);go_enter func308,ntmps308;go_wp2_with fail;go_ret;exact ⟨ret_int HR.out,rfl⟩
theorem right22 (x:Wd) (w:World):Calls prog 270 #[.int .u32 x.toNat,.int .i64 22] w fun e w'=>e=.returned (.int .u32 (rotr x 22).toNat)/\w'=w:=by
 have HR:=lh (rot22 x w);generalize rotr x 22=y at *;go_enter func270,ntmps270;go_wp2_with fail;refine HR.out.mono ?_;rintro e w1 ⟨rfl,rfl⟩;go_wp2_with fail;go_ret;exact ⟨rfl,rfl⟩
theorem rot25 (x:Wd) (w:World):Calls prog 308 #[.int .u32 x.toNat,.int .i64 (-25)] w fun e w'=>e=.returned (.int .u32 (rotr x 25).toNat)/\w'=w:=by
 have e1:bits BinOp.and IntKind.u64 (IntKind.u64.wrap (-25)) 31=7:=by decide
 have HR:=lh (wd_rot x 25);go_enter func308,ntmps308;go_wp2_with fail;go_ret;exact ⟨ret_int HR.out,rfl⟩
theorem right25 (x:Wd) (w:World):Calls prog 270 #[.int .u32 x.toNat,.int .i64 25] w fun e w'=>e=.returned (.int .u32 (rotr x 25).toNat)/\w'=w:=by
 have HR:=lh (rot25 x w);generalize rotr x 25=y at *;go_enter func270,ntmps270;go_wp2_with fail;refine HR.out.mono ?_;rintro e w1 ⟨rfl,rfl⟩;go_wp2_with fail;go_ret;exact ⟨rfl,rfl⟩
theorem right_any (x:Wd) (n:Int) (w:World) (hn:rotOk n=true):Calls prog 270 #[.int .u32 x.toNat,.int .i64 n] w fun e w'=>e=.returned (.int .u32 (rotr x n.toNat).toNat)/\w'=w:=by
 have:n=2\/n=6\/n=7\/n=11\/n=13\/n=17\/n=18\/n=19\/n=22\/n=25:=by simpa [rotOk] using hn
 rcases this with rfl | rfl | rfl | rfl | rfl | rfl | rfl | rfl | rfl | rfl
 ·exact right2 x w
 ·exact right6 x w
 ·exact right7 x w
 ·exact right11 x w
 ·exact right13 x w
 ·exact right17 x w
 ·exact right18 x w
 ·exact right19 x w
 ·exact right22 x w
 ·exact right25 x w
end
section
def wv (x:Wd):Value:=.int .u32 x.toNat
def bv (x:UInt8):Value:=.int .u8 x.toNat
def wArr (r:List UInt8) (k:Nat):Array Value:=((wordsL r k).map wv++List.replicate (64 - k) (Value.int .u32 0)).toArray
def wObj (r:List UInt8) (k:Nat):Obj:=.cells (wArr r k) 338 (0,0)
theorem wArr_size (r:List UInt8) (k:Nat) (h:k<=64):(wArr r k).size=64:=by
 simp [wArr,wordsL_len];omega
theorem wArr_at (r:List UInt8) (k j:Nat) (h:j<k):(wArr r k)[j]?=some (wv ((wordsL r k).getD j 0)):=by
 unfold wArr;rw [List.getElem?_toArray,List.getElem?_append_left (by simp [wordsL_len,h]),List.getElem?_map,wordsL_at r k j h,List.getD_eq_getElem?_getD,wordsL_at r k j h];rfl
theorem wArr_zero (r:List UInt8) (k j:Nat) (h:k<=j) (hj:j<64):(wArr r k)[j]?=some (.int .u32 0):=by
 unfold wArr;rw [List.getElem?_toArray,List.getElem?_append_right (by simp [wordsL_len,h]),List.getElem?_replicate,if_pos (by simp [wordsL_len];omega)]
theorem wArr_set (r:List UInt8) (k:Nat) (h:k<64):(wArr r k).setIfInBounds k (wv (nextW r (wordsL r k) k))=wArr r (k+1):=by
 apply Array.ext_getElem?;intro j;rw [Array.getElem?_setIfInBounds];split
 ·subst_vars
  rw [if_pos (by rw [wArr_size r _ (by omega)];omega),wArr_at r (j+1) j (by omega),List.getD_eq_getElem?_getD,wordsL_at r (j+1) j (by omega)];rfl
 ·rename_i hne;by_cases h1:j<k
  ·rw [wArr_at r k j h1,wArr_at r (k+1) j (by omega),List.getD_eq_getElem?_getD,List.getD_eq_getElem?_getD,wordsL_at r k j h1,wordsL_at r (k+1) j (by omega)]
  ·by_cases h2:j<64
   ·rw [wArr_zero r k j (by omega) h2,wArr_zero r (k+1) j (by omega) h2]
   ·rw [Array.getElem?_eq_none (by rw [wArr_size r k (by omega)];omega),Array.getElem?_eq_none (by rw [wArr_size r (k+1) (by omega)];omega)]
theorem word_eq (r:List UInt8) (k:Nat) (x0 x1 x2 x3:UInt8) (hk:k<16) (h0:r[4*k+0]?=some x0) (h1:r[4*k+1]?=some x1) (h2:r[4*k+2]?=some x2) (h3:r[4*k+3]?=some x3) :
  bits BinOp.or IntKind.u32 (bits BinOp.or IntKind.u32 (bits BinOp.or IntKind.u32 ((x0.toNat:Int) % 4294967296*16777216 % 4294967296) ((x1.toNat:Int) % 4294967296*65536 % 4294967296)) ((x2.toNat:Int) % 4294967296*256 % 4294967296)) ((x3.toNat:Int) % 4294967296)=((nextW r (wordsL r k) k).toNat:Int):=by
 have b0:=x0.toNat_lt;have b1:=x1.toNat_lt;have b2:=x2.toNat_lt;have b3:=x3.toNat_lt
 rw [show (x0.toNat:Int) % 4294967296*16777216 % 4294967296=((x0.toNat*16777216:Nat):Int) from by omega,
  show (x1.toNat:Int) % 4294967296*65536 % 4294967296=((x1.toNat*65536:Nat):Int) from by omega,
  show (x2.toNat:Int) % 4294967296*256 % 4294967296=((x2.toNat*256:Nat):Int) from by omega,
  show (x3.toNat:Int) % 4294967296=(x3.toNat:Int) from by omega]
 rw [u32_or_nat _ _ (by omega) (by omega),nat_join 24 _ _ (by omega) (by omega),
  u32_or_nat _ _ (by omega) (by omega),nat_join 16 _ _ (by omega) (by omega),
  u32_or_nat _ _ (by omega) (by omega),nat_join 8 _ _ (by omega) (by omega)]
 unfold nextW wordAt;rw [if_pos hk,List.getD_eq_getElem?_getD,List.getD_eq_getElem?_getD,List.getD_eq_getElem?_getD,List.getD_eq_getElem?_getD,h1,h2,h3,show r[4*k]?=some x0 from h0];simp only [Option.getD_some,BitVec.toNat_ofNat];omega
theorem wd_shr3 (x:Wd):(x.toNat:Int) / (8:Int)=((x >>> 3).toNat:Int):=wd_shr x 3
theorem wd_shr10 (x:Wd):(x.toNat:Int) / (1024:Int)=((x >>> 10).toNat:Int):=wd_shr x 10
theorem sched_eq (x0 x1 x9 x14 y:Wd) (h:x0+sg0 x1+x9+sg1 x14=y) :
  ((x0.toNat+bits BinOp.xor IntKind.u32 (bits BinOp.xor IntKind.u32 ((rotr x1 7).toNat:Int) (rotr x1 18).toNat) ((x1.toNat:Int) / (8:Int))+x9.toNat) % 4294967296+bits BinOp.xor IntKind.u32 (bits BinOp.xor IntKind.u32 ((rotr x14 17).toNat:Int) (rotr x14 19).toNat) ((x14.toNat:Int) / (1024:Int))) % 4294967296=(y.toNat:Int):=by
 rw [wd_xor,wd_xor,wd_shr3,wd_shr10,wd_xor,wd_xor,<-h];unfold sg0 sg1;rw [BitVec.toNat_add,BitVec.toNat_add,BitVec.toNat_add];omega
theorem wd_not (x:Wd):bits BinOp.xor IntKind.u32 IntKind.u32.max (x.toNat:Int)=((~~~x).toNat:Int):=by
 rw [show IntKind.u32.max=(((BitVec.allOnes 32:Wd).toNat:Nat):Int) from by decide,wd_xor,BitVec.allOnes_xor]
theorem xr_eq (e f g h kk ww:Wd):((h.toNat:Int)+bits BinOp.xor IntKind.u32 (bits BinOp.xor IntKind.u32 ((rotr e 6).toNat:Int) (rotr e 11).toNat) (rotr e 25).toNat+bits BinOp.xor IntKind.u32 (bits BinOp.and IntKind.u32 (e.toNat:Int) f.toNat) (bits BinOp.and IntKind.u32 (bits BinOp.xor IntKind.u32 IntKind.u32.max (e.toNat:Int)) g.toNat)+kk.toNat+ww.toNat) % 4294967296=((h+big1 e+chw e f g+kk+ww).toNat:Int):=by
 rw [wd_not,wd_xor,wd_xor,wd_and,wd_and,wd_xor];unfold big1 chw;rw [BitVec.toNat_add,BitVec.toNat_add,BitVec.toNat_add,BitVec.toNat_add];omega
theorem yr_eq (a b c:Wd):(bits BinOp.xor IntKind.u32 (bits BinOp.xor IntKind.u32 ((rotr a 2).toNat:Int) (rotr a 13).toNat) (rotr a 22).toNat+bits BinOp.xor IntKind.u32 (bits BinOp.xor IntKind.u32 (bits BinOp.and IntKind.u32 (a.toNat:Int) b.toNat) (bits BinOp.and IntKind.u32 (a.toNat:Int) c.toNat)) (bits BinOp.and IntKind.u32 (b.toNat:Int) c.toNat)) % 4294967296=((big0 a+mjw a b c).toNat:Int):=by
 rw [wd_xor,wd_xor,wd_and,wd_and,wd_and,wd_xor,wd_xor];unfold big0 mjw;rw [BitVec.toNat_add];omega
def V8.get (v:V8):Array Value:=#[wv v.a,wv v.b,wv v.c,wv v.d,wv v.e,wv v.f,wv v.g,wv v.h]
def vObj (v:V8):Obj:=.cells v.get 292 (0,0)
def stC (l:List Wd) (r:List UInt8) (n:Int):Array Value:=(l.map wv++(r.map bv++[Value.int .i64 n,.bool true])).toArray
def stObj (l:List Wd) (r:List UInt8) (n:Int):Obj:=.cells (stC l r n) 295 (0,0)
theorem stC_word (l:List Wd) (r:List UInt8) (n:Int) (k:Nat) (x:Wd) (h:l[k]?=some x):(stC l r n)[k]?=some (.int .u32 x.toNat):=by
 have hk:k<l.length:=(List.getElem?_eq_some_iff.1 h).1;unfold stC;rw [List.getElem?_toArray,List.getElem?_append_left (by simpa using hk),List.getElem?_map,h];rfl
theorem stC_byte (l:List Wd) (r:List UInt8) (n:Int) (k:Nat) (x:UInt8) (hl:l.length=8) (h:r[k]?=some x):(stC l r n)[8+k]?=some (.int .u8 x.toNat):=by
 have hk:k<r.length:=(List.getElem?_eq_some_iff.1 h).1;unfold stC;rw [List.getElem?_toArray,List.getElem?_append_right (by simp [hl]),List.getElem?_append_left (by simp [hl,hk]),List.getElem?_map];simp [hl,h,bv]
theorem stC_set (l:List Wd) (r:List UInt8) (n:Int) (k:Nat) (x:Wd) (h:k<l.length):(stC l r n).setIfInBounds k (wv x)=stC (l.set k x) r n:=by
 unfold stC;rw [List.setIfInBounds_toArray,List.set_append_left _ _ (by simpa using h),List.map_set]
theorem stObj_set (l:List Wd) (r:List UInt8) (n:Int) (k:Nat) (x:Wd) (h:k<l.length):Obj.cells ((stC l r n).setIfInBounds k (wv x)) 295 (0,0)=stObj (l.set k x) r n:=by rw [stC_set _ _ _ _ _ h];rfl
def mixL (a b:List Wd) (k:Nat):List Wd:=a.take k++b.drop k
theorem mixL_len (a b:List Wd) (k:Nat) (ha:a.length=8) (hb:b.length=8) (h:k<=8):(mixL a b k).length=8:=by simp [mixL,ha,hb];omega
theorem mixL_at (a b:List Wd) (k:Nat) (ha:a.length=8) (h:k<8):(mixL a b k)[k]?=b[k]?:=by
 unfold mixL;rw [List.getElem?_append_right (by simp [ha];omega)];simp [ha,show min k 8=k from by omega]
theorem mixL_set (a b:List Wd) (k:Nat) (x:Wd) (ha:a.length=8) (hb:b.length=8) (h:k<8) (hx:a[k]?=some x):(mixL a b k).set k x=mixL a b (k+1):=by
 unfold mixL;rw [List.set_append,if_neg (by simp [ha];omega),List.take_add_one,hx];simp only [List.length_take,ha,show min k 8=k from by omega,Nat.sub_self,Option.toList_some,List.append_assoc,List.cons_append,List.nil_append];rw [List.drop_eq_getElem_cons (show k<b.length by omega)];rfl
def Touch (b:Nat) (w w':World):Prop:=w.grownBy w' (some b)
theorem Touch.of {b:Nat} {w w':World} (h:Ext w w'):Touch b w w':=⟨h.os,h.tape,h.output,h.size,fun _ hi _=>h.block hi⟩
theorem Touch.trans {b:Nat} {u v w:World} (h:Touch b u v) (k:Touch b v w):Touch b u w:=World.grownBy.andThen h k fun _ e=>.inr e
theorem Touch.setCell {b k:Nat} {w w':World} (h:Touch b w w') (u:Value):Touch b w (w'.setCell ⟨b,k,none⟩ u):=by
 refine h.trans ⟨rfl,rfl,rfl,by simp [World.setCell],fun i _ hne=>setCellO fun e=>hne (by rw [e])⟩
set_option maxHeartbeats 4000000 in
set_option maxRecDepth 100000 in
theorem block_any (s:V8) (r:List UInt8) (n:Int) (bs:Nat) (w:World) (hr:r.length=64) (hst:w.heap[bs]?=some (stObj s.list r n)) (hk:∀ k,k<64->w.cell? ⟨1,k,none⟩=some (.int .u32 (kAt k).toNat)) :
  Calls prog 212 #[.pointer (some ⟨bs,0,none⟩),.slice (some ⟨bs,8,none⟩) 64 64] w fun e w'=>e=.returned (.tuple #[])/\w'.heap[bs]?=some (stObj (comp s r).list r n)/\Touch bs w w':=by
 have hb:∀ (k:Nat) x,r[k]?=some x->w.cell? ⟨bs,8+k,none⟩=some (bv x):=fun k x h=>(cellB hst).trans (stC_byte _ _ _ k x rfl h);have HST:=lh hst;clear hst;have HB:=lh hb;have HK:=lh hk;clear hb hk;go_enter func212,ntmps212;go_wp2_with fail;go_loopw [15] (fun i wr=>Hid (∃ k:Nat,k<=64/\i=.int .i64 k/\Ext w wr/\wr.heap[w.heap.size]?=some (wObj r k))) (fun i _=>64 - (intOf i).toNat)
 case atStart=>exact ⟨0,by omega,rfl,(Ext.refl w).alloc _,heap_alloc_new _ _⟩
 case round =>
  obtain ⟨k,hk,rfl,hx,hwb⟩:=hrel.out;clear hrel;have HX:=lh hx;have HW:=lh hwb;clear hx hwb;by_cases hlt:k<64
  ·have hfr:∀ v:After wr,v.v.frozen? ⟨w.heap.size,k,none⟩=false:=fun v=>frozenB ((v.x.block (ltB HW.out)).trans HW.out);have hzz:∀ v:After wr,v.v.cell? ⟨w.heap.size,k,none⟩=some (.int .u32 0):=fun v=>(cellB ((v.x.block (ltB HW.out)).trans HW.out)).trans (wArr_zero r k k (Nat.le_refl _) hlt);by_cases h16:k<16
   ·have hp:∀ j,j<4->∃ x,r[4*k+j]?=some x/\∀ v:After wr,v.v.cell? ⟨bs,8+(4*k+j),none⟩=some (.int .u8 x.toNat):=fun j hj=>by
     obtain ⟨x,hx⟩:∃ x,r[4*k+j]?=some x:=⟨_,List.getElem?_eq_getElem (by omega)⟩;exact ⟨x,hx,fun v=>After.cell ((HX.out.cell (lt_of_cell (HB.out _ _ hx))).trans (HB.out _ _ hx)) v⟩
    obtain ⟨x0,q0,p0⟩:=hp 0 (by omega)
    replace p0:∀ v:After wr,v.v.cell? ⟨bs,8+4*k,none⟩=some (.int .u8 x0.toNat):=p0
    obtain ⟨x1,q1,p1⟩:=hp 1 (by omega);obtain ⟨x2,q2,p2⟩:=hp 2 (by omega);obtain ⟨x3,q3,p3⟩:=hp 3 (by omega);have HE:=lh (word_eq r k x0 x1 x2 x3 h16 q0 q1 q2 q3);clear hp q0 q1 q2 q3;go_wp2_with fail;refine wp_region_after_tail 35 (by kernel_rfl) (by kernel_rfl) ?_;simp only [List.take_succ_cons,List.take_zero,List.drop_succ_cons,List.drop_zero]
    repeat (go_big_quiet_step (fail))
    refine wpQuiet_nil ?_;rintro _ ⟨y,rfl⟩;rw [HE.out];have HY:=lh y.x;go_wp2_with fail;go_roundw
    case rel=>exact ⟨k+1,by omega,by go_num,(HX.out.trans HY.out).setCell (Nat.le_refl _) _,by rw [setCellB ((HY.out.block (ltB HW.out)).trans HW.out)];exact congrArg (fun a=>some (Obj.cells a 338 (0,0))) (wArr_set r k hlt)⟩
    case measure=>simp [intOf];omega
   ·obtain ⟨m,rfl⟩:∃ m,k=m+16:=⟨k - 16,by omega⟩;have hq:∀ j,j<16->∀ v:After wr,v.v.cell? ⟨w.heap.size,m+j,none⟩=some (.int .u32 ((wordsL r (m+16)).getD (m+j) 0).toNat):=fun j hj v=>(cellB ((v.x.block (ltB HW.out)).trans HW.out)).trans (wArr_at r (m+16) (m+j) (by omega));obtain ⟨x0,g0⟩:∃ x,x=(wordsL r (m+16)).getD m 0:=⟨_,rfl⟩;obtain ⟨x1,g1⟩:∃ x,x=(wordsL r (m+16)).getD (m+1) 0:=⟨_,rfl⟩;obtain ⟨x9,g9⟩:∃ x,x=(wordsL r (m+16)).getD (m+9) 0:=⟨_,rfl⟩;obtain ⟨x14,g14⟩:∃ x,x=(wordsL r (m+16)).getD (m+14) 0:=⟨_,rfl⟩;have p0:∀ v:After wr,v.v.cell? ⟨w.heap.size,m,none⟩=some (.int .u32 x0.toNat):=fun v=>by rw [g0];exact hq 0 (by omega) v
    have p1:∀ v:After wr,v.v.cell? ⟨w.heap.size,m+1,none⟩=some (.int .u32 x1.toNat):=fun v=>by rw [g1];exact hq 1 (by omega) v
    have p9:∀ v:After wr,v.v.cell? ⟨w.heap.size,m+9,none⟩=some (.int .u32 x9.toNat):=fun v=>by rw [g9];exact hq 9 (by omega) v
    have p14:∀ v:After wr,v.v.cell? ⟨w.heap.size,m+14,none⟩=some (.int .u32 x14.toNat):=fun v=>by rw [g14];exact hq 14 (by omega) v
    have HE:=lh (sched_eq x0 x1 x9 x14 _ (show x0+sg0 x1+x9+sg1 x14=nextW r (wordsL r (m+16)) (m+16) from by
     unfold nextW
     rw [if_neg (by omega),g0,g1,g9,g14,show m+16 - 16=m from by omega,show m+16 - 15=m+1 from by omega,show m+16 - 7=m+9 from by omega,show m+16 - 2=m+14 from by omega]))
    clear hq g0 g1 g9 g14;go_wp2_with fail;refine wp_region_after (by kernel_rfl) (by kernel_rfl) ?_
    repeat (go_big_quiet_step (fail))
    refine wpQuiet_nil ?_;rintro _ ⟨y,rfl⟩;have HY:=lh y.x;go_wp2_with fail;refine wp_region_after_tail0 y 29 (by kernel_rfl) (by kernel_rfl) ?_;simp only [List.take_succ_cons,List.take_zero,List.drop_succ_cons,List.drop_zero]
    repeat (go_big_quiet_step ((go_at_call 270;exact After.same (right_any _ _ _ rfl))))
    refine wpQuiet_nil ?_;rintro _ ⟨y2,rfl⟩;rw [HE.out];have HY2:=lh y2.x;go_wp2_with fail;go_roundw
    case rel=>exact ⟨m+16+1,by omega,by go_num,(HX.out.trans HY2.out).setCell (Nat.le_refl _) _,by rw [setCellB ((HY2.out.block (ltB HW.out)).trans HW.out)];exact congrArg (fun a=>some (Obj.cells a 338 (0,0))) (wArr_set r (m+16) hlt)⟩
    case measure=>simp [intOf];omega
  ·have e64:k=64:=by omega
   have HW:=lh (e64▸HW.out);have HK64:=lh e64;clear e64;obtain ⟨wa,rfl⟩:∃ x,x=wr:=⟨_,rfl⟩;have hst:=(HX.out.block (ltB HST.out)).trans HST.out;have hsx:∀ (k:Nat) x,s.list[k]?=some x->wa.cell? ⟨bs,k,none⟩=some (.int .u32 x.toNat):=fun k x h=>(cellB hst).trans (stC_word _ _ _ k x h);clear hst;have s0:wa.cell? ⟨bs,0,none⟩=some (.int .u32 s.a.toNat):=hsx 0 _ rfl;have s1:wa.cell? ⟨bs,1,none⟩=some (.int .u32 s.b.toNat):=hsx 1 _ rfl;have s2:wa.cell? ⟨bs,2,none⟩=some (.int .u32 s.c.toNat):=hsx 2 _ rfl;have s3:wa.cell? ⟨bs,3,none⟩=some (.int .u32 s.d.toNat):=hsx 3 _ rfl;have s4:wa.cell? ⟨bs,4,none⟩=some (.int .u32 s.e.toNat):=hsx 4 _ rfl;have s5:wa.cell? ⟨bs,5,none⟩=some (.int .u32 s.f.toNat):=hsx 5 _ rfl;have s6:wa.cell? ⟨bs,6,none⟩=some (.int .u32 s.g.toNat):=hsx 6 _ rfl;have s7:wa.cell? ⟨bs,7,none⟩=some (.int .u32 s.h.toNat):=hsx 7 _ rfl;go_wp2_with fail;go_loopw [97] (fun i wr=>Hid (∃ k:Nat,k<=64/\i=.int .i64 k/\Ext wa wr/\wr.heap[wa.heap.size]?=some (vObj (rounds s (wordsL r 64) k)))) (fun i _=>64 - (intOf i).toNat)
   case atStart=>exact ⟨0,by omega,rfl,(Ext.refl wa).alloc _,heap_alloc_new _ _⟩
   case round =>
    obtain ⟨k2,hk2,rfl,hx,hvb⟩:=hrel.out;clear hrel hsx s0 s1 s2 s3 s4 s5 s6 s7;have HV:=lh hvb;have HXQ:=lh hx;have HWQ:=lh ((hx.block (ltB HW.out)).trans HW.out);by_cases hlt2:k2<64
    ·obtain ⟨V,gV⟩:∃ V,V=rounds s (wordsL r 64) k2:=⟨_,rfl⟩;obtain ⟨kk,gk⟩:∃ x,x=kAt k2:=⟨_,rfl⟩;obtain ⟨ww,gw⟩:∃ x,x=(wordsL r 64).getD k2 0:=⟨_,rfl⟩;rw [<-gV] at hvb;have HVE:=lh gV.symm;have HR:=lh (show rnd V kk ww=rounds s (wordsL r 64) (k2+1) from by rw [gV,gk,gw];rfl)
     have ck:∀ v:After wr,v.v.cell? ⟨1,k2,none⟩=some (.int .u32 kk.toNat):=fun v=>by
      have h1:=HK.out k2 hlt2;rw [<-gk] at h1;have h2:=(HX.out.cell (lt_of_cell h1)).trans h1;exact After.cell ((hx.cell (lt_of_cell h2)).trans h2) v
     have cw:∀ v:After wr,v.v.cell? ⟨w.heap.size,k2,none⟩=some (.int .u32 ww.toNat):=fun v=>(After.at HWQ.out v).trans (by rw [gw];exact wArr_at r 64 k2 hlt2);clear gV gk gw;have c0:∀ v:After wr,v.v.cell? ⟨wa.heap.size,0,none⟩=some (.int .u32 V.a.toNat):=After.at hvb;have c1:∀ v:After wr,v.v.cell? ⟨wa.heap.size,1,none⟩=some (.int .u32 V.b.toNat):=After.at hvb;have c2:∀ v:After wr,v.v.cell? ⟨wa.heap.size,2,none⟩=some (.int .u32 V.c.toNat):=After.at hvb;have c3:∀ v:After wr,v.v.cell? ⟨wa.heap.size,3,none⟩=some (.int .u32 V.d.toNat):=After.at hvb;have c4:∀ v:After wr,v.v.cell? ⟨wa.heap.size,4,none⟩=some (.int .u32 V.e.toNat):=After.at hvb;have c5:∀ v:After wr,v.v.cell? ⟨wa.heap.size,5,none⟩=some (.int .u32 V.f.toNat):=After.at hvb;have c6:∀ v:After wr,v.v.cell? ⟨wa.heap.size,6,none⟩=some (.int .u32 V.g.toNat):=After.at hvb;have c7:∀ v:After wr,v.v.cell? ⟨wa.heap.size,7,none⟩=some (.int .u32 V.h.toNat):=After.at hvb;have cf:∀ (v:After wr) (k2:Nat),v.v.frozen? ⟨wa.heap.size,k2,none⟩=false:=fun v k2=>After.free hvb v;clear hvb hx;go_wp2_with fail;refine wp_region_after (by kernel_rfl) (by kernel_rfl) ?_
     repeat (go_big_quiet_step (fail))
     refine wpQuiet_nil ?_;rintro _ ⟨y,rfl⟩;go_wp2_with fail;refine wp_region_after0 y (by kernel_rfl) (by kernel_rfl) ?_
     repeat (go_big_quiet_step ((go_at_call 270;exact After.same (right_any _ _ _ rfl))))
     refine wpQuiet_nil ?_;rintro _ ⟨y2,rfl⟩;go_wp2_with fail;refine wp_region_after0 y2 (by kernel_rfl) (by kernel_rfl) ?_
     repeat (go_big_quiet_step ((go_at_call 270;exact After.same (right_any _ _ _ rfl))))
     refine wpQuiet_nil ?_;rintro _ ⟨y3,rfl⟩;rw [xr_eq,yr_eq];obtain ⟨X,gX⟩:∃ X,X=V.h+big1 V.e+chw V.e V.f V.g+kk+ww:=⟨_,rfl⟩;obtain ⟨Y,gY⟩:∃ Y,Y=big0 V.a+mjw V.a V.b V.c:=⟨_,rfl⟩;rw [<-gX,<-gY];have HQ:=lh (show (⟨X+Y,V.a,V.b,V.c,V.d+X,V.e,V.f,V.g⟩:V8)=rounds s (wordsL r 64) (k2+1) from by rw [<-HR.out,gX,gY];rfl);have HY3:=lh y3.x;have hy3:=(HY3.out.block (ltB HV.out)).trans HV.out;rw [HVE.out] at hy3;have HY3B:=lh hy3;clear gX gY y y2 hy3;go_wp2_with (first | (refine wpList_buildAs #[.int .u32 (((X.toNat:Int)+Y.toNat) % 4294967296),.int .u32 V.a.toNat,.int .u32 V.b.toNat,.int .u32 V.c.toNat,.int .u32 (((V.d.toNat:Int)+X.toNat) % 4294967296),.int .u32 V.e.toNat,.int .u32 V.f.toNat,.int .u32 V.g.toNat] rfl _ _ rfl (by kernel_rfl) ?_;go_frame) | (refine wpList_store_row rfl _ _ _ rfl wa.heap.size #[.int .u32 (((X.toNat:Int)+Y.toNat) % 4294967296),.int .u32 V.a.toNat,.int .u32 V.b.toNat,.int .u32 V.c.toNat,.int .u32 (((V.d.toNat:Int)+X.toNat) % 4294967296),.int .u32 V.e.toNat,.int .u32 V.f.toNat,.int .u32 V.g.toNat] rfl rfl 292 V.get HY3B.out (by kernel_rfl) rfl (by kernel_rfl) ?_;go_frame));go_roundw
     case rel=>exact ⟨k2+1,by omega,by go_num,(HXQ.out.trans HY3.out).setRow (Nat.le_refl _) _,by rw [setRow_heap _ _ _ _ _ _ HY3B.out,<-HQ.out,wd_add,wd_add];rfl⟩
     case measure=>simp [intOf];omega
    ·have e64:k2=64:=by omega
     have HV:=lh (e64▸HV.out);clear e64;obtain ⟨wb,rfl⟩:∃ x,x=wr:=⟨_,rfl⟩;have HXB:=lh (HX.out.trans HXQ.out);have HSB:=lh ((HXB.out.block (ltB HST.out)).trans HST.out);obtain ⟨V,gV⟩:∃ V,V=rounds s (wordsL r 64) 64:=⟨_,rfl⟩;have HVB:=lh (show wb.heap[wa.heap.size]?=some (vObj V) from by rw [gV];exact HV.out);have HFIN:=lh (show s.add V=comp s r from by rw [gV];rfl);have hne:wa.heap.size≠bs:=fun e=>by have:=ltB HST.out;have:=HX.out.size;omega
     clear gV HV hx;go_wp2_with fail;go_loopw [177] (fun i wr=>Hid (∃ k:Nat,k<=8/\i=.int .i64 k/\Touch bs wb wr/\wr.heap[bs]?=some (stObj (mixL (s.add V).list s.list k) r n))) (fun i _=>8 - (intOf i).toNat)
     case atStart=>exact ⟨0,by omega,rfl,Touch.of (Ext.refl wb),HSB.out⟩
     case round =>
      obtain ⟨k3,hk3,rfl,ht,hs3⟩:=hrel.out;clear hrel;have HT:=lh ht;have HS3:=lh hs3;have hv3:wr.heap[wa.heap.size]?=some (vObj V):=(ht.block _ (ltB HVB.out) (fun e=>hne (Option.some.inj e))).trans HVB.out;by_cases hlt3:k3<8
      ·obtain ⟨x,hx⟩:∃ x,s.list[k3]?=some x:=⟨_,List.getElem?_eq_getElem (by show k3<8;exact hlt3)⟩;obtain ⟨y,hy⟩:∃ x,V.list[k3]?=some x:=⟨_,List.getElem?_eq_getElem (by show k3<8;exact hlt3)⟩
       have hxy:(s.add V).list[k3]?=some (x+y):=by
        rw [show (s.add V).list=List.zipWith (·+·) s.list V.list from rfl,List.getElem?_zipWith,hx,hy]
       have c1:∀ v:After wr,v.v.cell? ⟨bs,k3,none⟩=some (.int .u32 x.toNat):=fun v=>(After.at hs3 v).trans (stC_word _ _ _ k3 x (by rw [mixL_at _ _ _ rfl hlt3];exact hx));have c2:∀ v:After wr,v.v.cell? ⟨wa.heap.size,k3,none⟩=some (.int .u32 y.toNat):=fun v=>(After.at hv3 v).trans (by rw [show V.get=(V.list.map wv).toArray from rfl,List.getElem?_toArray,List.getElem?_map,hy];rfl);have cf:∀ v:After wr,v.v.frozen? ⟨bs,k3,none⟩=false:=fun v=>After.free hs3 v;obtain ⟨z,gz⟩:∃ z,z=x+y:=⟨_,rfl⟩;have HA:=lh (wd_add x y);rw [<-gz] at HA hxy;have HM:=lh (mixL_set (s.add V).list s.list k3 z rfl rfl hlt3 hxy);have HL:=lh (mixL_len (s.add V).list s.list k3 rfl rfl hk3);clear gz;clear hx hy hxy hs3 hv3 ht;go_wp2_with fail;refine wp_region_after_tail 13 (by kernel_rfl) (by kernel_rfl) ?_;simp only [List.take_succ_cons,List.take_zero,List.drop_succ_cons,List.drop_zero]
       repeat (go_big_quiet_step (fail))
       refine wpQuiet_nil ?_;rintro _ ⟨y3,rfl⟩;rw [HA.out];have HY:=lh y3.x;go_wp2_with fail;go_roundw
       case rel=>exact ⟨k3+1,by omega,by go_num,(HT.out.trans (Touch.of HY.out)).setCell _,by rw [setCellB ((HY.out.block (ltB HS3.out)).trans HS3.out),<-HM.out,<-stObj_set _ _ _ _ _ (by rw [HL.out];exact hlt3)];rfl⟩
       case measure=>simp [intOf];omega
      ·have e8:k3=8:=by omega
       have HS3:=lh (e8▸HS3.out);clear e8;go_wp2_with fail;go_end0;exact ⟨rfl,by rw [HS3.out,<-HFIN.out];rfl,(Touch.of HXB.out).trans HT.out⟩
end
section
def BytesOff (b:Nat) (w:World) (v:Value) (l:List UInt8):Prop :=
 ∃ (a:Option Addr) (cap:Nat),v=.slice a l.length cap/\l.length<=cap/\cap<=maxLen/\(0<l.length->∃ g o,a=some ⟨g,o,none⟩/\g≠b/\g<w.heap.size/\∀ (j:Nat) x,l[j]?=some x->w.cell? ⟨g,o+j,none⟩=some (bv x))
theorem cellT {b g o:Nat} {w w':World} (h:Touch b w w') (hg:g≠b) (hl:g<w.heap.size):w'.cell? ⟨g,o,none⟩=w.cell? ⟨g,o,none⟩:=by
 unfold World.cell?;rw [h.block g hl fun e=>hg (Option.some.inj e)]
theorem BytesOff.touch {b:Nat} {w w':World} {v:Value} {l:List UInt8} (h:BytesOff b w v l) (k:Touch b w w'):BytesOff b w' v l:=by
 obtain ⟨a,cap,h1,h2,h3,h4⟩:=h;refine ⟨a,cap,h1,h2,h3,fun hp=>?_⟩;obtain ⟨g,o,e1,e2,e3,e4⟩:=h4 hp;exact ⟨g,o,e1,e2,Nat.lt_of_lt_of_le e3 k.size,fun j x hj=>(cellT k e2 e3).trans (e4 j x hj)⟩
theorem wpList_copyT {P:Program} {w:World} {ops:Array Oper} {rest:List Oper} {o:Oper} {a:Act} {Q:Exit->Act->World->Prop} (hgd:o.guard=none) (d s:Operand) (dT sT:TypeId)
  (ho:o.op=.call { callee:=.builtin .copy,args:=#[d,s],argTypes:=#[dT,sT] }) (elem:TypeId) (hu:P.underlying dT=some (.slice elem)) (hsz:(P.info? elem).map (·.size)=some 1)
  (g off dLen dCap:Nat) (ad:Addr) (sLen sCap:Nat) (hd:a.eval d=.slice (some ⟨g,off,none⟩) dLen dCap) (hs:a.eval s=.slice (some ad) sLen sCap)
  (cur:Array Value) (t:TypeId) (hg:w.heap[g]?=some (.cells cur t (0,0))) (cs:List Value) (hn:cs.length=Nat.min sLen dLen)
  (hsrc:∀ j v,cs[j]?=some v->w.cell? (ad.add j)=some v) (hfit:off+cs.length<=cur.size) (h1:∀ v∈cs,v.oneCell'=true)
  (X:Array Value) (hX:(cur.toList.take off++(cs++cur.toList.drop (off+cs.length))).toArray=X) (k:Nat) (hk:cs.length=k)
  (h:∀ w1,w1.heap[g]?=some (.cells X t (0,0))->Touch g w w1->wpList P ops Q rest (a.put o.dst (.int .i64 k)) w1):wpList P ops Q (o::rest) a w:=by
 refine wpList_copy_own hgd d s dT sT ho elem hu hsz g off dLen dCap ad sLen sCap hd hs cur t hg cs hn hsrc hfit h1 ?_;rw [hX,show goInt cs.length=.int .i64 k from by rw [hk];rfl];refine h _ (setRow_heap _ _ _ _ _ _ hg) ⟨rfl,rfl,rfl,by rw [setRow_size];exact Nat.le_refl _,fun i _ hne=>setRow_other _ _ _ _ fun e=>hne (by rw [e])⟩
theorem stC_n (l:List Wd) (r:List UInt8) (n:Int) (hl:l.length=8) (hr:r.length=64):(stC l r n)[72]?=some (.int .i64 n):=by
 unfold stC;rw [List.getElem?_toArray,List.getElem?_append_right (by simp [hl]),List.getElem?_append_right (by simp [hl,hr])];simp [hl,hr]
theorem stC_made (l:List Wd) (r:List UInt8) (n:Int) (hl:l.length=8) (hr:r.length=64):(stC l r n)[73]?=some (.bool true):=by
 unfold stC;rw [List.getElem?_toArray,List.getElem?_append_right (by simp [hl]),List.getElem?_append_right (by simp [hl,hr])];simp [hl,hr]
theorem stC_setn (l:List Wd) (r:List UInt8) (n k:Int) (hl:l.length=8) (hr:r.length=64):(stC l r n).setIfInBounds 72 (.int .i64 k)=stC l r k:=by
 unfold stC;rw [List.setIfInBounds_toArray,List.set_append,if_neg (by simp [hl]),List.set_append,if_neg (by simp [hl,hr])];simp [hl,hr]
theorem stC_copy (l:List Wd) (r:List UInt8) (n:Int) (at':Nat) (cs:List UInt8) (hl:l.length=8) (hr:r.length=64) (h:at'+cs.length<=64) :
  ((stC l r n).toList.take (8+at')++(cs.map bv++(stC l r n).toList.drop (8+at'+(cs.map bv).length))).toArray=stC l (r.take at'++(cs++r.drop (at'+cs.length))) n:=by
 unfold stC
 congr 1
 rw [List.take_append,List.drop_append,List.take_append,List.drop_append];simp [hl,hr,List.take_of_length_le,List.map_append,List.map_take,List.map_drop];rw [show at' - 64=0 from by omega,List.drop_eq_nil_of_le (by simp [hl];omega),show 8+at'+cs.length - 8=at'+cs.length from by omega,show at'+cs.length - 64=0 from by omega];simp
def StAt (w:World) (bs:Nat) (m:List UInt8):Prop:=∃ r:List UInt8,r.length=64/\r.take (m.length % 64)=m.drop (64*(m.length / 64))/\w.heap[bs]?=some (stObj (digN m (m.length / 64)).list r m.length)
theorem StAt.ext {b:Nat} {w w':World} {m:List UInt8} (h:StAt w b m) (k:Ext w w'):StAt w' b m:=let ⟨r,h1,h2,h3⟩:=h;⟨r,h1,h2,(k.block (ltB h3)).trans h3⟩
theorem is_any (w:World) (bs:Nat) (m:List UInt8) (h:StAt w bs m):Calls prog 211 #[.pointer (some ⟨bs,0,none⟩)] w fun e w'=>e=.returned (.bool true)/\w'=w:=by
 obtain ⟨r,hr,_,hb⟩:=h;have c:=(cellB (k:=73) hb).trans (stC_made _ _ _ rfl hr);go_enter func211,ntmps211;go_wp2_with fail;go_ret;exact ⟨rfl,rfl⟩
end
section
def lenV:Value->Nat
 | .slice _ n _=>n
 | _=>0
theorem st_part (m cs r:List UInt8) (hr:r.length=64) (hp:r.take (m.length % 64)=m.drop (64*(m.length / 64))) (h:m.length % 64+cs.length<=64) :
  (r.take (m.length % 64)++(cs++r.drop (m.length % 64+cs.length))).length=64/\(r.take (m.length % 64)++(cs++r.drop (m.length % 64+cs.length))).take (m.length % 64+cs.length)=(m++cs).drop (64*(m.length / 64)):=by
 have hl:(r.take (m.length % 64)).length=m.length % 64:=by simp [hr];omega
 constructor
 ·simp only [List.length_append,hl,List.length_drop,hr];omega
 ·rw [List.take_append,hl,List.take_of_length_le (by rw [hl];omega),show m.length % 64+cs.length - m.length % 64=cs.length from by omega,List.take_left',List.drop_append_of_le_length (by omega),hp];rfl
theorem st_less {m cs:List UInt8} (h:m.length % 64+cs.length<64):(m++cs).length / 64=m.length / 64/\(m++cs).length % 64=m.length % 64+cs.length:=by
 rw [List.length_append];omega
theorem st_full {m cs r:List UInt8} (hr:r.length=64) (hp:r.take (m.length % 64)=m.drop (64*(m.length / 64))) (h:m.length % 64+cs.length=64) :
  (m++cs).length / 64=m.length / 64+1/\(m++cs).length % 64=0/\digN (m++cs) ((m++cs).length / 64)=comp (digN m (m.length / 64)) (r.take (m.length % 64)++(cs++r.drop (m.length % 64+cs.length))):=by
 have e1:(m++cs).length / 64=m.length / 64+1:=by rw [List.length_append];omega
 refine ⟨e1,by rw [List.length_append];omega,?_⟩;obtain ⟨h1,h2⟩:=st_part m cs r hr hp (by omega);rw [e1]
 show comp (digN (m++cs) (m.length / 64)) _=_
 rw [digN_app m cs _ (by omega)]
 congr 1
 rw [h] at h1 h2 ⊢;rw [<-h2,List.take_take,show min 64 64=64 from rfl,List.take_of_length_le (by omega)]
theorem min_facts {L a k:Nat} (h:Nat.min L (64 - a)=k) (h0:0<L) (ha:a<64):0<k/\k<=L/\a+k<=64/\(a+k=64\/k=L):=by
 have:Nat.min L (64 - a)=min L (64 - a):=rfl;omega
theorem bytesOff_drop {b g o L cap k:Nat} {w:World} {rem:List UInt8} (h:BytesOff b w (.slice (some ⟨g,o,none⟩) L cap) rem) (hL:rem.length=L) (hk:k<=L):BytesOff b w (.slice (some ⟨g,o+k,none⟩) (L - k) (cap - k)) (rem.drop k):=by
 obtain ⟨a,cap',e,h1,h2,h3⟩:=h;injection e with e1 e2 e3
 subst e1 e3;refine ⟨_,cap - k,by rw [List.length_drop,hL],by rw [List.length_drop];omega,by omega,fun hp=>?_⟩;rw [List.length_drop] at hp;obtain ⟨g',o',e,h4,h5,h6⟩:=h3 (by omega);injection e with e
 injection e with e1 e2
 subst e1 e2;exact ⟨g,o+k,rfl,h4,h5,fun j x hj=>by rw [List.getElem?_drop] at hj;rw [Nat.add_assoc];exact h6 _ _ hj⟩
theorem bytesOff_none {b k L:Nat} {a:Option Addr} {cap:Nat} {w:World} {rem:List UInt8} (hL:rem.length=L) (hk:L<=k) (hc:cap<=maxLen):BytesOff b w (.slice a 0 cap) (rem.drop k):=by
 have h0:(rem.drop k).length=0:=by rw [List.length_drop];omega
 refine ⟨a,cap,by rw [h0],by rw [h0];omega,hc,fun hp=>by omega⟩
theorem slice_rest (bs k:Nat) (w:World) (h:k<64):(Instr.sliceAt 293 (.pointer (some ⟨bs,8,none⟩)) (some (.int .i64 k)) none none).run prog w=.ok (.slice (some ⟨bs,8+k,none⟩) (64 - k) (64 - k)) w:=by
 have hl:prog.arrayLen 293=64:=by kernel_rfl
 have hs:(sizeOf (prog.elem 293)).run prog w=.ok 1 w:=by kernel_rfl
 rw [run_sliceAt_array_l w 293 ⟨bs,8,none⟩ (by kernel_rfl) .i64 k (by omega) (by rw [hl];omega),hs,hl];simp [slicedAt,Result.andThen,Addr.add,show ¬ (64=k) from by omega]
theorem slice_whole (bs:Nat) (w:World):(Instr.sliceAt 293 (.pointer (some ⟨bs,8,none⟩)) none none none).run prog w=.ok (.slice (some ⟨bs,8,none⟩) 64 64) w:=by
 have hl:prog.arrayLen 293=64:=by kernel_rfl
 have hs:(sizeOf (prog.elem 293)).run prog w=.ok 1 w:=by kernel_rfl
 rw [run_sliceAt_array_all w 293 ⟨bs,8,none⟩ (by kernel_rfl),hs,hl];simp [slicedAt,Result.andThen,Addr.add]
set_option maxHeartbeats 4000000 in
set_option maxRecDepth 100000 in
theorem write_any (m b:List UInt8) (bs:Nat) (v:Value) (w:World) (hst:StAt w bs m) (hv:BytesOff bs w v b) (hk:∀ k,k<64->w.cell? ⟨1,k,none⟩=some (.int .u32 (kAt k).toNat)) (hg:1≠bs) (hm:m.length+b.length<=1099511627776) :
  Calls prog 138 #[.pointer (some ⟨bs,0,none⟩),v] w fun e w'=>e=.returned (.int .i64 0)/\StAt w' bs (m++b)/\Touch bs w w':=by
 have HIS:=lh (is_any w bs m hst);have HST:=lh hst;have HV:=lh hv;have HK:=lh hk;clear hst hv hk;go_enter func138,ntmps138;go_wp2_with fail;refine HIS.out.mono ?_;rintro e w1 ⟨rfl,hw1⟩;obtain rfl:=hw1.symm;clear hw1;go_wp2_with fail;go_loopw [1] (fun v wr=>Hid (∃ done rem:List UInt8,b=done++rem/\BytesOff bs wr v rem/\StAt wr bs (m++done)/\Touch bs w wr)) (fun v _=>lenV v)
 case atStart=>exact ⟨[],b,rfl,HV.out,by rw [List.append_nil];exact HST.out,Touch.of (Ext.refl w)⟩
 case round =>
  obtain ⟨done,rem,hb,hv,hs,ht⟩:=hrel.out;clear hrel HIS HV HST;have HV:=lh hv;obtain ⟨a,cap,rfl,h1,h2,h3⟩:=hv;unfold maxLen at h2;have HB:=lh hb;have HS:=lh hs;have HT:=lh ht;have hlen:b.length=done.length+rem.length:=by rw [hb,List.length_append]
  by_cases h0:rem.length=0
  ·have HF:=lh (show StAt wr bs (m++b) from by rw [hb,List.length_eq_zero_iff.1 h0,List.append_nil];exact hs);clear hb hs ht h3;go_wp2_with fail;go_ret;exact ⟨rfl,HF.out,HT.out⟩
  ·obtain ⟨g,o,rfl,h4,h5,h6⟩:=h3 (Nat.pos_of_ne_zero h0);clear h3;obtain ⟨r,hr,hp,hbs⟩:=hs;obtain ⟨m',hm'⟩:∃ m',m'=m++done:=⟨_,rfl⟩;have hml:m'.length=m.length+done.length:=by rw [hm',List.length_append]
   rw [<-hm'] at hp hbs;obtain ⟨n,hn⟩:∃ n,n=m'.length:=⟨_,rfl⟩;obtain ⟨at',hat⟩:∃ x,x=n % 64:=⟨_,rfl⟩;have hat64:at'<64:=by omega
   generalize hL:rem.length=L at *;obtain ⟨k,hk⟩:∃ k,Nat.min L (64 - at')=k:=⟨_,rfl⟩;obtain ⟨hk0,hkL,hkat,hor⟩:=min_facts hk (by omega) hat64;obtain ⟨cs,hcs⟩:∃ cs,cs=rem.take k:=⟨_,rfl⟩;have hcl:cs.length=k:=by rw [hcs,List.length_take];omega
   have hbs2:wr.heap[bs]?=some (.cells (stC (digN m' (n / 64)).list r n) 295 (0,0)):=by rw [hn];exact hbs
   have c72:wr.cell? ⟨bs,72,none⟩=some (.int .i64 n):=(cellB hbs2).trans (stC_n _ _ _ rfl hr);have hmod:(n:Int) % 64=at':=by omega
   have hsrc:∀ j u,(cs.map bv)[j]?=some u->wr.cell? ((⟨g,o,none⟩:Addr).add j)=some u:=fun j u hj=>by
    rw [List.getElem?_map,Option.map_eq_some_iff] at hj;obtain ⟨x,hx,rfl⟩:=hj;rw [hcs] at hx;rw [show (⟨g,o,none⟩:Addr).add j=⟨g,o+j,none⟩ from by simp [Addr.add]];exact h6 j x (by rw [List.getElem?_take] at hx;split at hx <;> simp_all)
   have hone:∀ u∈cs.map bv,u.oneCell'=true:=fun u hu=>by obtain ⟨x,_,rfl⟩:=List.mem_map.1 hu;rfl
   have hX:=stC_copy (digN m' (n / 64)).list r n at' cs rfl hr (by rw [hcl];exact hkat);obtain ⟨r',hr'⟩:∃ r',r'=r.take at'++(cs++r.drop (at'+cs.length)):=⟨_,rfl⟩;rw [<-hr'] at hX;have hsz:8+at'+(cs.map bv).length<=(stC (digN m' (n / 64)).list r n).size:=by rw [List.length_map,hcl];unfold stC;simp [hr,V8.list];omega
   have H1:=lh hsrc;have H2:=lh hone;have H3:=lh hX;have H4:=lh hsz;have H5:=lh hbs2;have H6:=lh (show (cs.map bv).length=k from by rw [List.length_map,hcl]);have H7:=lh hk;have hpart:=st_part m' cs r hr hp (by rw [hcl,<-hn,<-hat];exact hkat);rw [<-hn,<-hat,<-hr'] at hpart;have HR':=lh hpart.1;have esl:=fun w=>slice_rest bs at' w hat64;have ewh:=slice_whole bs;have hcap:k<cap\/(k=cap/\k=L):=by omega
   have HR:=lh hr;have HN:=lh hn;have HL:=lh hL;have HAT:=lh hat;have HM:=lh hm';have HML:=lh hml;have HCL:=lh hcl;have HRR:=lh hr';have HCS:=lh hcs;have HP:=lh hp;have HPART:=lh hpart;have hn40:n<=1099511627776:=by omega
   clear hsrc hone hX hsz hbs2 hk h6 hcs hbs hb ht hn hL hat hm' hml hcl hr' hp hpart hlen hr;by_cases hf:at'+k=64
   ·rcases hcap with hcap | ⟨hcap,hkl⟩
    ·go_wp2_with (refine wpList_copyT rfl (.tmp 22) (.tmp 23) 52 52 rfl 5 (by kernel_rfl) (by kernel_rfl) bs (8+at') (64 - at') (64 - at') ⟨g,o,none⟩ L cap rfl rfl _ _ H5.out (cs.map bv) (by rw [H6.out];exact H7.out.symm) H1.out H4.out H2.out _ H3.out k H6.out ?_;intro w1 hb1 ht1;have c73:w1.cell? ⟨bs,72,none⟩=some (.int .i64 n):=(cellB hb1).trans (stC_n _ _ _ rfl HR'.out);have f73:w1.frozen? ⟨bs,72,none⟩=false:=frozenB hb1;have HB1:=lh hb1;have HT1:=lh ht1;clear hb1 ht1 c72;go_frame);have hb2:(w1.setCell ⟨bs,72,none⟩ (.int .i64 (n+k))).heap[bs]?=some (stObj (digN m' (n / 64)).list r' (n+k)):=by rw [setCellB HB1.out,stC_setn _ _ _ _ rfl HR'.out];rfl
     have hT2:Touch bs wr (w1.setCell ⟨bs,72,none⟩ (.int .i64 (n+k))):=HT1.out.setCell _;refine (block_any _ r' _ bs _ HR'.out hb2 (fun k hk=>(cellT (HT.out.trans hT2) hg (lt_of_cell (HK.out k hk))).trans (HK.out k hk))).mono ?_;rintro e w2 ⟨rfl,hb3,ht3⟩;have HT3:=lh (hT2.trans ht3)
     have HF:=lh (show StAt w2 bs (m++(done++cs)) from by
      rw [<-List.append_assoc,<-HM.out];obtain ⟨q1,q2,q3⟩:=st_full (m:=m') (cs:=cs) HR.out HP.out (by rw [<-HN.out,<-HAT.out,HCL.out];exact hf);refine ⟨r',HR'.out,by rw [q2,q1,List.drop_eq_nil_of_le (by rw [List.length_append] at *;omega)];rfl,?_⟩
      rw [hb3,q3,<-HN.out,<-HAT.out,<-HRR.out,List.length_append,HCL.out,<-HN.out];rfl)
     clear hb2 hT2 hb3 ht3;go_wp2_with fail;go_roundw
     case rel=>exact ⟨done++cs,rem.drop k,by rw [HB.out,HCS.out,List.append_assoc,List.take_append_drop],(bytesOff_drop (HV.out.touch HT3.out) HL.out hkL),HF.out,HT.out.trans HT3.out⟩
     case measure=>simp [lenV];omega
    ·subst hcap;subst hkl;go_wp2_with (refine wpList_copyT rfl (.tmp 22) (.tmp 23) 52 52 rfl 5 (by kernel_rfl) (by kernel_rfl) bs (8+at') (64 - at') (64 - at') ⟨g,o,none⟩ k k rfl rfl _ _ H5.out (cs.map bv) (by rw [H6.out];exact H7.out.symm) H1.out H4.out H2.out _ H3.out k H6.out ?_;intro w1 hb1 ht1;have c73:w1.cell? ⟨bs,72,none⟩=some (.int .i64 n):=(cellB hb1).trans (stC_n _ _ _ rfl HR'.out);have f73:w1.frozen? ⟨bs,72,none⟩=false:=frozenB hb1;have HB1:=lh hb1;have HT1:=lh ht1;clear hb1 ht1 c72;go_frame);have hb2:(w1.setCell ⟨bs,72,none⟩ (.int .i64 (n+k))).heap[bs]?=some (stObj (digN m' (n / 64)).list r' (n+k)):=by rw [setCellB HB1.out,stC_setn _ _ _ _ rfl HR'.out];rfl
     have hT2:Touch bs wr (w1.setCell ⟨bs,72,none⟩ (.int .i64 (n+k))):=HT1.out.setCell _;refine (block_any _ r' _ bs _ HR'.out hb2 (fun k hk=>(cellT (HT.out.trans hT2) hg (lt_of_cell (HK.out k hk))).trans (HK.out k hk))).mono ?_;rintro e w2 ⟨rfl,hb3,ht3⟩;have HT3:=lh (hT2.trans ht3)
     have HF:=lh (show StAt w2 bs (m++(done++cs)) from by
      rw [<-List.append_assoc,<-HM.out];obtain ⟨q1,q2,q3⟩:=st_full (m:=m') (cs:=cs) HR.out HP.out (by rw [<-HN.out,<-HAT.out,HCL.out];exact hf);refine ⟨r',HR'.out,by rw [q2,q1,List.drop_eq_nil_of_le (by rw [List.length_append] at *;omega)];rfl,?_⟩
      rw [hb3,q3,<-HN.out,<-HAT.out,<-HRR.out,List.length_append,HCL.out,<-HN.out];rfl)
     clear hb2 hT2 hb3 ht3;go_wp2_with fail;go_roundw
     case rel=>exact ⟨done++cs,rem.drop k,by rw [HB.out,HCS.out,List.append_assoc,List.take_append_drop],(bytesOff_none HL.out (Nat.le_refl _) (by unfold maxLen;omega)),HF.out,HT.out.trans HT3.out⟩
     case measure=>simp [lenV];omega
   ·have hkl:k=L:=by omega
    subst hkl;rcases hcap with hcap | ⟨hcap,_⟩
    ·go_wp2_with (refine wpList_copyT rfl (.tmp 22) (.tmp 23) 52 52 rfl 5 (by kernel_rfl) (by kernel_rfl) bs (8+at') (64 - at') (64 - at') ⟨g,o,none⟩ k cap rfl rfl _ _ H5.out (cs.map bv) (by rw [H6.out];exact H7.out.symm) H1.out H4.out H2.out _ H3.out k H6.out ?_;intro w1 hb1 ht1;have c73:w1.cell? ⟨bs,72,none⟩=some (.int .i64 n):=(cellB hb1).trans (stC_n _ _ _ rfl HR'.out);have f73:w1.frozen? ⟨bs,72,none⟩=false:=frozenB hb1;have HB1:=lh hb1;have HT1:=lh ht1;clear hb1 ht1 c72;go_frame);have hb2:(w1.setCell ⟨bs,72,none⟩ (.int .i64 (n+k))).heap[bs]?=some (stObj (digN m' (n / 64)).list r' (n+k)):=by rw [setCellB HB1.out,stC_setn _ _ _ _ rfl HR'.out];rfl
     have hT2:Touch bs wr (w1.setCell ⟨bs,72,none⟩ (.int .i64 (n+k))):=HT1.out.setCell _;have HT3:=lh hT2
     have HF:=lh (show StAt (w1.setCell ⟨bs,72,none⟩ (.int .i64 (n+k))) bs (m++(done++cs)) from by
      rw [<-List.append_assoc,<-HM.out];obtain ⟨q1,q2⟩:=st_less (m:=m') (cs:=cs) (by rw [<-HN.out,<-HAT.out,HCL.out];omega);refine ⟨r',HR'.out,?_,?_⟩
      ·rw [q2,q1,<-HN.out,<-HAT.out,HCL.out];have:=HPART.out.2
       rwa [HCL.out] at this
      ·rw [hb2,q1,digN_app _ _ _ (by omega),<-HN.out,List.length_append,HCL.out,<-HN.out];rfl)
     clear hb2 hT2;go_roundw
     case rel=>exact ⟨done++cs,rem.drop k,by rw [HB.out,HCS.out,List.append_assoc,List.take_append_drop],(bytesOff_none HL.out (Nat.le_refl _) (by unfold maxLen;omega)),HF.out,HT.out.trans HT3.out⟩
     case measure=>simp [lenV];omega
    ·subst hcap;go_wp2_with (refine wpList_copyT rfl (.tmp 22) (.tmp 23) 52 52 rfl 5 (by kernel_rfl) (by kernel_rfl) bs (8+at') (64 - at') (64 - at') ⟨g,o,none⟩ k k rfl rfl _ _ H5.out (cs.map bv) (by rw [H6.out];exact H7.out.symm) H1.out H4.out H2.out _ H3.out k H6.out ?_;intro w1 hb1 ht1;have c73:w1.cell? ⟨bs,72,none⟩=some (.int .i64 n):=(cellB hb1).trans (stC_n _ _ _ rfl HR'.out);have f73:w1.frozen? ⟨bs,72,none⟩=false:=frozenB hb1;have HB1:=lh hb1;have HT1:=lh ht1;clear hb1 ht1 c72;go_frame);have hb2:(w1.setCell ⟨bs,72,none⟩ (.int .i64 (n+k))).heap[bs]?=some (stObj (digN m' (n / 64)).list r' (n+k)):=by rw [setCellB HB1.out,stC_setn _ _ _ _ rfl HR'.out];rfl
     have hT2:Touch bs wr (w1.setCell ⟨bs,72,none⟩ (.int .i64 (n+k))):=HT1.out.setCell _;have HT3:=lh hT2
     have HF:=lh (show StAt (w1.setCell ⟨bs,72,none⟩ (.int .i64 (n+k))) bs (m++(done++cs)) from by
      rw [<-List.append_assoc,<-HM.out];obtain ⟨q1,q2⟩:=st_less (m:=m') (cs:=cs) (by rw [<-HN.out,<-HAT.out,HCL.out];omega);refine ⟨r',HR'.out,?_,?_⟩
      ·rw [q2,q1,<-HN.out,<-HAT.out,HCL.out];have:=HPART.out.2
       rwa [HCL.out] at this
      ·rw [hb2,q1,digN_app _ _ _ (by omega),<-HN.out,List.length_append,HCL.out,<-HN.out];rfl)
     clear hb2 hT2;go_roundw
     case rel=>exact ⟨done++cs,rem.drop k,by rw [HB.out,HCS.out,List.append_assoc,List.take_append_drop],(bytesOff_none HL.out (Nat.le_refl _) (by unfold maxLen;omega)),HF.out,HT.out.trans HT3.out⟩
     case measure=>simp [lenV];omega
end
section
structure ShaTabs (w:World):Prop where
 roots:∀ k,k<64->w.cell? ⟨1,k,none⟩=some (.int .u32 (kAt k).toNat)
 first:∀ (k:Nat) x,first8.list[k]?=some x->w.cell? ⟨0,k,none⟩=some (wv x)
theorem ShaTabs.ext {w w':World} (h:ShaTabs w) (k:Ext w w'):ShaTabs w' :=
 ⟨fun j hj=>(k.cell (lt_of_cell (h.roots j hj))).trans (h.roots j hj),fun j x hj=>(k.cell (lt_of_cell (h.first j x hj))).trans (h.first j x hj)⟩
theorem ShaTabs.lt {w:World} (h:ShaTabs w):1<w.heap.size/\0<w.heap.size:=⟨lt_of_cell (h.roots 0 (by decide)),lt_of_cell (h.first 0 _ rfl)⟩
theorem new_any (w:World) (T:ShaTabs w):Calls prog 137 #[] w fun e w'=>e=.returned (.pointer (some ⟨w.heap.size,0,none⟩))/\StAt w' w.heap.size []/\Ext w w':=by
 have HT:=lh T;have s0:w.cell? ⟨0,0,none⟩=some (.int .u32 first8.a.toNat):=T.first 0 _ rfl;have s1:w.cell? ⟨0,1,none⟩=some (.int .u32 first8.b.toNat):=T.first 1 _ rfl;have s2:w.cell? ⟨0,2,none⟩=some (.int .u32 first8.c.toNat):=T.first 2 _ rfl;have s3:w.cell? ⟨0,3,none⟩=some (.int .u32 first8.d.toNat):=T.first 3 _ rfl;have s4:w.cell? ⟨0,4,none⟩=some (.int .u32 first8.e.toNat):=T.first 4 _ rfl;have s5:w.cell? ⟨0,5,none⟩=some (.int .u32 first8.f.toNat):=T.first 5 _ rfl;have s6:w.cell? ⟨0,6,none⟩=some (.int .u32 first8.g.toNat):=T.first 6 _ rfl;have s7:w.cell? ⟨0,7,none⟩=some (.int .u32 first8.h.toNat):=T.first 7 _ rfl;have HFIN:=lh (show StAt (w.alloc (stObj first8.list (List.replicate 64 0) 0)) w.heap.size [] from ⟨List.replicate 64 0,rfl,rfl,heap_alloc_new _ _⟩);have HC:=lh (show stC first8.list (List.replicate 64 0) 0=stC [first8.a,first8.b,first8.c,first8.d,first8.e,first8.f,first8.g,first8.h] (List.replicate 64 0) 0 from rfl);rw [show stObj first8.list (List.replicate 64 0) 0=.cells (stC [first8.a,first8.b,first8.c,first8.d,first8.e,first8.f,first8.g,first8.h] (List.replicate 64 0) 0) 295 (0,0) from rfl] at HFIN;clear T HC;generalize first8.a=a at *;generalize first8.b=b at *;generalize first8.c=c at *;generalize first8.d=d at *;generalize first8.e=e at *;generalize first8.f=f at *;generalize first8.g=g at *;generalize first8.h=h at *;obtain ⟨C,hC⟩:∃ C,C=stC [a,b,c,d,e,f,g,h] (List.replicate 64 0) 0:=⟨_,rfl⟩;have HCC:=lh hC;rw [<-hC] at HFIN;clear hC;go_enter func137,ntmps137;go_wp2_with (refine wpList_buildAs C rfl _ _ rfl (by rw [HCC.out];kernel_rfl) ?_;go_frame);go_ret;exact ⟨rfl,HFIN.out,(Ext.refl w).alloc _⟩
theorem zeroCells_one (u:Value) (n:Nat):(Builtin.zeroCells #[u] n).toList=List.replicate n u:=by
 apply List.ext_getElem
 ·simp [Builtin.zeroCells]
 ·intro i h1 h2;simp [Builtin.zeroCells,Nat.mod_one]
theorem append_zeros_one (w:World) (g z base:Nat) (x:Value) (ty:TypeId) (hb:w.heap[g]?=some (.cells #[x] 5 (0,0))) (hz:z<=1000) (hbase:base<=g) :
  ∃ v' w',(Builtin.append_ #[52,3] ty #[.slice (some ⟨g,0,none⟩) 1 1,.int .i64 z]).run prog w=.ok v' w'/\w'.ownsRow base 5 1 v' (1+z) (x::List.replicate z (.int .u8 0))/\w.grownBy w' none:=by
 have ht:prog.underlying 52=some (.slice 5):=by kernel_rfl
 have htn:prog.underlying 3=some (.int .i64):=by kernel_rfl
 obtain ⟨i,hi,hz0,hz1,hz2⟩:=info_parts (show (prog.info? 5).map (fun i=>(i.zero,i.size,i.bytes))=some (some (.int .u8 0),1,1) from by kernel_rfl);by_cases h0:z=0
 ·subst h0;refine ⟨_,w,?_,⟨rfl,.inr ⟨g,1,#[x],rfl,hbase,hb,by omega,by decide,rfl,rfl⟩⟩,⟨rfl,rfl,rfl,Nat.le_refl _,fun _ _ _=>rfl⟩⟩;simp [Builtin.append_,run_underlying ht,run_underlying htn,sizeOf,typeInfo,hi,hz1,hz2,asInt,asIntOf,IntKind.wrap_i64];rfl
 ·have hold:(Builtin.firstCells i.size 1 (.slice (some ⟨g,0,none⟩) 1 1)).run prog w.drew=.ok [x].toArray w.drew:=by
   have:=run_loadCells_list (P:=prog) w.drew ⟨g,0,none⟩ [x] (fun j v hv=>by
    match j,hv with
    | 0,hv=>simp at hv;subst hv;exact cellB (w:=w.drew) (k:=0) hb)
   rw [hz1];exact this
  refine ⟨_,_,Lib.run_append_grow_zeros w 52 3 ty 5 i (.int .u8 0) .i64 .i64 ht htn hi hz0 (some ⟨g,0,none⟩) 1 1 [x] hold z (by omega) (by omega) (by omega) (by omega) (by rw [hz2];omega) ?_,⟨by simp;omega,.inr ⟨w.heap.size,_,_,rfl,Nat.le_of_lt (Nat.lt_of_le_of_lt hbase (ltB hb)),heap_alloc_new w.drew _,grownCap_ge _ _ _ _,grownCap_le_maxLen _ _ _ _ (by unfold maxLen;omega),?_,?_⟩⟩,⟨rfl,rfl,rfl,by simp,fun k hk h=>(World.grownBy_alloc w.drew _ none).block k hk h⟩⟩
  ·rw [hz2];have:Builtin.nextslicecap (1+z) 1<=1001:=by unfold Builtin.nextslicecap;split <;> (try split) <;> omega
   omega
  ·have:=grownCap_ge w (1+z) 1 5;simp [<-Array.length_toList,zeroCells_one,Value.cells];omega
  ·rw [Array.toList_append,Array.toList_append,show (Value.int .u8 0).cells=#[.int .u8 0] from rfl,zeroCells_one,zeroCells_one,List.take_append_of_le_length (by simp;omega),List.take_of_length_le (by simp;omega)];rfl
theorem bytesOff_owns {b base n:Nat} {w:World} {v:Value} {l:List UInt8} (h:w.ownsRow base 5 1 v n (l.map bv)) (hb:b<base):BytesOff b w v l:=by
 have hn:l.length=n:=by have:=h.1;simpa using this
 subst hn;rcases h.2 with ⟨h1,h2⟩ | ⟨g,cap,cur,hv,hbg,hh,hc,hm,hs,ht⟩
 ·exact ⟨none,0,by rw [h1,h2],by omega,by decide,fun hp=>by omega⟩
 ·refine ⟨_,cap,hv,hc,hm,fun _=>⟨g,0,rfl,by omega,ltB hh,fun j x hj=>?_⟩⟩;have hj':j<l.length:=(List.getElem?_eq_some_iff.1 hj).1;rw [Nat.zero_add,cellB hh,<-Array.getElem?_toList];have:(cur.toList.take (l.length*1))[j]?=some (bv x):=by rw [ht,List.getElem?_map,hj];rfl
  rw [List.getElem?_take] at this;split at this
  ·exact this
  ·cases this
end
section
theorem elU8:Elem prog 52 5 (.int .u8 0) 1:=⟨by kernel_rfl,by kernel_rfl,rfl,by decide⟩
def hArr (l:List UInt8) (k:Nat):Array Value:=((l.take k).map bv++List.replicate (32 - k) (Value.int .u8 0)).toArray
def hObj (l:List UInt8) (k:Nat):Obj:=.cells (hArr l k) 54 (0,0)
theorem stC_one (l:List Wd) (r:List UInt8) (n:Int):(stC l r n).all (·.oneCell')=true:=by
 rw [Array.all_eq_true_iff_forall_mem];intro v hv;unfold stC at hv;simp only [List.mem_toArray,List.mem_append,List.mem_map,List.mem_cons,List.not_mem_nil,or_false] at hv;rcases hv with ⟨x,_,rfl⟩ | ⟨x,_,rfl⟩ | rfl | rfl <;> rfl
theorem wpList_storeT {P:Program} {ops:Array Oper} {rest:List Oper} {o:Oper} {a:Act} {w:World} {Q:Exit->Act->World->Prop} (hgd:o.guard=none) (ty:TypeId) (x y:Operand) (ho:o.op=.store ty x y)
  (g:Nat) (cells:Array Value) (hx:a.eval x=.pointer (some ⟨g,0,none⟩)) (hy:a.eval y=.agg cells)
  (t:TypeId) (old:Array Value) (hg:w.heap[g]?=some (.cells old t (0,0))) (hi:(P.info? ty).map (·.size)=some cells.size)
  (hold:old.size=cells.size) (h1:cells.all (·.oneCell')=true)
  (h:∀ w1,w1.heap[g]?=some (.cells cells t (0,0))->Touch g w w1->wpList P ops Q rest (a.put o.dst undef) w1):wpList P ops Q (o::rest) a w :=
 wpList_store_row hgd ty x y ho g cells hx hy t old hg hi hold h1 (h _ (setRow_heap _ _ _ _ _ _ hg) ⟨rfl,rfl,rfl,by rw [setRow_size];exact Nat.le_refl _,fun i _ hne=>setRow_other _ _ _ _ fun e=>hne (by rw [e])⟩)
theorem Touch.fresh {b:Nat} {u v w:World} (h:Touch b v w) (x:Ext u v) (hb:u.heap.size<=b):Ext u w :=
 Below.trans x ⟨h.os,h.tape,h.output,h.size,fun i hi=>h.block i (Nat.lt_of_lt_of_le hi x.size) fun e=>by have:=Option.some.inj e;omega⟩
theorem be8_at (n k:Nat) (h:k<8):(be8 n)[k]?=some (byteOf (n / 2 ^ (56 - 8*k))):=by
 have:k=0\/k=1\/k=2\/k=3\/k=4\/k=5\/k=6\/k=7:=by omega
 rcases this with rfl | rfl | rfl | rfl | rfl | rfl | rfl | rfl <;> first | rfl | simp [be8]
theorem padL_step (n k:Nat) (h:k<8):(128::List.replicate (zerosOf n) 0++(be8 (8*n)).take (k+1):List UInt8)=(128::List.replicate (zerosOf n) 0++(be8 (8*n)).take k)++[byteOf (8*n / 2 ^ (56 - 8*k))]:=by
 rw [List.take_add_one,be8_at _ _ h,List.append_assoc];rfl
theorem ext_own {w0 w w1:World} {base k:Nat} {e:TypeId} {v:Value} {n:Nat} {xs:List Value} (x:Ext w0 w) (hb:w0.heap.size<=base) (ho:w.ownsRow base e k v n xs) (hg:w.grownBy w1 v.ownBlock):Ext w0 w1 :=
 Below.trans x ⟨hg.os,hg.tape,hg.output,hg.size,fun i hi=>hg.block i (Nat.lt_of_lt_of_le hi x.size) fun e=>by have:=(ho.lt _ e.symm).1;omega⟩
theorem own_cast {w:World} {base n:Nat} {e:TypeId} {v:Value} {xs:List Value} {a b:Int} (h:w.ownsRow base e 1 v n (xs++[.int .u8 a])) (hab:b=a):w.ownsRow base e 1 v n (xs++[.int .u8 b]):=hab▸h
theorem ext_none {w w1:World} (hg:w.grownBy w1 none):Ext w w1:=⟨hg.os,hg.tape,hg.output,hg.size,fun i hi=>hg.block i hi (by simp)⟩
theorem hArr_size (l:List UInt8) (k:Nat) (hl:l.length=32) (h:k<=32):(hArr l k).size=32:=by simp [hArr,hl];omega
theorem hArr_at (l:List UInt8) (k j:Nat) (hl:l.length=32) (h:k<=32) (hj:j<32):∃ u,(hArr l k)[j]?=some u:=⟨_,Array.getElem?_eq_getElem (by rw [hArr_size l k hl h];exact hj)⟩
theorem hArr_set (l:List UInt8) (j:Nat) (b:UInt8) (val:Int) (hb:l[j]?=some b) (hl:l.length=32) (hv:val=b.toNat):(hArr l j).setIfInBounds j (.int .u8 val)=hArr l (j+1):=by
 have hj:j<32:=hl▸(List.getElem?_eq_some_iff.1 hb).1;subst hv;unfold hArr;rw [List.setIfInBounds_toArray,List.set_append,if_neg (by simp [hl];omega),List.take_add_one,hb];simp only [List.length_map,List.length_take,hl,show min j 32=j from by omega,Nat.sub_self];rw [show 32 - j=(32 - (j+1))+1 from by omega,List.replicate_succ];simp [bv]
theorem hObj_set (l:List UInt8) (j:Nat) (b:UInt8) (val:Int) (hb:l[j]?=some b) (hl:l.length=32) (hv:val=b.toNat):Obj.cells ((hArr l j).setIfInBounds j (.int .u8 val)) 54 (0,0)=hObj l (j+1):=by rw [hArr_set l j b val hb hl hv];rfl
theorem hArr_one (l:List UInt8) (k:Nat):(hArr l k).all (·.oneCell')=true:=by
 rw [Array.all_eq_true_iff_forall_mem];intro v hv;unfold hArr at hv;simp only [List.mem_toArray,List.mem_append,List.mem_map,List.mem_replicate] at hv;rcases hv with ⟨x,_,rfl⟩ | ⟨_,rfl⟩ <;> rfl
theorem sha_word (v:V8) (i k:Nat) (x:Wd) (h:v.list[i]?=some x) (hk:k<4):((v.list.map outB).flatten)[4*i+k]?=some (byteOf (x.toNat / 2 ^ (24 - 8*k))):=by
 have hi:i<8:=(List.getElem?_eq_some_iff.1 h).1;have h1:i=0\/i=1\/i=2\/i=3\/i=4\/i=5\/i=6\/i=7:=by omega
 have h2:k=0\/k=1\/k=2\/k=3:=by omega
 rcases h1 with rfl | rfl | rfl | rfl | rfl | rfl | rfl | rfl <;> (injection h with h;subst h;rcases h2 with rfl | rfl | rfl | rfl <;> simp [V8.list,outB])
theorem index_w0 (V:V8) (w:World):(Instr.index 292 (.agg #[.int .u32 V.a.toNat,.int .u32 V.b.toNat,.int .u32 V.c.toNat,.int .u32 V.d.toNat,.int .u32 V.e.toNat,.int .u32 V.f.toNat,.int .u32 V.g.toNat,.int .u32 V.h.toNat]) (.int .i64 ((0:Nat):Int))).run prog w=.ok (.int .u32 V.a.toNat) w:=by kernel_rfl
theorem index_w1 (V:V8) (w:World):(Instr.index 292 (.agg #[.int .u32 V.a.toNat,.int .u32 V.b.toNat,.int .u32 V.c.toNat,.int .u32 V.d.toNat,.int .u32 V.e.toNat,.int .u32 V.f.toNat,.int .u32 V.g.toNat,.int .u32 V.h.toNat]) (.int .i64 ((1:Nat):Int))).run prog w=.ok (.int .u32 V.b.toNat) w:=by kernel_rfl
theorem index_w2 (V:V8) (w:World):(Instr.index 292 (.agg #[.int .u32 V.a.toNat,.int .u32 V.b.toNat,.int .u32 V.c.toNat,.int .u32 V.d.toNat,.int .u32 V.e.toNat,.int .u32 V.f.toNat,.int .u32 V.g.toNat,.int .u32 V.h.toNat]) (.int .i64 ((2:Nat):Int))).run prog w=.ok (.int .u32 V.c.toNat) w:=by kernel_rfl
theorem index_w3 (V:V8) (w:World):(Instr.index 292 (.agg #[.int .u32 V.a.toNat,.int .u32 V.b.toNat,.int .u32 V.c.toNat,.int .u32 V.d.toNat,.int .u32 V.e.toNat,.int .u32 V.f.toNat,.int .u32 V.g.toNat,.int .u32 V.h.toNat]) (.int .i64 ((3:Nat):Int))).run prog w=.ok (.int .u32 V.d.toNat) w:=by kernel_rfl
theorem index_w4 (V:V8) (w:World):(Instr.index 292 (.agg #[.int .u32 V.a.toNat,.int .u32 V.b.toNat,.int .u32 V.c.toNat,.int .u32 V.d.toNat,.int .u32 V.e.toNat,.int .u32 V.f.toNat,.int .u32 V.g.toNat,.int .u32 V.h.toNat]) (.int .i64 ((4:Nat):Int))).run prog w=.ok (.int .u32 V.e.toNat) w:=by kernel_rfl
theorem index_w5 (V:V8) (w:World):(Instr.index 292 (.agg #[.int .u32 V.a.toNat,.int .u32 V.b.toNat,.int .u32 V.c.toNat,.int .u32 V.d.toNat,.int .u32 V.e.toNat,.int .u32 V.f.toNat,.int .u32 V.g.toNat,.int .u32 V.h.toNat]) (.int .i64 ((5:Nat):Int))).run prog w=.ok (.int .u32 V.f.toNat) w:=by kernel_rfl
theorem index_w6 (V:V8) (w:World):(Instr.index 292 (.agg #[.int .u32 V.a.toNat,.int .u32 V.b.toNat,.int .u32 V.c.toNat,.int .u32 V.d.toNat,.int .u32 V.e.toNat,.int .u32 V.f.toNat,.int .u32 V.g.toNat,.int .u32 V.h.toNat]) (.int .i64 ((6:Nat):Int))).run prog w=.ok (.int .u32 V.g.toNat) w:=by kernel_rfl
theorem index_w7 (V:V8) (w:World):(Instr.index 292 (.agg #[.int .u32 V.a.toNat,.int .u32 V.b.toNat,.int .u32 V.c.toNat,.int .u32 V.d.toNat,.int .u32 V.e.toNat,.int .u32 V.f.toNat,.int .u32 V.g.toNat,.int .u32 V.h.toNat]) (.int .i64 ((7:Nat):Int))).run prog w=.ok (.int .u32 V.h.toNat) w:=by kernel_rfl
theorem index_words (V:V8) (i:Nat) (x:Wd) (h:V.list[i]?=some x) (w:World):(Instr.index 292 (.agg #[.int .u32 V.a.toNat,.int .u32 V.b.toNat,.int .u32 V.c.toNat,.int .u32 V.d.toNat,.int .u32 V.e.toNat,.int .u32 V.f.toNat,.int .u32 V.g.toNat,.int .u32 V.h.toNat]) (.int .i64 i)).run prog w=.ok (.int .u32 x.toNat) w:=by
 have hi:i<8:=(List.getElem?_eq_some_iff.1 h).1;have h1:i=0\/i=1\/i=2\/i=3\/i=4\/i=5\/i=6\/i=7:=by omega
 rcases h1 with rfl | rfl | rfl | rfl | rfl | rfl | rfl | rfl
 ·obtain rfl:V.a=x:=Option.some.inj h;exact index_w0 V w
 ·obtain rfl:V.b=x:=Option.some.inj h;exact index_w1 V w
 ·obtain rfl:V.c=x:=Option.some.inj h;exact index_w2 V w
 ·obtain rfl:V.d=x:=Option.some.inj h;exact index_w3 V w
 ·obtain rfl:V.e=x:=Option.some.inj h;exact index_w4 V w
 ·obtain rfl:V.f=x:=Option.some.inj h;exact index_w5 V w
 ·obtain rfl:V.g=x:=Option.some.inj h;exact index_w6 V w
 ·obtain rfl:V.h=x:=Option.some.inj h;exact index_w7 V w
def padK (n k:Nat):List UInt8:=128::List.replicate (zerosOf n) 0++(be8 (8*n)).take k
theorem padK_step (n k:Nat) (h:k<8):(padK n k).map bv++[Value.int .u8 ((8*n / 2 ^ (56 - 8*k) % 256:Nat):Int)]=(padK n (k+1)).map bv:=by
 unfold padK;rw [padL_step n k h,List.map_append (l₂:=[_])];simp [bv,byteOf]
theorem padK_zero (n:Nat):(Value.int .u8 128::List.replicate (zerosOf n) (Value.int .u8 0))=(padK n 0).map bv:=by simp [padK,bv]
theorem padK_full (n:Nat):padK n 8=padL n:=by simp [padK,padL,be8]
set_option maxHeartbeats 4000000 in
set_option maxRecDepth 100000 in
theorem ssum_any (m:List UInt8) (bs:Nat) (w:World) (T:ShaTabs w) (hst:StAt w bs m) (hm:m.length<=1048576) :
  Calls prog 139 #[.pointer (some ⟨bs,0,none⟩)] w fun e w'=>e=.returned (.agg (hArr (shaL m) 32))/\Ext w w':=by
 have HIS:=fun w h=>lh (is_any w bs m h);have HST:=lh hst;have HT:=lh T;obtain ⟨r,hr,hp,hb⟩:=hst;obtain ⟨n,hn⟩:∃ n,n=m.length:=⟨_,rfl⟩;rw [<-hn] at hb hm;have HN:=lh hn;have HP:=lh hp;have HR:=lh hr;obtain ⟨C,hC⟩:∃ C,C=stC (digN m (n / 64)).list r n:=⟨_,rfl⟩;have HC:=lh hC;have hb':w.heap[bs]?=some (.cells C 295 (0,0)):=by rw [hC];exact hb
 have c72:w.cell? ⟨bs,72,none⟩=some (.int .i64 n):=(cellB hb).trans (stC_n _ _ _ rfl hr);have HB:=lh hb';have hsz:C.size=74:=by rw [hC];simp [stC,V8.list,hr]
 have HSZ:=lh hsz;clear hn hp hr hC hb hb' T hsz;go_enter func139,ntmps139;go_wp2_with fail;refine (HIS _ (HST.out.ext ((Ext.refl w).alloc _))).out.mono ?_;rintro e w1 ⟨rfl,hw1⟩;have X1:=lh (show Ext w w1 from hw1▸(Ext.refl w).alloc _);have HB0:=lh (show w1.heap[w.heap.size]?=some (hObj [] 0) from by rw [hw1];exact heap_alloc_new _ _);have HB1:=lh ((X1.out.block (ltB HB.out)).trans HB.out);have hs1:w1.heap.size=w.heap.size+1:=by rw [hw1];simp
 have HS1:=lh hs1;have c72a:w1.cell? ⟨bs,72,none⟩=some (.int .i64 n):=(X1.out.cell (lt_of_cell c72)).trans c72;obtain ⟨z,hz⟩:∃ z,z=zerosOf n:=⟨_,rfl⟩;have hze:(119 - (n:Int) % 64) % 64=(z:Int):=by rw [hz];unfold zerosOf;omega
 have hz64:z<64:=by rw [hz];unfold zerosOf;omega
 have HZ:=lh hz;clear hw1 c72 hs1 hz
 go_wp2_with (first
  | (refine wpList_load_row rfl _ _ rfl bs rfl 295 C (0,0) _ HB1.out underlying295 rfl (by rw [HSZ.out];kernel_rfl) ?_;go_frame)
  | (refine wpList_storeT rfl _ _ _ rfl w1.heap.size C rfl rfl 295 _ (heap_alloc_new w1 _) (by rw [HSZ.out];kernel_rfl) (by rw [HSZ.out];rfl) (by rw [HC.out];exact stC_one _ _ _) ?_;intro w2 hb2 ht2;have HB2:=lh hb2;have X2:=lh (ht2.fresh ((Ext.refl w1).alloc _) (Nat.le_refl _));have c72:w2.cell? ⟨bs,72,none⟩=some (.int .i64 n):=(X2.out.cell (lt_of_cell c72a)).trans c72a;have c72b:(w2.alloc (.cells #[.int .u8 128] 5)).cell? ⟨bs,72,none⟩=some (.int .i64 n):=(cell_alloc_old (lt_of_cell c72)).trans c72;obtain ⟨pv,w3,hrun,hown,hgr⟩:=append_zeros_one (w2.alloc (.cells #[.int .u8 128] 5)) w2.heap.size z w2.heap.size (.int .u8 128) 52 (heap_alloc_new _ _) (by omega) (Nat.le_refl _);have HOWN:=lh hown;have HGR:=lh hgr;have HW12:=lh (ltB hb2);clear hb2 ht2 c72a hown hgr;go_frame)
  | (at_builtin;refine Lib.wpList_append_run _ rfl _ _ _ _ rfl (.slice (some ⟨w2.heap.size,0,none⟩) 1 1) (.int .i64 z) rfl (congrArg (Value.int .i64) hze) pv w3 hrun ?_;clear hrun c72 c72b;go_frame))
 rw [hze];clear hze;have HO0:=lh (show w3.ownsRow w2.heap.size 5 1 pv (1+z+0) ((padK n 0).map bv) from by rw [<-padK_zero,<-HZ.out];exact HOWN.out);have HX3:=lh (((Ext.refl w2).alloc (.cells #[.int .u8 128] 5)).trans (ext_none HGR.out));clear HOWN HGR HZ;go_loopw [5,6] (fun qv iv wr=>Hid (∃ k:Nat,k<=8/\iv=.int .i64 (56 - 8*k)/\wr.ownsRow w2.heap.size 5 1 qv (1+z+k) ((padK n k).map bv)/\Ext w2 wr)) (fun _ iv _=>(8+intOf iv).toNat)
 case atStart=>exact ⟨0,by omega,rfl,HO0.out,HX3.out⟩
 case round =>
  obtain ⟨k,hk,rfl,ho,hx⟩:=hrel.out;clear hrel HO0 HX3;have HO:=lh ho;have HX:=lh hx;by_cases h8:k<8
  ·have HST:=lh (padK_step n k h8);clear ho hx;have hc:k=0\/k=1\/k=2\/k=3\/k=4\/k=5\/k=6\/k=7:=by omega
   rcases hc with rfl | rfl | rfl | rfl | rfl | rfl | rfl | rfl
   ·go_wp2_with (at_builtin;refine append_one elU8 w2.heap.size _ _ _ (HO.out.alloc _) wr.heap.size _ (.tmp 36) (.tmp 41) rfl rfl rfl rfl (by rw [cell_alloc_new rfl];rfl) rfl (by omega) (by have:=HX.out.size;simp;omega) ?_;intro pv' w4 hown4 hg4 _;have HX4:=lh (ext_own (HX.out.alloc _) (Nat.le_refl _) (HO.out.alloc _) hg4);have HO4:=lh (show w4.ownsRow w2.heap.size 5 1 pv' (1+z+1) ((padK n 1).map bv) from by rw [<-HST.out];exact own_cast hown4 (by rw [show (2:Nat) ^ (56 - 8*0)=72057594037927936 from by decide];omega));clear hown4 hg4;go_frame);go_roundw
    case rel=>exact ⟨1,by omega,rfl,HO4.out,HX4.out⟩
    case measure=>simp [intOf]
   ·go_wp2_with (at_builtin;refine append_one elU8 w2.heap.size _ _ _ (HO.out.alloc _) wr.heap.size _ (.tmp 36) (.tmp 41) rfl rfl rfl rfl (by rw [cell_alloc_new rfl];rfl) rfl (by omega) (by have:=HX.out.size;simp;omega) ?_;intro pv' w4 hown4 hg4 _;have HX4:=lh (ext_own (HX.out.alloc _) (Nat.le_refl _) (HO.out.alloc _) hg4);have HO4:=lh (show w4.ownsRow w2.heap.size 5 1 pv' (1+z+2) ((padK n 2).map bv) from by rw [<-HST.out];exact own_cast hown4 (by rw [show (2:Nat) ^ (56 - 8*1)=281474976710656 from by decide];omega));clear hown4 hg4;go_frame);go_roundw
    case rel=>exact ⟨2,by omega,rfl,HO4.out,HX4.out⟩
    case measure=>simp [intOf]
   ·go_wp2_with (at_builtin;refine append_one elU8 w2.heap.size _ _ _ (HO.out.alloc _) wr.heap.size _ (.tmp 36) (.tmp 41) rfl rfl rfl rfl (by rw [cell_alloc_new rfl];rfl) rfl (by omega) (by have:=HX.out.size;simp;omega) ?_;intro pv' w4 hown4 hg4 _;have HX4:=lh (ext_own (HX.out.alloc _) (Nat.le_refl _) (HO.out.alloc _) hg4);have HO4:=lh (show w4.ownsRow w2.heap.size 5 1 pv' (1+z+3) ((padK n 3).map bv) from by rw [<-HST.out];exact own_cast hown4 (by rw [show (2:Nat) ^ (56 - 8*2)=1099511627776 from by decide];omega));clear hown4 hg4;go_frame);go_roundw
    case rel=>exact ⟨3,by omega,rfl,HO4.out,HX4.out⟩
    case measure=>simp [intOf]
   ·go_wp2_with (at_builtin;refine append_one elU8 w2.heap.size _ _ _ (HO.out.alloc _) wr.heap.size _ (.tmp 36) (.tmp 41) rfl rfl rfl rfl (by rw [cell_alloc_new rfl];rfl) rfl (by omega) (by have:=HX.out.size;simp;omega) ?_;intro pv' w4 hown4 hg4 _;have HX4:=lh (ext_own (HX.out.alloc _) (Nat.le_refl _) (HO.out.alloc _) hg4);have HO4:=lh (show w4.ownsRow w2.heap.size 5 1 pv' (1+z+4) ((padK n 4).map bv) from by rw [<-HST.out];exact own_cast hown4 (by rw [show (2:Nat) ^ (56 - 8*3)=4294967296 from by decide];omega));clear hown4 hg4;go_frame);go_roundw
    case rel=>exact ⟨4,by omega,rfl,HO4.out,HX4.out⟩
    case measure=>simp [intOf]
   ·go_wp2_with (at_builtin;refine append_one elU8 w2.heap.size _ _ _ (HO.out.alloc _) wr.heap.size _ (.tmp 36) (.tmp 41) rfl rfl rfl rfl (by rw [cell_alloc_new rfl];rfl) rfl (by omega) (by have:=HX.out.size;simp;omega) ?_;intro pv' w4 hown4 hg4 _;have HX4:=lh (ext_own (HX.out.alloc _) (Nat.le_refl _) (HO.out.alloc _) hg4);have HO4:=lh (show w4.ownsRow w2.heap.size 5 1 pv' (1+z+5) ((padK n 5).map bv) from by rw [<-HST.out];exact own_cast hown4 (by rw [show (2:Nat) ^ (56 - 8*4)=16777216 from by decide];omega));clear hown4 hg4;go_frame);go_roundw
    case rel=>exact ⟨5,by omega,rfl,HO4.out,HX4.out⟩
    case measure=>simp [intOf]
   ·go_wp2_with (at_builtin;refine append_one elU8 w2.heap.size _ _ _ (HO.out.alloc _) wr.heap.size _ (.tmp 36) (.tmp 41) rfl rfl rfl rfl (by rw [cell_alloc_new rfl];rfl) rfl (by omega) (by have:=HX.out.size;simp;omega) ?_;intro pv' w4 hown4 hg4 _;have HX4:=lh (ext_own (HX.out.alloc _) (Nat.le_refl _) (HO.out.alloc _) hg4);have HO4:=lh (show w4.ownsRow w2.heap.size 5 1 pv' (1+z+6) ((padK n 6).map bv) from by rw [<-HST.out];exact own_cast hown4 (by rw [show (2:Nat) ^ (56 - 8*5)=65536 from by decide];omega));clear hown4 hg4;go_frame);go_roundw
    case rel=>exact ⟨6,by omega,rfl,HO4.out,HX4.out⟩
    case measure=>simp [intOf]
   ·go_wp2_with (at_builtin;refine append_one elU8 w2.heap.size _ _ _ (HO.out.alloc _) wr.heap.size _ (.tmp 36) (.tmp 41) rfl rfl rfl rfl (by rw [cell_alloc_new rfl];rfl) rfl (by omega) (by have:=HX.out.size;simp;omega) ?_;intro pv' w4 hown4 hg4 _;have HX4:=lh (ext_own (HX.out.alloc _) (Nat.le_refl _) (HO.out.alloc _) hg4);have HO4:=lh (show w4.ownsRow w2.heap.size 5 1 pv' (1+z+7) ((padK n 7).map bv) from by rw [<-HST.out];exact own_cast hown4 (by rw [show (2:Nat) ^ (56 - 8*6)=256 from by decide];omega));clear hown4 hg4;go_frame);go_roundw
    case rel=>exact ⟨7,by omega,rfl,HO4.out,HX4.out⟩
    case measure=>simp [intOf]
   ·go_wp2_with (at_builtin;refine append_one elU8 w2.heap.size _ _ _ (HO.out.alloc _) wr.heap.size _ (.tmp 36) (.tmp 41) rfl rfl rfl rfl (by rw [cell_alloc_new rfl];rfl) rfl (by omega) (by have:=HX.out.size;simp;omega) ?_;intro pv' w4 hown4 hg4 _;have HX4:=lh (ext_own (HX.out.alloc _) (Nat.le_refl _) (HO.out.alloc _) hg4);have HO4:=lh (show w4.ownsRow w2.heap.size 5 1 pv' (1+z+8) ((padK n 8).map bv) from by rw [<-HST.out];exact own_cast hown4 (by rw [show (2:Nat) ^ (56 - 8*7)=1 from by decide];omega));clear hown4 hg4;go_frame);go_roundw
    case rel=>exact ⟨8,by omega,rfl,HO4.out,HX4.out⟩
    case measure=>simp [intOf]
  ·obtain rfl:k=8:=by omega
   rw [padK_full] at ho;have HO:=lh ho;obtain ⟨wb,rfl⟩:∃ x,x=wr:=⟨_,rfl⟩;have HXB:=lh hx;have hne:w.heap.size≠w1.heap.size:=by have:=X1.out.size;have:=HS1.out;omega
   have hrt:1≠w1.heap.size:=by have:=HT.out.lt.1;have:=X1.out.size;omega
   have XWB:=lh ((X1.out.trans X2.out).trans hx);have hst:StAt wb w1.heap.size m:=⟨r,HR.out,HP.out,by rw [hx.block (ltB HB2.out),HB2.out,HC.out,HN.out];rfl⟩;have hwr:=lh (write_any m (padL n) w1.heap.size _ wb hst (bytesOff_owns ho HW12.out) (XWB.out |> fun x=>(HT.out.ext x).roots) hrt (by have:=HN.out;rw [padL_len];unfold zerosOf;omega));clear ho hx hst hrt;go_wp2_with fail;refine hwr.out.mono ?_;rintro e w5 ⟨rfl,hst5,ht5⟩;obtain ⟨out,hout⟩:∃ out,out=shaL m:=⟨_,rfl⟩;have hol:out.length=32:=by rw [hout,shaL_len]
   obtain ⟨V,hV⟩:∃ V,V=digN (padded m) ((padded m).length / 64):=⟨_,rfl⟩;have HOUT:=lh hout;have HOL:=lh hol
   have HWD:∀ (i k:Nat) x,V.list[i]?=some x->k<4->out[4*i+k]?=some (byteOf (x.toNat / 2 ^ (24 - 8*k))):=fun i k x h hk=>by
    have:=sha_word V i k x h hk;rw [hV] at this;rw [hout];exact this
   have HWDh:=lh HWD;have X5:=lh (ht5.fresh XWB.out X1.out.size)
   have hb0:w5.heap[w.heap.size]?=some (hObj out 0):=by
    rw [ht5.block _ (Nat.lt_of_lt_of_le (ltB HB0.out) (X2.out.trans HXB.out).size) (fun e=>hne (Option.some.inj e)),(X2.out.trans HXB.out).block (ltB HB0.out)];exact HB0.out
   have HB05:=lh hb0;obtain ⟨r5,_,_,hb5⟩:=hst5;rw [show m++padL n=padded m from by rw [HN.out];rfl,<-hV] at hb5;have s0:w5.cell? ⟨w1.heap.size,0,none⟩=some (.int .u32 V.a.toNat):=(cellB hb5).trans (stC_word _ _ _ 0 _ rfl);have s1:w5.cell? ⟨w1.heap.size,1,none⟩=some (.int .u32 V.b.toNat):=(cellB hb5).trans (stC_word _ _ _ 1 _ rfl);have s2:w5.cell? ⟨w1.heap.size,2,none⟩=some (.int .u32 V.c.toNat):=(cellB hb5).trans (stC_word _ _ _ 2 _ rfl);have s3:w5.cell? ⟨w1.heap.size,3,none⟩=some (.int .u32 V.d.toNat):=(cellB hb5).trans (stC_word _ _ _ 3 _ rfl);have s4:w5.cell? ⟨w1.heap.size,4,none⟩=some (.int .u32 V.e.toNat):=(cellB hb5).trans (stC_word _ _ _ 4 _ rfl);have s5:w5.cell? ⟨w1.heap.size,5,none⟩=some (.int .u32 V.f.toNat):=(cellB hb5).trans (stC_word _ _ _ 5 _ rfl);have s6:w5.cell? ⟨w1.heap.size,6,none⟩=some (.int .u32 V.g.toNat):=(cellB hb5).trans (stC_word _ _ _ 6 _ rfl);have s7:w5.cell? ⟨w1.heap.size,7,none⟩=some (.int .u32 V.h.toNat):=(cellB hb5).trans (stC_word _ _ _ 7 _ rfl);clear hout hol hV HWD hb0 hb5 ht5 hwr;go_wp2_with fail;clear s0 s1 s2 s3 s4 s5 s6 s7;go_loopw [47] (fun iv wr=>Hid (∃ i:Nat,i<=8/\iv=.int .i64 i/\Touch w.heap.size w5 wr/\wr.heap[w.heap.size]?=some (hObj out (4*i)))) (fun iv _=>8 - (intOf iv).toNat)
   case atStart=>exact ⟨0,by omega,rfl,Touch.of (Ext.refl _),HB05.out⟩
   case round =>
    obtain ⟨i,hi,rfl,ht,hb⟩:=hrel.out;clear hrel;have HTI:=lh ht;have HBI:=lh hb;clear ht hb;by_cases hi8:i<8
    ·obtain ⟨x,hx⟩:∃ x,V.list[i]?=some x:=⟨_,List.getElem?_eq_getElem (by show i<8;exact hi8)⟩;have hidx:=fun w=>index_words V i x hx w;have HXL:=lh hx;clear hx;go_wp2_with fail;clear hidx;obtain ⟨wi,rfl⟩:∃ x,x=wr:=⟨_,rfl⟩;go_loopw [51] (fun kv wr=>Hid (∃ k:Nat,k<=4/\kv=.int .i64 k/\Touch w.heap.size w5 wr/\wr.heap[w.heap.size]?=some (hObj out (4*i+k)))) (fun kv _=>4 - (intOf kv).toNat)
     case atStart=>exact ⟨0,by omega,rfl,HTI.out,HBI.out⟩
     case round =>
      obtain ⟨k,hk,rfl,ht,hb⟩:=hrel.out;clear hrel;have HTK:=lh ht;have HBK:=lh hb;clear ht;have fr:∀ k,wr.frozen? ⟨w.heap.size,k,none⟩=false:=fun k=>frozenB hb;by_cases hk4:k<4
      ·obtain ⟨u,hu⟩:=hArr_at out (4*i+k) (4*i+k) HOL.out (by omega) (by omega);have cu:wr.cell? ⟨w.heap.size,4*i+k,none⟩=some u:=(cellB hb).trans hu;clear hb hu;have hd:k=0\/k=1\/k=2\/k=3:=by omega
       rcases hd with rfl | rfl | rfl | rfl
       ·replace cu:wr.cell? ⟨w.heap.size,4*i,none⟩=some u:=cu
        go_wp2_with fail;go_roundw
        case rel=>exact ⟨1,by omega,rfl,HTK.out.setCell _,by rw [setCellB HBK.out];exact congrArg some (hObj_set out (4*i+0) _ _ (HWDh.out i 0 _ HXL.out (by omega)) HOL.out (by have:=x.isLt;show _=((x.toNat / 2 ^ (24 - 8*0) % 256:Nat):Int);rw [show (2:Nat) ^ (24 - 8*0)=16777216 from by decide];omega))⟩
        case measure=>simp [intOf]
       ·go_wp2_with fail;go_roundw
        case rel=>exact ⟨2,by omega,rfl,HTK.out.setCell _,by rw [setCellB HBK.out];exact congrArg some (hObj_set out (4*i+1) _ _ (HWDh.out i 1 _ HXL.out (by omega)) HOL.out (by have:=x.isLt;show _=((x.toNat / 2 ^ (24 - 8*1) % 256:Nat):Int);rw [show (2:Nat) ^ (24 - 8*1)=65536 from by decide];omega))⟩
        case measure=>simp [intOf]
       ·go_wp2_with fail;go_roundw
        case rel=>exact ⟨3,by omega,rfl,HTK.out.setCell _,by rw [setCellB HBK.out];exact congrArg some (hObj_set out (4*i+2) _ _ (HWDh.out i 2 _ HXL.out (by omega)) HOL.out (by have:=x.isLt;show _=((x.toNat / 2 ^ (24 - 8*2) % 256:Nat):Int);rw [show (2:Nat) ^ (24 - 8*2)=256 from by decide];omega))⟩
        case measure=>simp [intOf]
       ·go_wp2_with fail;go_roundw
        case rel=>exact ⟨4,by omega,rfl,HTK.out.setCell _,by rw [setCellB HBK.out];exact congrArg some (hObj_set out (4*i+3) _ _ (HWDh.out i 3 _ HXL.out (by omega)) HOL.out (by have:=x.isLt;show _=((x.toNat / 2 ^ (24 - 8*3) % 256:Nat):Int);rw [show (2:Nat) ^ (24 - 8*3)=1 from by decide];omega))⟩
        case measure=>simp [intOf]
      ·obtain rfl:k=4:=by omega
       clear hb fr;go_wp2_with fail;go_roundw
       case rel=>exact ⟨i+1,by omega,by go_num,HTK.out,by rw [show 4*(i+1)=4*i+4 from by omega];exact HBK.out⟩
       case measure=>simp [intOf];omega
    ·obtain rfl:i=8:=by omega
     have hsz:(hArr out (4*8)).size=32:=hArr_size out 32 HOL.out (by omega);have HSZ2:=lh hsz;clear hsz
     go_wp2_with (first
      | (refine wpList_load_row rfl _ _ rfl w.heap.size rfl 54 (hArr out (4*8)) (0,0) _ HBI.out underlying54 rfl (by rw [HSZ2.out];kernel_rfl) ?_;go_frame)
      | (refine wpList_storeT rfl _ _ _ rfl w.heap.size (hArr out (4*8)) rfl rfl 54 _ HBI.out (by rw [HSZ2.out];kernel_rfl) rfl (hArr_one _ _) ?_;intro w6 hb6 ht6;have HB6:=lh hb6;have HT6:=lh ht6;clear hb6 ht6;go_frame))
     refine bodyPost_ret (results_cell_row rfl _ _ w.heap.size 54 _ (0,0) _ rfl HB6.out underlying54 rfl (by rw [HSZ2.out];kernel_rfl)) rfl ⟨by rw [HOUT.out],?_⟩;exact (HTI.out.trans HT6.out).fresh X5.out (Nat.le_refl _)
end
section
end
section
theorem bytesOff_any {b b':Nat} {w w':World} {v:Value} {l:List UInt8} (h:BytesOff b w v l) (x:Ext w w') (hb:w.heap.size<=b'):BytesOff b' w' v l:=by
 obtain ⟨a,cap,h1,h2,h3,h4⟩:=h;refine ⟨a,cap,h1,h2,h3,fun hp=>?_⟩;obtain ⟨g,o,e1,e2,e3,e4⟩:=h4 hp;exact ⟨g,o,e1,by omega,Nat.lt_of_lt_of_le e3 x.size,fun j y hj=>(x.cell e3).trans (e4 j y hj)⟩
theorem World.size_alloc_heap (w:World) (o:Obj):(w.alloc o).heap.size=w.heap.size+1:=by simp
def hashV (l:List UInt8):Value:=.agg (hArr l 32)
set_option maxHeartbeats 1000000 in
set_option maxRecDepth 100000 in
theorem sum_any (b:List UInt8) (v:Value) (w:World) (T:ShaTabs w) (hv:BytesOff w.heap.size w v b) (hm:b.length<=1048576) :
  Calls prog 73 #[v] w fun e w'=>e=.returned (hashV (shaL b))/\Ext w w':=by
 have HT:=lh T;have HV:=lh hv;have hss:(hArr (shaL b) 32).size=32:=hArr_size _ _ (shaL_len b) (by omega);have HSS:=lh hss;have HN:=fun w T=>lh (new_any w T);have HW:=fun bs w h1 h2 h3 h4=>lh (write_any [] b bs v w h1 h2 h3 h4 (by simp;omega));have HS:=fun bs w T h=>lh (ssum_any b bs w T h hm);unfold hashV;generalize shaL b=out at *;clear T hv hss;go_enter func73,ntmps73;go_wp2_with fail;refine (HN _ (HT.out.ext ((Ext.refl w).alloc _))).out.mono ?_;rintro e w2 ⟨rfl,hst2,hx2⟩;have X2:=lh (((Ext.refl w).alloc _).trans hx2);have HB0:=lh (show w2.heap[w.heap.size]?=some (.cells (hArr [] 0) 54 (0,0)) from (hx2.block (by simp)).trans (heap_alloc_new w _));have hlt:=lh (HT.out.lt.1);simp only [World.size_alloc_heap] at hst2 ⊢;have HST:=lh hst2;clear hst2 hx2;go_wp2_with fail;refine (HW (w.heap.size+1) _ HST.out (bytesOff_any HV.out X2.out (by omega)) (HT.out.ext X2.out).roots (by have:=hlt.out;omega)).out.mono ?_;rintro e w3 ⟨rfl,hst3,ht3⟩;have X3:=lh (ht3.fresh X2.out (by omega));have HB3:=lh ((ht3.block _ (ltB HB0.out) (fun e=>by have:=Option.some.inj e;omega)).trans HB0.out);have HST3:=lh (show StAt w3 (w.heap.size+1) b from hst3);clear hst3 ht3;go_wp2_with fail;refine (HS _ _ (HT.out.ext X3.out) HST3.out).out.mono ?_;rintro e w4 ⟨rfl,hx4⟩;have HB4:=lh ((hx4.block (ltB HB3.out)).trans HB3.out);have X4:=lh (X3.out.trans hx4);clear hx4;go_wp2_with (refine wpList_storeT rfl _ _ _ rfl w.heap.size (hArr out 32) rfl rfl 54 _ HB4.out (by rw [HSS.out];kernel_rfl) (by rw [HSS.out];rfl) (hArr_one _ _) ?_;intro w6 hb6 ht6;have HB6:=lh hb6;have HT6:=lh ht6;clear hb6 ht6;go_frame);refine bodyPost_ret (results_cell_row rfl _ _ w.heap.size 54 _ (0,0) _ rfl HB6.out underlying54 rfl (by rw [HSS.out];kernel_rfl)) rfl ⟨rfl,HT6.out.fresh X4.out (Nat.le_refl _)⟩
end
section
end
section
def rootsTab:List Int:=kTab.map fun (n:Nat)=>(n:Int)
def firstTab:List Int:=first8.list.map fun x=>(x.toNat:Int)
theorem roots_data:(Lib.tabData .u32 rootsTab:DataW Unit)=Rows.laid_caravan_sha_roots:=by kernel_rfl
theorem first_data:(Lib.tabData .u32 firstTab:DataW Unit)=Rows.laid_caravan_sha_first:=by kernel_rfl
theorem sha_of {laid:List (String×DataW Unit)} {W:World} (hl:laidMet prog laid W) (i j:Nat) (h1:laid[i]?=some ("caravan/sha.first",Rows.laid_caravan_sha_first)) (h2:laid[j]?=some ("caravan/sha.roots",Rows.laid_caravan_sha_roots)):ShaTabs W:=by
 obtain ⟨_,h,_⟩:=hl;have t1:Lib.TabIs prog W "caravan/sha.first" .u32 firstTab:=tabIs_of_mem (g:=0) (t:=292) (e:=40) (n:=8) (by kernel_rfl) (by kernel_rfl) (by kernel_rfl) (by kernel_rfl) (by kernel_rfl) (by kernel_rfl) h (by rw [first_data];exact List.mem_of_getElem? h1);have t2:Lib.TabIs prog W "caravan/sha.roots" .u32 rootsTab:=tabIs_of_mem (g:=1) (t:=338) (e:=40) (n:=64) (by kernel_rfl) (by kernel_rfl) (by kernel_rfl) (by kernel_rfl) (by kernel_rfl) (by kernel_rfl) h (by rw [roots_data];exact List.mem_of_getElem? h2);refine ⟨fun k hk=>?_,fun k x hx=>?_⟩
 ·have:=t2.cell (g:=1) (by kernel_rfl) k (by simpa [rootsTab,kTab] using hk);rw [this,show rootsTab.getD k 0=((kAt k).toNat:Int) from ?_];have hs:∀ j,j<64->rootsTab.getD j 0=((kAt j).toNat:Int):=by decide
  exact hs k hk
 ·have hk:k<8:=(List.getElem?_eq_some_iff.1 hx).1;have:=t1.cell (g:=0) (by kernel_rfl) k (by simpa [firstTab,V8.list] using hk);rw [this];unfold firstTab wv;rw [List.getD_eq_getElem?_getD,List.getElem?_map,hx];rfl
end
section
def sizeN (n:Nat):Nat:=if n<=512 then 16 else if n<=1024 then 32 else if n<=2048 then 64 else 128
def sizeZ (n:Int):Int:=if n<0\/4096<n then 0 else (sizeN n.toNat:Nat)
def countN (n:Nat):Nat:=(n+sizeN n - 1) / sizeN n
def countZ (n:Int):Int:=if n<0\/4096<n then 0 else (countN n.toNat:Nat)
def partL (d:List UInt8) (i:Nat):List UInt8:=(d.drop (i*sizeN d.length)).take (sizeN d.length)
theorem sizeN_spec (n:Nat):(n<=512/\sizeN n=16)\/(512<n/\n<=1024/\sizeN n=32)\/(1024<n/\n<=2048/\sizeN n=64)\/(2048<n/\sizeN n=128):=by
 unfold sizeN;split
 ·exact .inl ⟨by omega,rfl⟩
 ·split
  ·exact .inr (.inl ⟨by omega,by omega,rfl⟩)
  ·split
   ·exact .inr (.inr (.inl ⟨by omega,by omega,rfl⟩))
   ·exact .inr (.inr (.inr ⟨by omega,rfl⟩))
theorem count_spec (n:Nat) (i:Nat):i<countN n↔i*sizeN n<n:=by
 unfold countN;have h:=sizeN_spec n;have hs:0<sizeN n:=by omega
 rw [Nat.lt_iff_add_one_le,Nat.le_div_iff_mul_le hs,Nat.add_mul,Nat.one_mul];omega
theorem count_le {n:Nat} (h:n<=4096):countN n<=32:=by
 unfold countN;rcases sizeN_spec n with ⟨h1,h2⟩ | ⟨_,h1,h2⟩ | ⟨_,h1,h2⟩ | ⟨h1,h2⟩ <;> rw [h2] <;> omega
theorem part_len (d:List UInt8) (i:Nat):(partL d i).length=min (sizeN d.length) (d.length - i*sizeN d.length):=by simp [partL]
set_option maxHeartbeats 1000000 in
theorem bsize_any (n:Int) (w:World) (hlo:-9223372036854775808<=n) (hhi:n<=9223372036854775807) :
  Calls prog 136 #[.int .i64 n] w fun e w'=>e=.returned (.int .i64 (sizeZ n))/\w'=w:=by
 have HS:=lh (show sizeZ n=if n<0\/4096<n then (0:Int) else ((sizeN n.toNat:Nat):Int) from rfl);generalize sizeZ n=S at *;by_cases h1:n<0
 ·have d1:decide (n<0)=true:=decide_eq_true h1;have HR:=lh (HS.out.trans (if_pos (.inl h1)));go_enter func136,ntmps136;go_wp2_with fail;go_ret;exact ⟨ret_int HR.out.symm,rfl⟩
 ·have d1:decide (n<0)=false:=decide_eq_false h1;by_cases h2:4096<n
  ·have d2:decide (4096<n)=true:=decide_eq_true h2;have HR:=lh (HS.out.trans (if_pos (.inr h2)));go_enter func136,ntmps136;go_wp2_with fail;go_ret;exact ⟨ret_int HR.out.symm,rfl⟩
  ·have d2:decide (4096<n)=false:=decide_eq_false h2;have HR:=lh (HS.out.trans (if_neg (by omega)));obtain ⟨m,rfl⟩:∃ m:Nat,n=(m:Int):=⟨n.toNat,by omega⟩;have hm:m<=4096:=by omega
   have hsp:=sizeN_spec m;have HR2:=lh (show S=(sizeN m:Nat) from by rw [HR.out];simp);generalize sizeN m=z at *;clear HR HS h1 h2 hlo hhi;go_enter func136,ntmps136;go_wp2_with fail;go_loop [3] (fun sv=>∃ s:Nat,sv=.int .i64 s/\(s=16\/s=32\/s=64\/s=128)/\s<=z) (fun sv=>4096 - (intOf sv).toNat)
   case atStart=>exact ⟨16,rfl,.inl rfl,by omega⟩
   case round =>
    obtain ⟨s,rfl,hs,hz⟩:=hrel;have q1:IntKind.i64.wrap ((s:Int)*32)=(s:Int)*32:=IntWalk.i64_in _ (by omega);have q2:IntKind.i64.wrap ((s:Int)*2)=(s:Int)*2:=IntWalk.i64_in _ (by omega);by_cases hlt:s*32<m
    ·have d3:decide ((s:Int)*32<(m:Int))=true:=by rw [decide_eq_true_eq];omega
     go_wp2_with fail;go_round
     case rel=>exact ⟨s*2,by congr 1,by omega,by omega⟩
     case measure=>simp [intOf];omega
    ·have d3:decide ((s:Int)*32<(m:Int))=false:=by rw [decide_eq_false_iff_not];omega
     have HE:=lh (show S=(s:Nat) from by rw [HR2.out];omega);go_wp2_with fail;go_ret;exact ⟨ret_int HE.out.symm,rfl⟩
theorem bcount_any (n:Int) (w:World) (hlo:-9223372036854775808<=n) (hhi:n<=9223372036854775807) :
  Calls prog 72 #[.int .i64 n] w fun e w'=>e=.returned (.int .i64 (countZ n))/\w'=w:=by
 have HC:=lh (show countZ n=if n<0\/4096<n then (0:Int) else ((countN n.toNat:Nat):Int) from rfl);have HB:=lh (bsize_any n w hlo hhi);have HS:=lh (show sizeZ n=if n<0\/4096<n then (0:Int) else ((sizeN n.toNat:Nat):Int) from rfl);generalize sizeZ n=S at *;generalize countZ n=C at *;by_cases h:n<0\/4096<n
 ·have HS2:=HS.out.trans (if_pos h);subst HS2;have HR:=lh (HC.out.trans (if_pos h));clear HS HC;go_enter func72,ntmps72;go_wp2_with fail;refine HB.out.mono ?_;rintro e w1 ⟨rfl,hw⟩;obtain rfl:=hw.symm;clear hw;go_wp2_with fail;go_ret;exact ⟨ret_int HR.out.symm,rfl⟩
 ·obtain ⟨m,rfl⟩:∃ m:Nat,n=(m:Int):=⟨n.toNat,by omega⟩;have hm:m<=4096:=by omega
  have HS2:=HS.out.trans (if_neg h);have HR:=lh (show C=((m+sizeN m - 1) / sizeN m:Nat) from by rw [HC.out,if_neg h];rfl);have hsp:=sizeN_spec m;rw [Int.toNat_natCast] at HS2;generalize sizeN m=z at *;subst HS2;clear HS HC h;have hz:0<z:=by omega
  have z0:((z:Int)==0)=false:=by rw [beq_eq_false_iff_ne];omega
  have z1:(z:Int)≠0:=by omega
  have z2:¬ z=0:=by omega
  have q1:IntKind.i64.wrap ((m:Int)+(z:Int))=(m:Int)+(z:Int):=IntWalk.i64_in _ (by omega);have q2:IntKind.i64.wrap ((m:Int)+(z:Int) - 1)=((m+z - 1:Nat):Int):=(IntWalk.i64_in _ (by omega)).trans (by omega);obtain ⟨c,hc⟩:∃ c,c=(m+z - 1) / z:=⟨_,rfl⟩;have hdv:c<=m+z - 1:=hc▸Nat.div_le_self _ _;have q3:((m+z - 1:Nat):Int).tdiv (z:Int)=(c:Int):=by rw [hc,Int.ofNat_tdiv]
  have q5:((m+z - 1:Nat):Int) / (z:Int)=(c:Int):=by rw [hc,Int.natCast_ediv]
  have q4:IntKind.i64.wrap (c:Int)=(c:Int):=IntWalk.i64_in _ (by omega);rw [<-hc] at HR;clear hc;go_enter func72,ntmps72;go_wp2_with fail;refine HB.out.mono ?_;rintro e w1 ⟨rfl,hw⟩;obtain rfl:=hw.symm;clear hw;go_wp2_with fail;go_ret;exact ⟨ret_int HR.out.symm,rfl⟩
theorem bytesOff_cut {b g o n lo cap:Nat} {w:World} {l m:List UInt8} (hm:m=(l.drop lo).take n) (hn:m.length=n) (hlo:lo+n<=l.length) (hc:l.length<=cap) (hcm:cap<=maxLen) (hg:g≠b) (hl:g<w.heap.size) (hcell:∀ (j:Nat) x,l[j]?=some x->w.cell? ⟨g,o+j,none⟩=some (bv x)) :
  BytesOff b w (.slice (some ⟨g,o+lo,none⟩) n (cap - lo)) m:=by
 refine ⟨_,_,by rw [hn],by omega,by omega,fun _=>⟨g,o+lo,rfl,hg,hl,fun j x hj=>?_⟩⟩;have hjn:j<n:=by have:=(List.getElem?_eq_some_iff.1 hj).1;omega
 rw [hm,List.getElem?_take,if_pos hjn,List.getElem?_drop] at hj;have:=hcell (lo+j) x hj
 rwa [<-Nat.add_assoc] at this
set_option maxRecDepth 100000 in
set_option maxHeartbeats 1000000 in
theorem bpart_any (b:Nat) (l:List UInt8) (v:Value) (i:Nat) (w:World) (hv:BytesOff b w v l) (hl:l.length<=4096) (hi:i<countN l.length) :
  Calls prog 74 #[v,.int .i64 i] w fun e w'=>w'=w/\∃ u,e=.returned u/\Hid (BytesOff b w u (partL l i)):=by
 obtain ⟨a,cap,rfl,h1,h2,h3⟩:=hv;have hlt:=(count_spec l.length i).1 hi;have HB:=lh (bsize_any (l.length:Int) w (by omega) (by omega));rw [show sizeZ (l.length:Int)=(sizeN l.length:Nat) from by unfold sizeZ;rw [if_neg (by omega)];simp] at HB;obtain ⟨g,o,rfl,hg,hgl,hcell⟩:=h3 (by omega);have hpl:=part_len l i;have HP:=lh (show partL l i=(l.drop (i*sizeN l.length)).take (sizeN l.length) from rfl);have hsp:=sizeN_spec l.length;have hi32:=count_le hl;obtain ⟨n,hn⟩:∃ n,n=l.length:=⟨_,rfl⟩;have HN:=lh hn;rw [<-hn] at h1 hlt HB hpl HP hl hsp hi hi32 ⊢;generalize sizeN n=z at *;obtain ⟨lo,hlo⟩:∃ lo,lo=i*z:=⟨_,rfl⟩;obtain ⟨m,hm⟩:∃ m,m=min z (n - lo):=⟨_,rfl⟩;have hm1:lo+m<=n/\m<=z/\(m=z\/lo+m=n):=by omega
 have HFin:=lh (show BytesOff b w (.slice (some ⟨g,o+lo,none⟩) m (cap - lo)) (partL l i) from
  bytesOff_cut (by
   rw [HP.out,<-hlo,List.take_eq_take_iff,List.length_drop,<-HN.out]
   omega) (by rw [hpl,<-hlo,hm]) (by rw [<-HN.out];omega) (by rw [<-HN.out];omega) h2 hg hgl hcell)
 rw [<-hlo] at hlt;have q1:IntKind.i64.wrap ((i:Int)*(z:Int))=(lo:Int):=(IntWalk.i64_in _ (by rw [<-Int.natCast_mul,<-hlo];omega)).trans (by rw [<-Int.natCast_mul,<-hlo]);have q2:IntKind.i64.wrap ((i:Int)+1)=((i+1:Nat):Int):=(IntWalk.i64_in _ (by omega)).trans (by omega);have hmul:(i+1)*z=lo+z:=by rw [Nat.add_mul,Nat.one_mul,hlo]
 have q3:IntKind.i64.wrap (((i+1:Nat):Int)*(z:Int))=((lo+z:Nat):Int):=(IntWalk.i64_in _ (by rw [<-Int.natCast_mul,hmul];omega)).trans (by rw [<-Int.natCast_mul,hmul]);have q4:min (n:Int) ((lo+z:Nat):Int)=((lo+m:Nat):Int):=by omega
 have q5:(lo:Int)<=((lo+m:Nat):Int):=by omega
 have q6:((lo+m:Nat):Int)<=(cap:Int):=by omega
 have q7:lo+m - lo=m:=by omega
 have q8:¬ cap=lo:=by omega
 have hll:0<=(lo:Int):=by omega
 generalize hLM:lo+m=lm at *;generalize hIE:i+1=i1 at q2 q3;generalize hZE:lo+z=ze at q3 q4;unfold maxLen at h2;clear HP hpl hm hcell h3 hmul hlo hsp hm1 hlt hi32 hi hl HN hg hgl hLM hn hIE hZE;go_enter func74,ntmps74;go_wp2_with fail;refine HB.out.mono ?_;rintro e w1 ⟨rfl,hw⟩;obtain rfl:=hw.symm;clear hw;go_wp2_with fail;go_ret;exact ⟨rfl,_,rfl,HFin.out⟩
def hrow (hs:List (List UInt8)):List Value:=hs.flatMap fun h=>h.map bv
def hashesL (l:List UInt8):List (List UInt8):=(List.range (countN l.length)).map fun i=>shaL (partL l i)
theorem elHash:ElemK prog 43 54 (.agg (Array.replicate 32 (.int .u8 0))) 32 32:=⟨by kernel_rfl,by kernel_rfl,rfl,by decide,by decide⟩
theorem hArr_list {h:List UInt8} (hl:h.length=32):hArr h 32=(h.map bv).toArray:=by
 unfold hArr;rw [List.take_of_length_le (by omega)];simp
theorem fold_hash {A:Array Value} (hA:A.size=32) :
  Array.foldl (fun (cs:Array Value) (x:Value×Nat)=>cs.setIfInBounds x.snd x.fst) (Array.replicate 32 (Value.int .u8 0)) A.zipIdx 0 A.size=A:=by
 have h:=Go.Great.fill_whole (s:=32) (by decide) [.agg A] (Array.replicate 32 (Value.int .u8 0)) (fun v hv=>by rw [List.mem_singleton.1 hv];exact hA) (by simp);simp only [List.zipIdx_cons,List.zipIdx_nil,List.map_cons,List.map_nil,Instr.fill,Value.cells,hA,Nat.zero_mul,Nat.zero_add,Array.size_replicate] at h;rw [if_neg (by decide)] at h;simp only [Option.some.injEq,List.flatMap_cons,List.flatMap_nil,List.append_nil,Array.toArray_toList] at h;rw [<-hA] at h
 simpa [hA] using h
theorem grown_extB {w0 w w1:World} {base k:Nat} {e:TypeId} {v:Value} {n:Nat} {xs:List Value} (x:Ext w0 w) (hb:w0.heap.size<=base) (ho:w.ownsRow base e k v n xs) (hg:w.grownBy w1 v.ownBlock):Ext w0 w1 :=
 Below.trans x ⟨hg.os,hg.tape,hg.output,hg.size,fun i hi=>hg.block i (Nat.lt_of_lt_of_le hi x.size) fun e=>by have:=(ho.lt _ e.symm).1;omega⟩
theorem rowk_shape {w:World} {base n k:Nat} {e:TypeId} {v:Value} {xs:List Value} (h:w.ownsRow base e k v n xs):∃ (a:Option Addr) (cap:Nat),v=.slice a n cap:=by
 rcases h.2 with ⟨h1,h2⟩ | ⟨g,cap,cur,h1,_⟩
 ·exact ⟨none,0,by rw [h1,h2]⟩
 ·exact ⟨_,cap,h1⟩
def HsAt (w0:World) (l:List UInt8) (k:Nat) (v:Value) (wr:World):Prop :=
 wr.ownsRow w0.heap.size 54 32 v k (hrow ((List.range k).map fun i=>shaL (partL l i)))/\Ext w0 wr
set_option maxRecDepth 100000 in
set_option maxHeartbeats 2000000 in
theorem blist_any (l:List UInt8) (v:Value) (w:World) (T:ShaTabs w) (hv:BytesOff w.heap.size w v l) (hl:l.length<=4096) :
  Calls prog 21 #[v] w fun e w'=>∃ u,e=.returned (.tuple #[u,.int .i64 0])/\Hid (w'.ownsRow w.heap.size 54 32 u (countN l.length) (hrow (hashesL l))/\Ext w w'):=by
 have HC:=lh (bcount_any (l.length:Int) w (by omega) (by omega));rw [show countZ (l.length:Int)=(countN l.length:Nat) from by unfold countZ;rw [if_neg (by omega)];simp] at HC;have HP:=fun wr (x:Ext w wr) (i:Nat) hi=>lh (bpart_any wr.heap.size l v i wr (bytesOff_any hv x x.size) hl hi);have HSm:=fun wr (x:Ext w wr) (u:Value) i (h:BytesOff wr.heap.size wr u (partL l i))=>lh (sum_any (partL l i) u wr (T.ext x) h (by rw [part_len];omega));have hc32:=count_le hl;obtain ⟨a,cap,rfl,h1,h2,h3⟩:=hv;unfold maxLen at h2;have HH:=lh (show hashesL l=(List.range (countN l.length)).map fun i=>shaL (partL l i) from rfl);generalize hashesL l=hs at *;obtain ⟨n,hn⟩:∃ n,n=l.length:=⟨_,rfl⟩;rw [<-hn] at HC h1 hl HP hc32 HH ⊢;generalize countN n=c at *;clear h3 hn T;have d0:decide (4096<(n:Int))=false:=decide_eq_false (by omega);have d1:decide (4096<n)=false:=decide_eq_false (by omega);go_enter func21,ntmps21;go_wp2_with fail;refine HC.out.mono ?_;rintro e w1 ⟨rfl,hw⟩;obtain rfl:=hw.symm;clear hw;go_wp2_with fail;go_loopw [4,12] (fun lv iv wr=>Hid (∃ k:Nat,k<=c/\iv=.int .i64 k/\HsAt w l k lv wr)) (fun _ iv _=>c - (intOf iv).toNat)
 case atStart=>exact ⟨0,Nat.zero_le _,rfl,World.ownsRow_nil _ _ _ _,Ext.refl _⟩
 case round =>
  obtain ⟨k,hk,rfl,ho,hx⟩:=hrel.out;clear hrel;have HX:=lh hx;have HO:=lh ho;obtain ⟨oa,ocap,rfl⟩:=rowk_shape ho;by_cases hlt:k<c
  ·have HPk:=HP wr hx k hlt;clear ho hx HP;go_wp2_with fail;refine HPk.out.mono ?_;rintro e w2 ⟨hw,u,rfl,hu⟩;obtain rfl:=hw.symm;have HS:=HSm _ HX.out u k hu.out;clear hw HPk hu;have hsl:=shaL_len (partL l k);have HR:=lh (show hrow ((List.range (k+1)).map fun i=>shaL (partL l i))=hrow ((List.range k).map fun i=>shaL (partL l i))++(shaL (partL l k)).map bv from by simp [hrow,List.range_succ]);obtain ⟨H,hH⟩:∃ H,H=shaL (partL l k):=⟨_,rfl⟩;rw [<-hH] at HS hsl HR;unfold hashV at HS;clear hH HSm;obtain ⟨AH,hAH⟩:∃ A,A=hArr H 32:=⟨_,rfl⟩;have HAH:=lh hAH;rw [<-hAH] at HS;clear hAH;go_wp2_with fail;refine HS.out.mono ?_;rintro e w3 ⟨rfl,x3⟩;have HX3:=lh (HX.out.trans x3);have HO3:=lh (owns_ext HO.out x3);have hsz:=HX3.out.size;clear x3 HS HO HX;have hAz:AH.size=32:=by rw [HAH.out];exact hArr_size _ _ hsl (by omega)
   have HBu:=lh (fold_hash hAz);have HAl:=lh (show AH.toList=H.map bv from by rw [HAH.out,hArr_list hsl]);go_wp2_with (at_builtin;refine append_k elHash w.heap.size _ _ _ (HO3.out.alloc _) w3.heap.size (H.map bv) (by simp [hsl]) (.tmp 15) (.tmp 20) rfl rfl rfl rfl ?c1 ?c2 (by omega) (by simp;omega) ?_)
   case c1 =>
    intro j y hj;have hf:=HBu.out;rw [show Array.replicate 32 (Value.int .u8 0)=#[Value.int .u8 0,Value.int .u8 0,Value.int .u8 0,Value.int .u8 0,Value.int .u8 0,Value.int .u8 0,Value.int .u8 0,Value.int .u8 0,Value.int .u8 0,Value.int .u8 0,Value.int .u8 0,Value.int .u8 0,Value.int .u8 0,Value.int .u8 0,Value.int .u8 0,Value.int .u8 0,Value.int .u8 0,Value.int .u8 0,Value.int .u8 0,Value.int .u8 0,Value.int .u8 0,Value.int .u8 0,Value.int .u8 0,Value.int .u8 0,Value.int .u8 0,Value.int .u8 0,Value.int .u8 0,Value.int .u8 0,Value.int .u8 0,Value.int .u8 0,Value.int .u8 0,Value.int .u8 0] from rfl] at hf;rw [cell_alloc_new rfl,<-hj,<-HAl.out];rw [hAz] at hf;simp [hf]
   case c2 =>
    intro y hy;obtain ⟨z,_,rfl⟩:=List.mem_map.1 hy;rfl
   intro v' w4 hown4 hg4 hrow4;have HF:=lh (show HsAt w l (k+1) v' w4 from ⟨by rw [HR.out];exact hown4,grown_extB (HX3.out.alloc _) (Nat.le_refl _) (HO3.out.alloc _) hg4⟩);clear hown4 hg4 hrow4;go_wp2_with fail;go_roundw
   case rel=>exact ⟨k+1,by omega,by go_num,HF.out⟩
   case measure=>simp [intOf] <;> omega
  ·obtain rfl:k=c:=by omega
   have nlt:decide ((k:Int)<(k:Int))=false:=by simp
   clear ho hx HP HSm;go_wp2_with fail;go_ret2;refine ⟨_,rfl,?_⟩;rw [HH.out];exact ⟨HO.out,HX.out⟩
theorem run_eqItems_bytes (d:Nat) (w:World) (xs ys:Array Value) (a b:List UInt8) (hx:∀ (i:Nat) x,a[i]?=some x->xs[i]?=some (bv x)) (hy:∀ (i:Nat) x,b[i]?=some x->ys[i]?=some (bv x)) :
  ∀ (is:List Nat),(∀ i∈is,i<a.length/\i<b.length)->(Go.Op.eqItems (d+1) 5 1 xs ys is).run prog w=.ok (is.all fun i=>a[i]?==b[i]?) w
 | [],_=>by simp [Go.Op.eqItems]
 | i::is,h=>by
  obtain ⟨h1,h2⟩:=h i List.mem_cons_self;obtain ⟨x,hxa⟩:∃ x,a[i]?=some x:=⟨_,List.getElem?_eq_getElem h1⟩;obtain ⟨y,hyb⟩:∃ y,b[i]?=some y:=⟨_,List.getElem?_eq_getElem h2⟩;have p1:=run_part_plain (P:=prog) (w:=w) (e:=5) (by kernel_rfl) (off:=i) (hx i x hxa);have p2:=run_part_plain (P:=prog) (w:=w) (e:=5) (by kernel_rfl) (off:=i) (hy i y hyb);have p3:=run_equalIn_int (P:=prog) w d 5 .u8 .u8 (x.toNat:Int) (y.toNat:Int) (by kernel_rfl);have ih:=run_eqItems_bytes d w xs ys a b hx hy is fun j hj=>h j (List.mem_cons_of_mem _ hj);simp only [Go.Op.eqItems,Sem.run_bind,Nat.mul_one,p1,p2,bv,p3,Result.andThen_ok,List.all_cons,hxa,hyb]
  have he:((x.toNat:Int)==(y.toNat:Int))=(some x==some y):=by
   rw [Bool.eq_iff_iff,beq_iff_eq,beq_iff_eq,Option.some.injEq];constructor
   ·intro h;exact UInt8.toNat_inj.1 (by omega)
   ·intro h;rw [h]
  rw [he]
  cases hc:(some x==some y) with
  | false=>simp
  | true=>simpa using ih
theorem eq_hash (a b:List UInt8) (ha:a.length=32) (hb:b.length=32) (w:World):(Go.Op.equalIn 10000 54 (.agg (hArr a 32)) (.agg (hArr b 32))).run prog w=.ok (decide (a=b)) w:=by
 obtain ⟨i,hi,_,hsz,_⟩:=info_parts elU8.info;have hc:prog.cellsOf 5=1:=by kernel_rfl
 obtain ⟨d,hd⟩:∃ d,d+1+1=10000:=⟨9998,by omega⟩;rw [<-hd,run_equalIn_array w (d+1) _ _ (show prog.underlying 54=some (.array 32 5) by kernel_rfl) hi,hc]
 have key:∀ (c:List UInt8),c.length=32->∀ (i:Nat) x,c[i]?=some x->(hArr c 32)[i]?=some (bv x):=fun c hcl i x hx=>by
  rw [hArr_list hcl];simp [hx]
 have e:((List.range 32).all fun i=>a[i]?==b[i]?)=decide (a=b):=by
  rw [Bool.eq_iff_iff,List.all_eq_true,decide_eq_true_eq];constructor
  ·intro h;apply List.ext_getElem?;intro i;by_cases hi:i<32
   ·simpa using h i (List.mem_range.2 hi)
   ·rw [List.getElem?_eq_none (by omega),List.getElem?_eq_none (by omega)]
  ·rintro rfl i _;simp
 rw [run_eqItems_bytes d w _ _ a b (key a ha) (key b hb) (List.range 32) fun i hi=>by have:=List.mem_range.1 hi;omega,e]
end
end Go.Proofs.YtodickpibbbiiaaGreatDoor
