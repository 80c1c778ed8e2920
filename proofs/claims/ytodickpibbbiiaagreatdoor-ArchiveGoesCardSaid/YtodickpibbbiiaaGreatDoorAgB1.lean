import Derived.Test.YtodickpibbbiiaaGreatDoorAgA1
import Derived.Test.YtodickpibbbiiaaGreatDoorShelf
import Derived.Laws.BitsAllLaws
import Derived.Laws.CopyOwn
import Derived.Lib.AppendZerosOnto
import Derived.Lib.AppendZeros
import Derived.Great.FillDense
import Derived.ChangeKeysEq
open Go.Proofs.Tryz
namespace Go.Proofs.YtodickpibbbiiaaGreatDoor
open Go.RowKit
section
abbrev Wd:=BitVec 32
def rotr (x:Wd) (n:Nat):Wd:=x >>> n ||| x <<< (32 - n)
def sg0 (x:Wd):Wd:=rotr x 7 ^^^ rotr x 18 ^^^ x >>> 3
def sg1 (x:Wd):Wd:=rotr x 17 ^^^ rotr x 19 ^^^ x >>> 10
def big0 (x:Wd):Wd:=rotr x 2 ^^^ rotr x 13 ^^^ rotr x 22
def big1 (x:Wd):Wd:=rotr x 6 ^^^ rotr x 11 ^^^ rotr x 25
def chw (e f g:Wd):Wd:=(e &&& f) ^^^ (~~~e &&& g)
def mjw (a b c:Wd):Wd:=(a &&& b) ^^^ (a &&& c) ^^^ (b &&& c)
def wordAt (p:List UInt8) (t:Nat):Wd:=BitVec.ofNat 32 ((((p.getD (4*t) 0).toNat*256+(p.getD (4*t+1) 0).toNat)*256+(p.getD (4*t+2) 0).toNat)*256+(p.getD (4*t+3) 0).toNat)
def nextW (p:List UInt8) (w:List Wd) (t:Nat):Wd :=
 if t<16 then wordAt p t else w.getD (t - 16) 0+sg0 (w.getD (t - 15) 0)+w.getD (t - 7) 0+sg1 (w.getD (t - 2) 0)
def wordsL (p:List UInt8):Nat->List Wd
 | 0=>[]
 | t+1=>wordsL p t++[nextW p (wordsL p t) t]
structure V8 where
 (a b c d e f g h:Wd)
def rnd (v:V8) (k w:Wd):V8 :=
 let x:=v.h+big1 v.e+chw v.e v.f v.g+k+w
 let y:=big0 v.a+mjw v.a v.b v.c
 ⟨x+y,v.a,v.b,v.c,v.d+x,v.e,v.f,v.g⟩
def kTab:List Nat:=[
 0x428a2f98,0x71374491,0xb5c0fbcf,0xe9b5dba5,0x3956c25b,0x59f111f1,0x923f82a4,0xab1c5ed5,
 0xd807aa98,0x12835b01,0x243185be,0x550c7dc3,0x72be5d74,0x80deb1fe,0x9bdc06a7,0xc19bf174,
 0xe49b69c1,0xefbe4786,0x0fc19dc6,0x240ca1cc,0x2de92c6f,0x4a7484aa,0x5cb0a9dc,0x76f988da,
 0x983e5152,0xa831c66d,0xb00327c8,0xbf597fc7,0xc6e00bf3,0xd5a79147,0x06ca6351,0x14292967,
 0x27b70a85,0x2e1b2138,0x4d2c6dfc,0x53380d13,0x650a7354,0x766a0abb,0x81c2c92e,0x92722c85,
 0xa2bfe8a1,0xa81a664b,0xc24b8b70,0xc76c51a3,0xd192e819,0xd6990624,0xf40e3585,0x106aa070,
 0x19a4c116,0x1e376c08,0x2748774c,0x34b0bcb5,0x391c0cb3,0x4ed8aa4a,0x5b9cca4f,0x682e6ff3,
 0x748f82ee,0x78a5636f,0x84c87814,0x8cc70208,0x90befffa,0xa4506ceb,0xbef9a3f7,0xc67178f2]
def kAt (t:Nat):Wd:=BitVec.ofNat 32 (kTab.getD t 0)
def rounds (v:V8) (ws:List Wd):Nat->V8
 | 0=>v
 | t+1=>rnd (rounds v ws t) (kAt t) (ws.getD t 0)
def V8.add (x y:V8):V8:=⟨x.a+y.a,x.b+y.b,x.c+y.c,x.d+y.d,x.e+y.e,x.f+y.f,x.g+y.g,x.h+y.h⟩
def comp (s:V8) (p:List UInt8):V8:=s.add (rounds s (wordsL p 64) 64)
def first8:V8:=⟨0x6a09e667,0xbb67ae85,0x3c6ef372,0xa54ff53a,0x510e527f,0x9b05688c,0x1f83d9ab,0x5be0cd19⟩
def digN (m:List UInt8):Nat->V8
 | 0=>first8
 | n+1=>comp (digN m n) ((m.drop (64*n)).take 64)
def zerosOf (n:Nat):Nat:=(119 - n % 64) % 64
def byteOf (n:Nat):UInt8:=UInt8.ofNat n
def be8 (n:Nat):List UInt8:=[byteOf (n / 2 ^ 56),byteOf (n / 2 ^ 48),byteOf (n / 2 ^ 40),byteOf (n / 2 ^ 32),byteOf (n / 2 ^ 24),byteOf (n / 2 ^ 16),byteOf (n / 2 ^ 8),byteOf n]
def padL (n:Nat):List UInt8:=128::List.replicate (zerosOf n) 0++be8 (8*n)
def padded (m:List UInt8):List UInt8:=m++padL m.length
def V8.list (v:V8):List Wd:=[v.a,v.b,v.c,v.d,v.e,v.f,v.g,v.h]
def outB (w:Wd):List UInt8:=[byteOf (w.toNat / 2 ^ 24),byteOf (w.toNat / 2 ^ 16),byteOf (w.toNat / 2 ^ 8),byteOf w.toNat]
def shaL (m:List UInt8):List UInt8:=((digN (padded m) ((padded m).length / 64)).list.map outB).flatten
end
section
end
section
def wv (x:Wd):Value:=.int .u32 x.toNat
def bv (x:UInt8):Value:=.int .u8 x.toNat
def V8.get (v:V8):Array Value:=#[wv v.a,wv v.b,wv v.c,wv v.d,wv v.e,wv v.f,wv v.g,wv v.h]
def Touch (b:Nat) (w w':World):Prop:=w.grownBy w' (some b)
theorem Touch.of {b:Nat} {w w':World} (h:Ext w w'):Touch b w w':=⟨h.os,h.tape,h.output,h.size,fun _ hi _=>h.block hi⟩
theorem Touch.trans {b:Nat} {u v w:World} (h:Touch b u v) (k:Touch b v w):Touch b u w:=World.grownBy.andThen h k fun _ e=>.inr e
end
section
end
section
end
section
structure ShaTabs (w:World):Prop where
 roots:∀ k,k<64->w.cell? ⟨1,k,none⟩=some (.int .u32 (kAt k).toNat)
 first:∀ (k:Nat) x,first8.list[k]?=some x->w.cell? ⟨0,k,none⟩=some (wv x)
end
section
theorem wpList_storeT {P:Program} {ops:Array Oper} {rest:List Oper} {o:Oper} {a:Act} {w:World} {Q:Exit->Act->World->Prop} (hgd:o.guard=none) (ty:TypeId) (x y:Operand) (ho:o.op=.store ty x y)
  (g:Nat) (cells:Array Value) (hx:a.eval x=.pointer (some ⟨g,0,none⟩)) (hy:a.eval y=.agg cells)
  (t:TypeId) (old:Array Value) (hg:w.heap[g]?=some (.cells old t (0,0))) (hi:(P.info? ty).map (·.size)=some cells.size)
  (hold:old.size=cells.size) (h1:cells.all (·.oneCell')=true)
  (h:∀ w1,w1.heap[g]?=some (.cells cells t (0,0))->Touch g w w1->wpList P ops Q rest (a.put o.dst undef) w1):wpList P ops Q (o::rest) a w :=
 wpList_store_row hgd ty x y ho g cells hx hy t old hg hi hold h1 (h _ (setRow_heap _ _ _ _ _ _ hg) ⟨rfl,rfl,rfl,by rw [setRow_size];exact Nat.le_refl _,fun i _ hne=>setRow_other _ _ _ _ fun e=>hne (by rw [e])⟩)
theorem Touch.fresh {b:Nat} {u v w:World} (h:Touch b v w) (x:Ext u v) (hb:u.heap.size<=b):Ext u w :=
 Below.trans x ⟨h.os,h.tape,h.output,h.size,fun i hi=>h.block i (Nat.lt_of_lt_of_le hi x.size) fun e=>by have:=Option.some.inj e;omega⟩
theorem ext_own {w0 w w1:World} {base k:Nat} {e:TypeId} {v:Value} {n:Nat} {xs:List Value} (x:Ext w0 w) (hb:w0.heap.size<=base) (ho:w.ownsRow base e k v n xs) (hg:w.grownBy w1 v.ownBlock):Ext w0 w1 :=
 Below.trans x ⟨hg.os,hg.tape,hg.output,hg.size,fun i hi=>hg.block i (Nat.lt_of_lt_of_le hi x.size) fun e=>by have:=(ho.lt _ e.symm).1;omega⟩
end
section
end
section
end
section
end
section
def sizeN (n:Nat):Nat:=if n<=512 then 16 else if n<=1024 then 32 else if n<=2048 then 64 else 128
def countN (n:Nat):Nat:=(n+sizeN n - 1) / sizeN n
def partL (d:List UInt8) (i:Nat):List UInt8:=(d.drop (i*sizeN d.length)).take (sizeN d.length)
def hrow (hs:List (List UInt8)):List Value:=hs.flatMap fun h=>h.map bv
def hashesL (l:List UInt8):List (List UInt8):=(List.range (countN l.length)).map fun i=>shaL (partL l i)
theorem rowk_shape {w:World} {base n k:Nat} {e:TypeId} {v:Value} {xs:List Value} (h:w.ownsRow base e k v n xs):∃ (a:Option Addr) (cap:Nat),v=.slice a n cap:=by
 rcases h.2 with ⟨h1,h2⟩ | ⟨g,cap,cur,h1,_⟩
 ·exact ⟨none,0,by rw [h1,h2]⟩
 ·exact ⟨_,cap,h1⟩
end
end Go.Proofs.YtodickpibbbiiaaGreatDoor
