import Derived.Test.YtodickpibbbiiaaGreatDoorWkA1
import Derived.Test.YtodickpibbbiiaaGreatDoorShelf
import Derived.Deep.RegionWith
import Derived.Outline
import Derived.Deep.RegionLaw
open Go.Proofs.Tryz
namespace Go.Proofs.YtodickpibbbiiaaGreatDoor
open Go.RowKit
section
inductive GE where
 | all | some | any
 | set (neg:Bool) (rs:List (UInt8×UInt8))
 | byt (c:UInt8)
def GE.many:GE->Bool
 | .all=>true
 | .some=>true
 | _=>false
def lowerC (c:UInt8):UInt8:=if decide (65<=c.toNat)&&decide (c.toNat<=90) then c+32 else c
def upperC (c:UInt8):UInt8:=if decide (97<=c.toNat)&&decide (c.toNat<=122) then c - 32 else c
def inR (rs:List (UInt8×UInt8)) (c:UInt8):Bool:=rs.any fun r=>decide (r.1.toNat<=c.toNat)&&decide (c.toNat<=r.2.toNat)
def GE.holds (fold:Bool):GE->UInt8->Bool
 | .all,_=>true
 | .some,c=>c != 47
 | .any,c=>c != 47
 | .set neg rs,c=>c != 47&&(neg != (inR rs c||fold&&(inR rs (lowerC c)||inR rs (upperC c))))
 | .byt b,c=>c==b||fold&&lowerC c==lowerC b
def writtenL:List UInt8->Option (UInt8×List UInt8)
 | []=>none
 | c::t=>if c==92 then (match t with
   | []=>none
   | d::u=>if d==47 then none else some (d,u))
  else if c==47 then none else some (c,t)
def rangeL (s:List UInt8):Option ((UInt8×UInt8)×List UInt8) :=
 match writtenL s with
 | none=>none
 | some (f,45::d::u)=>if d==93 then some ((f,f),45::d::u) else
   match writtenL (d::u) with
   | none=>none
   | some (t,r)=>if decide (t.toNat<f.toNat) then none else some ((f,t),r)
 | some (f,r)=>some ((f,f),r)
def rangesL:Nat->List (UInt8×UInt8)->List UInt8->Option (List (UInt8×UInt8)×List UInt8)
 | 0,_,_=>none
 | n+1,acc,s=>match s with
  | []=>none
  | c::t=>if c==93 then (if acc.isEmpty then none else some (acc,t)) else
   match rangeL (c::t) with
   | none=>none
   | some (r,u)=>rangesL n (acc++[r]) u
def negL:List UInt8->Bool×List UInt8
 | 33::t=>(true,t)
 | s=>(false,s)
def classL (s:List UInt8):Option (GE×List UInt8) :=
 match rangesL (s.length+1) [] (negL s).2 with
 | none=>none
 | some (rs,r)=>some (.set (negL s).1 rs,r)
def elementL:List UInt8->Option (GE×List UInt8)
 | 42::42::t=>some (.all,t)
 | 42::t=>some (.some,t)
 | 63::t=>some (.any,t)
 | 47::t=>some (.byt 47,t)
 | 91::t=>classL t
 | s=>match writtenL s with
  | none=>none
  | some (c,r)=>some (.byt c,r)
def elementsL:Nat->List GE->List UInt8->Option (List GE)
 | 0,_,_=>none
 | n+1,acc,s=>if s.isEmpty then some acc else
  match elementL s with
  | none=>none
  | some (e,r)=>elementsL n (acc++[e]) r
structure Marks where
 neg:Bool
 del:Bool
 fold:Bool
def gmarkL (s:List UInt8):Option (Nat×Nat) :=
 if [33].isPrefixOf s then some (1,1)
 else if [40,63,105,41].isPrefixOf s then some (3,4)
 else if [40,63,100,41].isPrefixOf s then some (2,4)
 else none
def Marks.get (m:Marks) (k:Nat):Bool:=if k==1 then m.neg else if k==2 then m.del else m.fold
def Marks.put (m:Marks) (k:Nat):Marks:=if k==1 then { m with neg:=true } else if k==2 then { m with del:=true } else { m with fold:=true }
def marksL:Nat->Marks->List UInt8->Option (Marks×List UInt8)
 | 0,_,_=>none
 | n+1,m,s=>match gmarkL s with
  | none=>some (m,s)
  | some (k,l)=>if m.get k then none else marksL n (m.put k) (s.drop l)
structure Pat where
 marks:Marks
 rooted:Bool
 es:List GE
def rootL:List UInt8->Bool×List UInt8
 | 47::t=>(true,t)
 | s=>(false,s)
def patL (s:List UInt8):Except Nat Pat :=
 if s.length>128 then .error 3
 else match marksL (s.length+1) ⟨false,false,false⟩ s with
  | none=>.error 4
  | some (m,r)=>if (rootL r).2.isEmpty then .error 4 else
   match elementsL (s.length+1) [] (rootL r).2 with
   | none=>.error 4
   | some es=>.ok ⟨m,(rootL r).1,es⟩
def wholeL (fold:Bool):List GE->List UInt8->Bool
 | [],s=>s.isEmpty
 | e::es,s=>go e es (wholeL fold es) s
where
 go (e:GE) (es:List GE) (rest:List UInt8->Bool):List UInt8->Bool
 | []=>e.many&&rest []
 | c::t=>if e.many then rest (c::t)||e.holds fold c&&go e es rest t else e.holds fold c&&rest t
def startL (rooted:Bool) (s:List UInt8) (a:Nat):Bool:=a==0||!rooted&&s[a - 1]?==some 47
def endL (s:List UInt8) (b:Nat):Bool:=b==s.length||s[b]?==some 47
def matchL (p:Pat) (s:List UInt8):Bool :=
 decide (s.length<=160)&&(List.range (s.length+1)).any fun a=>startL p.rooted s a &&
  (List.range (s.length+1)).any fun b=>decide (a<=b)&&endL s b&&wholeL p.marks.fold p.es ((s.take b).drop a)
theorem writtenL_lt {s:List UInt8} {c:UInt8} {r:List UInt8} (h:writtenL s=some (c,r)):r.length<s.length:=by
 unfold writtenL at h;split at h
 ·cases h
 ·split at h
  ·split at h
   ·cases h
   ·split at h
    ·cases h
    ·cases h;simp;omega
  ·split at h
   ·cases h
   ·cases h;simp
theorem rangeL_lt {s:List UInt8} {x:UInt8×UInt8} {r:List UInt8} (h:rangeL s=some (x,r)):r.length<s.length:=by
 unfold rangeL at h;split at h
 ·cases h
 ·rename_i h1;have:=writtenL_lt h1;split at h
  ·cases h;exact this
  ·split at h
   ·cases h
   ·rename_i h2;have h3:=writtenL_lt h2;split at h
    ·cases h
    ·cases h;simp at this h3;omega
 ·rename_i h1;have:=writtenL_lt h1
  cases h;exact this
theorem rangesL_lt {n:Nat} {acc rs:List (UInt8×UInt8)} {s r:List UInt8} (h:rangesL n acc s=some (rs,r)):r.length<s.length:=by
 induction n generalizing acc s with
 | zero=>cases h
 | succ n ih =>
  unfold rangesL at h;split at h
  ·cases h
  ·split at h
   ·split at h
    ·cases h
    ·cases h;simp
   ·split at h
    ·cases h
    ·rename_i h2;have:=rangeL_lt h2;have:=ih h;omega
theorem negL_le (s:List UInt8):(negL s).2.length<=s.length:=by
 unfold negL;split <;> simp
theorem classL_lt {s r:List UInt8} {e:GE} (h:classL s=some (e,r)):r.length<s.length:=by
 unfold classL at h;split at h
 ·cases h
 ·rename_i h2;have:=rangesL_lt h2;have:=negL_le s
  cases h;omega
theorem elementL_lt {s r:List UInt8} {e:GE} (h:elementL s=some (e,r)):r.length<s.length:=by
 unfold elementL at h;split at h
 ·cases h;simp;omega
 ·cases h;simp
 ·cases h;simp
 ·cases h;simp
 ·have:=classL_lt h;simp;omega
 ·split at h
  ·cases h
  ·rename_i h2;have:=writtenL_lt h2
   cases h;exact this
theorem wholeL_nil (f:Bool) (s:List UInt8):wholeL f [] s=s.isEmpty:=rfl
theorem wholeL_cons_nil (f:Bool) (e:GE) (es:List GE):wholeL f (e::es) []=(e.many&&wholeL f es []):=rfl
theorem wholeL_many (f:Bool) (e:GE) (es:List GE) (c:UInt8) (t:List UInt8) (h:e.many=true):wholeL f (e::es) (c::t)=(wholeL f es (c::t)||e.holds f c&&wholeL f (e::es) t):=by
 simp only [wholeL,wholeL.go,h,if_true]
theorem wholeL_one (f:Bool) (e:GE) (es:List GE) (c:UInt8) (t:List UInt8) (h:e.many=false):wholeL f (e::es) (c::t)=(e.holds f c&&wholeL f es t):=by
 simp only [wholeL,wholeL.go,h];simp
theorem wholeL_append (f:Bool) (es fs:List GE) (s:List UInt8):wholeL f (es++fs) s=true↔∃ a b,s=a++b/\wholeL f es a=true/\wholeL f fs b=true:=by
 induction es generalizing s with
 | nil =>
  constructor
  ·intro h;exact ⟨[],s,rfl,rfl,h⟩
  ·rintro ⟨a,b,rfl,h1,h2⟩;have:a=[]:=by simpa [wholeL_nil] using h1
   subst this;exact h2
 | cons e es ih =>
  induction s with
  | nil =>
   rw [List.cons_append,wholeL_cons_nil];constructor
   ·intro h;obtain ⟨h1,h2⟩:=Bool.and_eq_true_iff.1 h;obtain ⟨a,b,hab,h3,h4⟩:=(ih []).1 h2;have:a=[]/\b=[]:=by simpa using hab.symm
    obtain ⟨rfl,rfl⟩:=this;exact ⟨[],[],rfl,by rw [wholeL_cons_nil,h1,h3];rfl,h4⟩
   ·rintro ⟨a,b,hab,h3,h4⟩;have:a=[]/\b=[]:=by simpa using hab.symm
    obtain ⟨rfl,rfl⟩:=this;rw [wholeL_cons_nil] at h3;obtain ⟨h1,h2⟩:=Bool.and_eq_true_iff.1 h3;rw [h1,(ih []).2 ⟨[],[],rfl,h2,h4⟩];rfl
  | cons c t iht =>
   rw [List.cons_append]
   cases hm:e.many
   ·rw [wholeL_one f e _ c t hm];constructor
    ·intro h;obtain ⟨h1,h2⟩:=Bool.and_eq_true_iff.1 h;obtain ⟨a,b,rfl,h3,h4⟩:=(ih t).1 h2;exact ⟨c::a,b,rfl,by rw [wholeL_one f e _ c a hm,h1,h3];rfl,h4⟩
    ·rintro ⟨a,b,hab,h3,h4⟩
     match a,hab,h3 with
     | [],hab,h3=>rw [wholeL_cons_nil,hm] at h3;cases h3
     | d::a,hab,h3 =>
      rw [List.cons_append,List.cons.injEq] at hab;obtain ⟨rfl,rfl⟩:=hab;rw [wholeL_one f e _ c a hm] at h3;obtain ⟨h1,h2⟩:=Bool.and_eq_true_iff.1 h3;rw [h1,(ih _).2 ⟨a,b,rfl,h2,h4⟩];rfl
   ·rw [wholeL_many f e _ c t hm];constructor
    ·intro h;rcases Bool.or_eq_true_iff.1 h with h | h
     ·obtain ⟨a,b,hab,h3,h4⟩:=(ih _).1 h;refine ⟨a,b,hab,?_,h4⟩
      cases a with
      | nil=>rw [wholeL_cons_nil,hm,h3];rfl
      | cons d a=>rw [wholeL_many f e _ d a hm,h3];rfl
     ·obtain ⟨h1,h2⟩:=Bool.and_eq_true_iff.1 h;obtain ⟨a,b,rfl,h3,h4⟩:=iht.1 h2;exact ⟨c::a,b,rfl,by rw [wholeL_many f e _ c a hm,h1,h3];simp,h4⟩
    ·rintro ⟨a,b,hab,h3,h4⟩
     match a,hab,h3 with
     | [],hab,h3 =>
      rw [wholeL_cons_nil] at h3;obtain ⟨h1,h2⟩:=Bool.and_eq_true_iff.1 h3;rw [(ih (c::t)).2 ⟨[],b,hab,h2,h4⟩];rfl
     | d::a,hab,h3 =>
      rw [List.cons_append,List.cons.injEq] at hab;obtain ⟨rfl,rfl⟩:=hab;rw [wholeL_many f e _ c a hm] at h3;rcases Bool.or_eq_true_iff.1 h3 with h | h
      ·have:=(ih _).2 ⟨c::a,b,rfl,h,h4⟩;rw [List.cons_append] at this;rw [this];rfl
      ·obtain ⟨h1,h2⟩:=Bool.and_eq_true_iff.1 h;have:=iht.2 ⟨a,b,rfl,h2,h4⟩;rw [List.cons_append] at this;rw [h1,this];simp
theorem wholeL_single_many (f:Bool) (e:GE) (h:e.many=true) (s:List UInt8):wholeL f [e] s=s.all (e.holds f):=by
 induction s with
 | nil=>rw [wholeL_cons_nil,h];rfl
 | cons c t ih=>rw [wholeL_many f e [] c t h,ih,wholeL_nil,List.all_cons];simp
theorem wholeL_single_one (f:Bool) (e:GE) (h:e.many=false) (s:List UInt8):wholeL f [e] s=true↔∃ c,s=[c]/\e.holds f c=true:=by
 match s with
 | []=>rw [wholeL_cons_nil,h];simp
 | [c]=>rw [wholeL_one f e [] c [] h];simp [wholeL_nil]
 | c::d::t=>rw [wholeL_one f e [] c _ h];simp [wholeL_nil]
theorem wholeL_snoc_nil (f:Bool) (es:List GE) (e:GE):wholeL f (es++[e]) []=(e.many&&wholeL f es []):=by
 rw [Bool.eq_iff_iff,wholeL_append];constructor
 ·rintro ⟨a,b,hab,h1,h2⟩;have:a=[]/\b=[]:=by simpa using hab.symm
  obtain ⟨rfl,rfl⟩:=this;rw [wholeL_cons_nil] at h2;obtain ⟨h3,_⟩:=Bool.and_eq_true_iff.1 h2;rw [h3,h1];rfl
 ·intro h;obtain ⟨h1,h2⟩:=Bool.and_eq_true_iff.1 h;exact ⟨[],[],rfl,h2,by rw [wholeL_cons_nil,h1];rfl⟩
theorem wholeL_snoc_many (f:Bool) (es:List GE) (e:GE) (h:e.many=true) (s:List UInt8) (c:UInt8) :
  wholeL f (es++[e]) (s++[c])=(wholeL f es (s++[c])||wholeL f (es++[e]) s&&e.holds f c):=by
 rw [Bool.eq_iff_iff,Bool.or_eq_true,Bool.and_eq_true,wholeL_append,wholeL_append];constructor
 ·rintro ⟨a,b,hab,h1,h2⟩;rw [wholeL_single_many f e h] at h2;rcases List.eq_nil_or_concat b with rfl | ⟨b',d,rfl⟩
  ·left;rw [hab,List.append_nil];exact h1
  ·right;rw [List.concat_eq_append,<-List.append_assoc] at hab;obtain ⟨h3,h4⟩:=List.append_inj' hab rfl;obtain rfl:c=d:=by simpa using h4
   rw [List.concat_eq_append,List.all_append,Bool.and_eq_true] at h2;exact ⟨⟨a,b',h3,h1,by rw [wholeL_single_many f e h];exact h2.1⟩,by simpa using h2.2⟩
 ·rintro (h1 | ⟨⟨a,b,rfl,h1,h2⟩,h3⟩)
  ·exact ⟨s++[c],[],by simp,h1,by rw [wholeL_single_many f e h];rfl⟩
  ·rw [wholeL_single_many f e h] at h2;exact ⟨a,b++[c],by simp,h1,by rw [wholeL_single_many f e h,List.all_append,h2];simp [h3]⟩
theorem wholeL_snoc_one (f:Bool) (es:List GE) (e:GE) (h:e.many=false) (s:List UInt8) (c:UInt8) :
  wholeL f (es++[e]) (s++[c])=(wholeL f es s&&e.holds f c):=by
 rw [Bool.eq_iff_iff,Bool.and_eq_true,wholeL_append];constructor
 ·rintro ⟨a,b,hab,h1,h2⟩;obtain ⟨d,rfl,h3⟩:=(wholeL_single_one f e h b).1 h2;obtain ⟨h4,h5⟩:=List.append_inj' hab rfl;obtain rfl:c=d:=by simpa using h5
  subst h4;exact ⟨h1,h3⟩
 ·rintro ⟨h1,h2⟩;exact ⟨s,[c],rfl,h1,(wholeL_single_one f e h _).2 ⟨c,rfl,h2⟩⟩
end
section
theorem lower_any (c:UInt8) (w:World):Calls prog 263 #[.int .u8 c.toNat] w fun e w'=>e=.returned (.int .u8 (lowerC c).toNat)/\w'=w:=by
 have hc:=c.toNat_lt
 cases h:decide (65<=c.toNat)&&decide (c.toNat<=90)
 ·have HF:lowerC c=c:=by rw [lowerC,h];rfl
  rw [HF];clear HF;go_enter func263,ntmps263;go_wp2
  all_goals (first | (go_ret;exact ⟨rfl,rfl⟩) | (exfalso;simp at *;omega))
 ·have HF:(lowerC c).toNat=c.toNat+32:=by
   rw [lowerC,h];simp at h;rw [if_pos rfl,UInt8.toNat_add];have:(32:UInt8).toNat=32:=rfl;omega
  rw [HF];clear HF;go_enter func263,ntmps263;go_wp2
  all_goals (first | (go_ret;exact ⟨ret_int (by simp at *;omega),rfl⟩) | (go_ret;exact ⟨rfl,rfl⟩) | (exfalso;simp at *;omega))
theorem upper_any (c:UInt8) (w:World):Calls prog 266 #[.int .u8 c.toNat] w fun e w'=>e=.returned (.int .u8 (upperC c).toNat)/\w'=w:=by
 have hc:=c.toNat_lt
 cases h:decide (97<=c.toNat)&&decide (c.toNat<=122)
 ·have HF:upperC c=c:=by rw [upperC,h];rfl
  rw [HF];clear HF;go_enter func266,ntmps266;go_wp2
  all_goals (first | (go_ret;exact ⟨rfl,rfl⟩) | (exfalso;simp at *;omega))
 ·have HF:(upperC c).toNat=c.toNat - 32:=by
   rw [upperC,h];simp at h;rw [if_pos rfl,UInt8.toNat_sub];have:(32:UInt8).toNat=32:=rfl;omega
  rw [HF];clear HF;go_enter func266,ntmps266;go_wp2
  all_goals (first | (go_ret;exact ⟨ret_int (by simp at *;omega),rfl⟩) | (go_ret;exact ⟨rfl,rfl⟩) | (exfalso;simp at *;omega))
theorem toList_cons (s:ByteArray) (h:0<s.size):s.toList=s[0]::(s.extract 1 s.size).toList:=by
 rw [toList_extract,<-len_toList,List.take_of_length_le (by simp)];have h2:=getElem_toList s 0 h
 cases h3:s.toList with
 | nil=>rw [h3] at h2;cases h2
 | cons a t=>rw [h3] at h2;simp at h2;rw [h2];rfl
theorem toList_nil (s:ByteArray) (h:s.size=0):s.toList=[]:=by
 rw [<-List.length_eq_zero_iff,len_toList,h]
theorem toList_cons2 (s:ByteArray) (h:1<s.size):s.toList=s[0]::s[1]::(s.extract 2 s.size).toList:=by
 have h0:=getElem_toList s 0 (by omega);have h1:=getElem_toList s 1 h;rw [toList_extract,List.take_of_length_le (by simp [len_toList])]
 cases h3:s.toList with
 | nil=>rw [h3] at h0;cases h0
 | cons a t=>cases t with
  | nil=>rw [h3] at h1;cases h1
  | cons b t=>rw [h3] at h0 h1;simp at h0 h1;rw [h0,h1];rfl
def oneS (s:ByteArray):UInt8×Nat :=
 match writtenL s.toList with
 | none=>(0,0)
 | some (c,r)=>(c,s.size - r.length)
theorem written_cases (s:ByteArray) :
  (s.size=0/\writtenL s.toList=none) \/
  (∃ h:0<s.size,s[0]=47/\writtenL s.toList=none) \/
  (∃ h:0<s.size,s[0]≠47/\s[0]≠92/\writtenL s.toList=some (s[0],(s.extract 1 s.size).toList)) \/
  (∃ h:0<s.size,s[0]=92/\s.size=1/\writtenL s.toList=none) \/
  (∃ h:1<s.size,s[0]'(by omega)=92/\s[1]=47/\writtenL s.toList=none) \/
  (∃ h:1<s.size,s[0]'(by omega)=92/\s[1]≠47/\writtenL s.toList=some (s[1],(s.extract 2 s.size).toList)):=by
 by_cases h0:s.size=0
 ·left;exact ⟨h0,by rw [toList_nil s h0];rfl⟩
 ·have hp:0<s.size:=by omega
  by_cases h1:s[0]=92
  ·by_cases h2:s.size=1
   ·right;right;right;left;exact ⟨hp,h1,h2,by rw [toList_cons s hp,h1,toList_nil (s.extract 1 s.size) (by simp;omega)];rfl⟩
   ·have hq:1<s.size:=by omega
    have e:s.toList=(92:UInt8)::(s[1]'hq::(s.extract 2 s.size).toList):=by rw [toList_cons2 s hq,h1]
    by_cases h3:s[1]=47
    ·right;right;right;right;left;exact ⟨hq,h1,h3,by rw [e,h3];rfl⟩
    ·right;right;right;right;right;refine ⟨hq,h1,h3,?_⟩;rw [e];simp [writtenL,h3]
  ·by_cases h2:s[0]=47
   ·right;left;exact ⟨hp,h2,by rw [toList_cons s hp,h2];rfl⟩
   ·right;right;left;refine ⟨hp,h2,h1,?_⟩;rw [toList_cons s hp];simp [writtenL,h1,h2]
theorem one_any (s:ByteArray) (w:World) (hs:s.size<=maxLen) :
  Calls prog 206 #[.string s] w fun e w'=>e=.returned (.tuple #[.int .u8 (oneS s).1.toNat,.int .i64 (oneS s).2])/\w'=w:=by
 unfold maxLen at hs;rcases written_cases s with ⟨h0,h⟩ | ⟨h0,h1,h⟩ | ⟨h0,h1,h2,h⟩ | ⟨h0,h1,h2,h⟩ | ⟨h0,h1,h2,h⟩ | ⟨h0,h1,h2,h⟩
 ·have HF:oneS s=(0,0):=by rw [oneS,h]
  rw [HF];clear h HF;go_enter func206,ntmps206;go_wp2
  all_goals (first | (go_ret2;exact ⟨rfl,rfl⟩) | (exfalso;subst_vars;simp at *;done) | (exfalso;simp at *;omega))
 ·have HF:oneS s=(0,0):=by rw [oneS,h]
  rw [HF];clear h HF;have n0:((s.size:Int)==0)=false:=beq_eq_false_iff_ne.2 (by omega);go_enter func206,ntmps206;go_wp2
  all_goals (first | (go_ret2;exact ⟨rfl,rfl⟩) | (exfalso;subst_vars;simp at *;done) | (exfalso;simp at *;omega))
 ·have HF:oneS s=(s[0],1):=by rw [oneS,h];simp only;congr 1;rw [len_toList];simp;omega
  rw [HF];clear h HF;have e1:((s[0].toNat:Int)==47)=false:=toNat_ne h1;have e2:((s[0].toNat:Int)==92)=false:=toNat_ne h2;have n0:((s.size:Int)==0)=false:=beq_eq_false_iff_ne.2 (by omega);go_enter func206,ntmps206;go_wp2
  all_goals (first | (go_ret2;exact ⟨rfl,rfl⟩) | (exfalso;subst_vars;simp at *;done) | (exfalso;simp at *;omega))
 ·have HF:oneS s=(0,0):=by rw [oneS,h]
  rw [HF];clear h HF;have n0:((s.size:Int)==0)=false:=beq_eq_false_iff_ne.2 (by omega);go_enter func206,ntmps206;go_wp2
  all_goals (first | (go_ret2;exact ⟨rfl,rfl⟩) | (exfalso;subst_vars;simp at *;done) | (exfalso;simp at *;omega))
 ·have HF:oneS s=(0,0):=by rw [oneS,h]
  rw [HF];clear h HF;have n0:((s.size:Int)==0)=false:=beq_eq_false_iff_ne.2 (by omega);go_enter func206,ntmps206;go_wp2
  all_goals (first | (go_ret2;exact ⟨rfl,rfl⟩) | (exfalso;subst_vars;simp at *;done) | (exfalso;simp at *;omega))
 ·have HF:oneS s=(s[1],2):=by rw [oneS,h];simp only;congr 1;rw [len_toList];simp;omega
  rw [HF];clear h HF;have e2:((s[1].toNat:Int)==47)=false:=toNat_ne h2;have n0:((s.size:Int)==0)=false:=beq_eq_false_iff_ne.2 (by omega);go_enter func206,ntmps206;go_wp2
  all_goals (first | (go_ret2;exact ⟨rfl,rfl⟩) | (exfalso;subst_vars;simp at *;done) | (exfalso;simp at *;omega))
end
section
def RangesAt (w:World) (v:Value) (rs:List (UInt8×UInt8)):Prop :=
 ∃ (a:Option Addr) (cap:Nat),v=.slice a rs.length cap/\rs.length<=cap/\cap<=maxLen/\∀ (j:Nat) r,rs[j]?=some r->∃ g,a=some ⟨g,0,none⟩ /\
  w.cell? ⟨g,2*j,none⟩=some (.int .u8 r.1.toNat)/\w.cell? ⟨g,2*j+1,none⟩=some (.int .u8 r.2.toNat)
theorem part_any (c:UInt8) (w:World):Calls prog 202 #[.int .u8 c.toNat] w fun e w'=>e=.returned (.bool (c != 47))/\w'=w:=by
 by_cases h:c=47
 ·subst h;go_enter func202,ntmps202;go_wp2;go_ret;exact ⟨rfl,rfl⟩
 ·have e1:(c != 47)=true:=by simpa using h
  have e2:((c.toNat:Int) != 47)=true:=by rw [bne,toNat_ne47 h];rfl
  rw [e1];go_enter func202,ntmps202;go_wp2;go_ret;exact ⟨rfl,rfl⟩
theorem every_any (c:UInt8) (w:World):Calls prog 203 #[.int .u8 c.toNat] w fun e w'=>e=.returned (.bool true)/\w'=w:=by
 go_enter func203,ntmps203;go_wp2;go_ret;exact ⟨rfl,rfl⟩
theorem u8_beq (a b:UInt8):((a.toNat:Int)==b.toNat)=(a==b):=by
 rw [Bool.eq_iff_iff,beq_iff_eq,beq_iff_eq,<-UInt8.toNat_inj];omega
theorem is1_any (c b:UInt8) (bw bq bp:Nat) (f:Bool) (w:World) (h1:w.cell? ⟨bw,0,none⟩=some (.int .u8 b.toNat)) (h2:w.cell? ⟨bq,0,none⟩=some (.pointer (some ⟨bp,0,none⟩))) (h3:w.cell? ⟨bp,3,none⟩=some (.bool f)) :
  Calls prog 262 #[.int .u8 c.toNat,.pointer (some ⟨bw,0,none⟩),.pointer (some ⟨bq,0,none⟩)] w fun e w'=>e=.returned (.bool ((GE.byt b).holds f c))/\∃ n,w'=w.drewN n:=by
 have HC:=fun w=>lh (lower_any c w);have HB:=fun w=>lh (lower_any b w)
 cases q:(c.toNat:Int)==b.toNat
 ·cases f
  ·have HF:=lh (show (GE.byt b).holds false c=false from by rw [u8_beq] at q;simp [GE.holds,q]);go_enter func262,ntmps262;go_wp2_with fail;go_quiet (fail);go_wp2_with fail;go_ret;exact ⟨ret_bool HF.out.symm,_,rfl⟩
  ·have HF:=lh (show (GE.byt b).holds true c=(((lowerC c).toNat:Int)==(lowerC b).toNat) from by rw [u8_beq] at q ⊢;simp [GE.holds,q]);generalize lowerC c=lc at *;generalize lowerC b=lb at *;go_enter func262,ntmps262;go_wp2_with fail;go_quiet (first | (go_at_call_of 263 c;refine Calls.quiet_of_same (HC _).out) | (go_at_call_of 263 b;refine Calls.quiet_of_same (HB _).out));go_wp2_with fail;go_ret;exact ⟨ret_bool HF.out.symm,_,rfl⟩
 ·have HF:=lh (show (GE.byt b).holds f c=true from by rw [u8_beq] at q;simp [GE.holds,q]);go_enter func262,ntmps262;go_wp2_with fail;go_quiet (fail);go_wp2_with fail;go_ret;exact ⟨ret_bool HF.out.symm,_,rfl⟩
theorem inR_at {rs:List (UInt8×UInt8)} {k:Nat} {r:UInt8×UInt8} {c:UInt8} (h:rs[k]?=some r) (h1:r.1.toNat<=c.toNat) (h2:c.toNat<=r.2.toNat):inR rs c=true:=by
 unfold inR;rw [List.any_eq_true];exact ⟨r,List.mem_of_getElem? h,by simp [h1,h2]⟩
theorem inR_step {rs:List (UInt8×UInt8)} {k:Nat} {r:UInt8×UInt8} {c:UInt8} (h:rs[k]?=some r) (h0:inR (rs.take k) c=false) (h1:¬ (r.1.toNat<=c.toNat/\c.toNat<=r.2.toNat)):inR (rs.take (k+1)) c=false:=by
 unfold inR at *;rw [List.take_add_one,List.any_append,h0,h];simp;omega
set_option maxHeartbeats 1000000 in
theorem in_any (v:Value) (rs:List (UInt8×UInt8)) (c:UInt8) (br:Nat) (w:World) (hv:RangesAt w v rs) (hb:w.cell? ⟨br,0,none⟩=some v) :
  Calls prog 264 #[.int .u8 c.toNat,.pointer (some ⟨br,0,none⟩)] w fun e w'=>e=.returned (.bool (inR rs c))/\Ext w w':=by
 obtain ⟨a,cap,rfl,h1,h2,hr⟩:=hv;unfold maxLen at h2;have HR:=lh hr;clear hr;go_enter func264,ntmps264;go_wp2_with fail;go_loopw [8] (fun i wr=>∃ k:Nat,k<=rs.length/\i=.int .i64 k/\Hid (inR (rs.take k) c=false)/\Hid (Ext w wr)) (fun i _=>rs.length - (intOf i).toNat)
 case atStart=>exact ⟨0,Nat.zero_le _,rfl,rfl,Ext.refl _⟩
 case round =>
  obtain ⟨k,hk,rfl,H,X⟩:=hrel;by_cases hlt:k<rs.length
  ·obtain ⟨r,hx⟩:∃ r,rs[k]?=some r:=⟨_,List.getElem?_eq_getElem hlt⟩;obtain ⟨g,rfl,c1,c2⟩:=HR.out k r hx;have c1':wr.cell? ⟨g,k*2,none⟩=some (.int .u8 r.1.toNat):=by rw [X.out.cell (lt_of_cell c1),Nat.mul_comm];exact c1
   have c2':wr.cell? ⟨g,k*2+1,none⟩=some (.int .u8 r.2.toNat):=by rw [X.out.cell (lt_of_cell c2),Nat.mul_comm];exact c2
   clear c1 c2;by_cases t:r.1.toNat<=c.toNat
   ·by_cases t2:c.toNat<=r.2.toNat
    ·have HT:=lh (inR_at hx t t2);go_wp2_with fail;go_ret;exact ⟨ret_bool HT.out.symm,X.out.alloc _⟩
    ·have HT:=lh (inR_step hx H.out (c:=c) (fun q=>t2 q.2));go_wp2_with fail;go_roundw
     case rel=>exact ⟨k+1,by omega,by go_num,HT.out,X.out.alloc _⟩
     case measure=>simp [intOf];omega
   ·have HT:=lh (inR_step hx H.out (c:=c) (fun q=>t q.1));go_wp2_with fail;go_roundw
    case rel=>exact ⟨k+1,by omega,by go_num,HT.out,X.out.alloc _⟩
    case measure=>simp [intOf];omega
  ·have:k=rs.length:=by omega
   subst this;have HT:=lh (show inR rs c=false from by have:=H.out;rwa [List.take_length] at this);go_wp2_with fail;go_ret;exact ⟨ret_bool HT.out.symm,X.out⟩
theorem holds_set_slash (f neg:Bool) (rs:List (UInt8×UInt8)):(GE.set neg rs).holds f 47=false:=rfl
theorem holds_set (f neg:Bool) (rs:List (UInt8×UInt8)) (c:UInt8) (h:c≠47):(GE.set neg rs).holds f c=(neg != (inR rs c||f&&(inR rs (lowerC c)||inR rs (upperC c)))):=by
 simp [GE.holds,h]
theorem RangesAt.ext {w w':World} {v:Value} {rs:List (UInt8×UInt8)} (h:RangesAt w v rs) (k:Ext w w'):RangesAt w' v rs:=by
 obtain ⟨a,cap,h1,h2,h3,h4⟩:=h;refine ⟨a,cap,h1,h2,h3,fun j r hj=>?_⟩;obtain ⟨g,h5,h6,h7⟩:=h4 j r hj;exact ⟨g,h5,(k.cell (lt_of_cell h6)).trans h6,(k.cell (lt_of_cell h7)).trans h7⟩
structure RangesFrom (w:World) (Far:Nat->Prop) (v:Value) (rs:List (UInt8×UInt8)):Prop where
 at_:RangesAt w v rs
 far:∀ g n cap,v=.slice (some ⟨g,0,none⟩) n cap->Far g/\g<w.heap.size
set_option maxHeartbeats 4000000 in
theorem class2_any (c:UInt8) (rs:List (UInt8×UInt8)) (f neg:Bool) (b5 b10 b0 bp br:Nat) (v:Value) (w:World) (h1:w.cell? ⟨b5,0,none⟩=some (.bool neg))
  (h2:w.cell? ⟨b10,0,none⟩=some (.func (.func 264) #[] #[.pointer (some ⟨br,0,none⟩)])) (h3:w.cell? ⟨b0,0,none⟩=some (.pointer (some ⟨bp,0,none⟩)))
  (h4:w.cell? ⟨bp,3,none⟩=some (.bool f)) (h5:w.cell? ⟨br,0,none⟩=some v) (h6:RangesAt w v rs) :
  Calls prog 265 #[.int .u8 c.toNat,.pointer (some ⟨b5,0,none⟩),.pointer (some ⟨b10,0,none⟩),.pointer (some ⟨b0,0,none⟩)] w fun e w' =>
   e=.returned (.bool ((GE.set neg rs).holds f c))/\Ext w w':=by
 have HI:=fun (c:UInt8) (x:After w)=>lh (in_any v rs c br x.v (h6.ext x.x) (After.cell h5 x));clear h5 h6;have g1:=After.cell h1;have g2:=After.cell h2;have g3:=After.cell h3;have g4:=After.cell h4;clear h1 h2 h3 h4;by_cases q:c=47
 ·subst q;rw [holds_set_slash];go_enter func265,ntmps265;go_wp2_with fail;go_quiet (fail);go_wp2_with fail;go_ret;exact ⟨rfl,(Ext.refl w).drewN _⟩
 ·have q2:((c.toNat:Int) != 47)=true:=by rw [bne,toNat_ne47 q];rfl
  rw [holds_set f neg rs c q];have HC:=fun w=>lh (lower_any c w);have HU:=fun w=>lh (upper_any c w);have HIc:=fun x=>lh (HI c x).out;have HIl:=fun x=>lh (HI (lowerC c) x).out;have HIu:=fun x=>lh (HI (upperC c) x).out;clear HI;generalize lowerC c=lc at *;generalize upperC c=uc at *;generalize inR rs c=i1 at *;generalize inR rs lc=i2 at *;generalize inR rs uc=i3 at *
  cases i1
  ·cases f
   ·clear HIl HIu HC HU;go_enter func265,ntmps265;go_wp2_with fail;refine wp_region_after (by kernel_rfl) (by kernel_rfl) ?_
    repeat (go_big_quiet_step (first | (go_at_call_of 264 c;exact After.of (HIc _).out)))
    refine wpQuiet_nil ?_;rintro _ ⟨x,rfl⟩;go_wp2_with fail;go_ret;exact ⟨ret_bool (by first | (simp;done) | (cases neg <;> cases i3 <;> rfl)),x.x⟩
   ·cases i2
    ·go_enter func265,ntmps265;go_wp2_with fail;refine wp_region_after (by kernel_rfl) (by kernel_rfl) ?_
     repeat (go_big_quiet_step (first | (go_at_call_of 263 c;exact After.same (HC _).out) | (go_at_call_of 266 c;exact After.same (HU _).out) | (go_at_call_of 264 c;exact After.of (HIc _).out) | (go_at_call_of 264 lc;exact After.of (HIl _).out) | (go_at_call_of 264 uc;exact After.of (HIu _).out)))
     refine wpQuiet_nil ?_;rintro _ ⟨x,rfl⟩;go_wp2_with fail;go_ret;exact ⟨ret_bool (by first | (simp;done) | (cases neg <;> cases i3 <;> rfl)),x.x⟩
    ·go_enter func265,ntmps265;go_wp2_with fail;refine wp_region_after (by kernel_rfl) (by kernel_rfl) ?_
     repeat (go_big_quiet_step (first | (go_at_call_of 263 c;exact After.same (HC _).out) | (go_at_call_of 264 c;exact After.of (HIc _).out) | (go_at_call_of 264 lc;exact After.of (HIl _).out)))
     refine wpQuiet_nil ?_;rintro _ ⟨x,rfl⟩;go_wp2_with fail;go_ret;exact ⟨ret_bool (by first | (simp;done) | (cases neg <;> cases i3 <;> rfl)),x.x⟩
  ·clear HIl HIu HC HU;go_enter func265,ntmps265;go_wp2_with fail;refine wp_region_after (by kernel_rfl) (by kernel_rfl) ?_
   repeat (go_big_quiet_step (first | (go_at_call_of 264 c;exact After.of (HIc _).out)))
   refine wpQuiet_nil ?_;rintro _ ⟨x,rfl⟩;go_wp2_with fail;go_ret;exact ⟨ret_bool (by first | (simp;done) | (cases neg <;> cases i3 <;> rfl)),x.x⟩
end
section
def GFn (w:World) (bp:Nat) (Far:Nat->Prop):GE->Value->Prop
 | .all,v=>v=.func (.func 203) #[] #[]
 | .some,v=>v=.func (.func 202) #[] #[]
 | .any,v=>v=.func (.func 202) #[] #[]
 | .byt c,v=>∃ bw bq,v=.func (.func 262) #[] #[.pointer (some ⟨bw,0,none⟩),.pointer (some ⟨bq,0,none⟩)]/\Far bw/\Far bq/\w.cell? ⟨bw,0,none⟩=some (.int .u8 c.toNat)/\w.cell? ⟨bq,0,none⟩=some (.pointer (some ⟨bp,0,none⟩))
 | .set neg rs,v=>∃ b5 b10 b0 br u,v=.func (.func 265) #[] #[.pointer (some ⟨b5,0,none⟩),.pointer (some ⟨b10,0,none⟩),.pointer (some ⟨b0,0,none⟩)] /\
   Far b5/\Far b10/\Far b0/\Far br/\w.cell? ⟨b5,0,none⟩=some (.bool neg)/\w.cell? ⟨b10,0,none⟩=some (.func (.func 264) #[] #[.pointer (some ⟨br,0,none⟩)]) /\
   w.cell? ⟨b0,0,none⟩=some (.pointer (some ⟨bp,0,none⟩))/\w.cell? ⟨br,0,none⟩=some u/\RangesFrom w Far u rs
theorem enters_part:Enters prog 202:=enters_of (fn:=Tryz.f202) (by kernel_rfl) (by kernel_rfl) rfl
theorem enters_every:Enters prog 203:=enters_of (fn:=Tryz.f203) (by kernel_rfl) (by kernel_rfl) rfl
theorem enters_is1:Enters prog 262:=enters_of (fn:=Tryz.f262) (by kernel_rfl) (by kernel_rfl) rfl
theorem enters_class2:Enters prog 265:=enters_of (fn:=Tryz.f265) (by kernel_rfl) (by kernel_rfl) rfl
theorem gfn_calls {w:World} {bp:Nat} {Far:Nat->Prop} {e:GE} {v:Value} {f:Bool} (h:GFn w bp Far e v) (hf:w.cell? ⟨bp,3,none⟩=some (.bool f)) :
  ∃ F cap,v=.func (.func F) #[] cap/\Enters prog F/\∀ (c:UInt8) (x:After w),Calls prog F (#[.int .u8 c.toNat]++cap) x.v fun e' w''=>e'=.returned (.bool (e.holds f c))/\Ext x.v w'':=by
 cases e with
 | all=>exact ⟨_,_,h,enters_every,fun c x=>(every_any c x.v).mono fun _ _ ⟨h1,h2⟩=>⟨h1,h2▸Ext.refl _⟩⟩
 | some=>exact ⟨_,_,h,enters_part,fun c x=>(part_any c x.v).mono fun _ _ ⟨h1,h2⟩=>⟨h1,h2▸Ext.refl _⟩⟩
 | any=>exact ⟨_,_,h,enters_part,fun c x=>(part_any c x.v).mono fun _ _ ⟨h1,h2⟩=>⟨h1,h2▸Ext.refl _⟩⟩
 | byt b =>
  obtain ⟨bw,bq,rfl,_,_,h3,h4⟩:=h;exact ⟨_,_,rfl,enters_is1,fun c x=>(is1_any c b bw bq bp f x.v (After.cell h3 x) (After.cell h4 x) (After.cell hf x)).mono fun _ _ ⟨h1,n,h2⟩=>⟨h1,h2▸(Ext.refl _).drewN n⟩⟩
 | set neg rs =>
  obtain ⟨b5,b10,b0,br,u,rfl,_,_,_,_,h5,h6,h7,h8,h9⟩:=h;exact ⟨_,_,rfl,enters_class2,fun c x=>class2_any c rs f neg b5 b10 b0 bp br u x.v (After.cell h5 x) (After.cell h6 x) (After.cell h7 x) (After.cell hf x) (After.cell h8 x) (h9.at_.ext x.x)⟩
structure Keeps (Far:Nat->Prop) (w w':World):Prop where
 size:w.heap.size<=w'.heap.size
 cell:∀ b o,Far b->b<w.heap.size->w'.cell? ⟨b,o,none⟩=w.cell? ⟨b,o,none⟩
theorem Ext.keeps {w w':World} (h:Ext w w') (Far:Nat->Prop):Keeps Far w w':=⟨h.size,fun _ _ _ hb=>h.cell hb⟩
theorem Keeps.at_ {Far:Nat->Prop} {w w':World} (h:Keeps Far w w') {b o:Nat} {u:Value} (hb:Far b) (hc:w.cell? ⟨b,o,none⟩=some u):w'.cell? ⟨b,o,none⟩=some u:=(h.cell b o hb (lt_of_cell hc)).trans hc
theorem RangesFrom.keeps {Far:Nat->Prop} {w w':World} {v:Value} {rs:List (UInt8×UInt8)} (h:RangesFrom w Far v rs) (k:Keeps Far w w'):RangesFrom w' Far v rs:=by
 refine ⟨?_,fun g n cap hv=>⟨(h.far g n cap hv).1,Nat.lt_of_lt_of_le (h.far g n cap hv).2 k.size⟩⟩;obtain ⟨a,cap,h1,h2,h3,h4⟩:=h.at_;refine ⟨a,cap,h1,h2,h3,fun j r hj=>?_⟩;obtain ⟨g,h5,h6,h7⟩:=h4 j r hj;have hg:=(h.far g rs.length cap (by rw [h1,h5])).1;exact ⟨g,h5,k.at_ hg h6,k.at_ hg h7⟩
theorem GFn.keeps {bp:Nat} {Far:Nat->Prop} {w w':World} {e:GE} {v:Value} (h:GFn w bp Far e v) (k:Keeps Far w w'):GFn w' bp Far e v:=by
 cases e with
 | all=>exact h
 | some=>exact h
 | any=>exact h
 | byt c =>
  obtain ⟨bw,bq,h1,h2,h3,h4,h5⟩:=h;exact ⟨bw,bq,h1,h2,h3,k.at_ h2 h4,k.at_ h3 h5⟩
 | set neg rs =>
  obtain ⟨b5,b10,b0,br,u,h1,h2,h3,h4,h5,h6,h7,h8,h9,h10⟩:=h;exact ⟨b5,b10,b0,br,u,h1,h2,h3,h4,h5,k.at_ h2 h6,k.at_ h3 h7,k.at_ h4 h8,k.at_ h5 h9,h10.keeps k⟩
theorem GFn.far {bp:Nat} {Far Far':Nat->Prop} {w:World} {e:GE} {v:Value} (h:GFn w bp Far e v) (k:∀ b,b<w.heap.size->Far b->Far' b):GFn w bp Far' e v:=by
 cases e with
 | all=>exact h
 | some=>exact h
 | any=>exact h
 | byt c =>
  obtain ⟨bw,bq,h1,h2,h3,h4,h5⟩:=h;exact ⟨bw,bq,h1,k _ (lt_of_cell h4) h2,k _ (lt_of_cell h5) h3,h4,h5⟩
 | set neg rs =>
  obtain ⟨b5,b10,b0,br,u,h1,h2,h3,h4,h5,h6,h7,h8,h9,h10⟩:=h;exact ⟨b5,b10,b0,br,u,h1,k _ (lt_of_cell h6) h2,k _ (lt_of_cell h7) h3,k _ (lt_of_cell h8) h4,k _ (lt_of_cell h9) h5,h6,h7,h8,h9,h10.at_,fun g n cap hv=>⟨k _ (h10.far g n cap hv).2 (h10.far g n cap hv).1,(h10.far g n cap hv).2⟩⟩
def FnV (u:Value):Prop:=u=.nilFunc\/∃ F cap,u=.func (.func F) #[] cap
theorem gis_any (bp:Nat) (c:UInt8) (w:World) :
  Calls prog 204 #[.pointer (some ⟨bp,0,none⟩),.int .u8 c.toNat] w fun e w'=>∃ F cap,e=.returned (.agg #[.func (.func F) #[] cap,.bool false])/\GFn w' bp (fun b=>w.heap.size<=b) (.byt c) (.func (.func F) #[] cap)/\Ext w w':=by
 go_enter func204,ntmps204;go_wp2;refine bodyPost_ret (results_cell_row rfl _ _ (w.heap.size+1+1) 227 _ (0,0) _ rfl (by rw [show w.heap.size+1+1=((w.alloc (.cells #[.pointer (some ⟨bp,0,none⟩)] 144)).alloc (.cells #[.int .u8 c.toNat] 5)).heap.size from by simp];exact heap_alloc_new _ _) underlying227 rfl (by kernel_rfl)) rfl ?_;refine ⟨_,_,rfl,⟨_,_,rfl,by simp,Nat.le_refl _,?_,?_⟩,?_⟩
 ·rw [cell_alloc_old (by simp),cell_alloc_new (by simp)];rfl
 ·rw [cell_alloc_old (by simp;omega),cell_alloc_old (by simp),cell_alloc_new rfl];rfl
 ·exact (((Ext.refl w).alloc _).alloc _).alloc _
end
section
def flatR (rs:List (UInt8×UInt8)):List Value:=rs.flatMap fun r=>[.int .u8 r.1.toNat,.int .u8 r.2.toNat]
theorem flatR_snoc (rs:List (UInt8×UInt8)) (r:UInt8×UInt8):flatR (rs++[r])=flatR rs++[.int .u8 r.1.toNat,.int .u8 r.2.toNat]:=by simp [flatR]
theorem flatR_at:∀ (rs:List (UInt8×UInt8)) (j:Nat) (r:UInt8×UInt8),rs[j]?=some r->(flatR rs)[2*j]?=some (.int .u8 r.1.toNat)/\(flatR rs)[2*j+1]?=some (.int .u8 r.2.toNat)
 | [],_,_,h=>by cases h
 | q::rs,0,r,h=>by cases h;exact ⟨rfl,rfl⟩
 | q::rs,j+1,r,h=>by
  have:=flatR_at rs j r h;rw [show 2*(j+1)=2*j+1+1 from by omega];exact this
theorem RangesAt.of_owns {w:World} {base:Nat} {e:TypeId} {v:Value} {rs:List (UInt8×UInt8)} (h:w.ownsRow base e 2 v rs.length (flatR rs)):RangesAt w v rs:=by
 rcases h.2 with ⟨h1,h2⟩ | ⟨g,cap,cur,hv,hb,hh,hc,hm,hs,ht⟩
 ·obtain rfl:=List.length_eq_zero_iff.1 h2;exact ⟨none,0,h1,Nat.le_refl _,by unfold maxLen;omega,fun j r hj=>by cases hj⟩
 ·refine ⟨_,cap,hv,hc,hm,fun j r hj=>⟨g,rfl,?_⟩⟩;subst hv;have hj':j<rs.length:=(List.getElem?_eq_some_iff.1 hj).1;obtain ⟨a1,a2⟩:=flatR_at rs j r hj;exact ⟨by rw [h.cellAt (2*j) (by omega),a1],by rw [h.cellAt (2*j+1) (by omega),a2]⟩
theorem RangesFrom.of_owns {w:World} {base:Nat} {Far:Nat->Prop} {e:TypeId} {v:Value} {rs:List (UInt8×UInt8)} (h:w.ownsRow base e 2 v rs.length (flatR rs)) (hb:∀ b,base<=b->Far b):RangesFrom w Far v rs:=by
 refine ⟨.of_owns h,fun g n cap hv=>?_⟩;obtain ⟨h1,h2⟩:=h.lt g (by rw [hv];rfl);exact ⟨hb _ h1,h2⟩
theorem elR:ElemK prog 301 337 (.agg #[.int .u8 0,.int .u8 0]) 2 2:=⟨by kernel_rfl,by kernel_rfl,rfl,by decide,by decide⟩
end
section
theorem writtenL_suffix {s:List UInt8} {c:UInt8} {r:List UInt8} (h:writtenL s=some (c,r)):r=s.drop (s.length - r.length):=by
 unfold writtenL at h;split at h
 ·cases h
 ·split at h
  ·split at h
   ·cases h
   ·split at h
    ·cases h
    ·cases h;rw [show (List.length (_::_::r)) - r.length=2 from by simp;omega];rfl
  ·split at h
   ·cases h
   ·cases h;rw [show (List.length (_::r)) - r.length=1 from by simp];rfl
theorem one_cases (u:ByteArray):(oneS u=(0,0)/\writtenL u.toList=none)\/∃ c n,oneS u=(c,n)/\0<n/\n<=u.size/\writtenL u.toList=some (c,u.toList.drop n):=by
 unfold oneS
 cases h:writtenL u.toList with
 | none=>left;exact ⟨rfl,rfl⟩
 | some x =>
  obtain ⟨c,r⟩:=x;right;have h1:=writtenL_lt h;have h2:=writtenL_suffix h;rw [len_toList] at h1 h2;refine ⟨c,u.size - r.length,rfl,by omega,by omega,?_⟩;rw [<-h2]
theorem drop_cons (s:ByteArray) (k:Nat) (h:k<s.size):s.toList.drop k=s[k]::s.toList.drop (k+1):=by
 have h2:=getElem_toList s k h;rw [List.getElem?_eq_some_iff] at h2;obtain ⟨h3,h4⟩:=h2;rw [List.drop_eq_getElem_cons h3,h4]
theorem ext_toList (s:ByteArray) (k:Nat):(s.extract k s.size).toList=s.toList.drop k:=by
 rw [toList_extract,List.take_of_length_le (by simp [len_toList])]
def dashAt (s:ByteArray) (k:Nat):Prop:=∃ h:k+1<s.size,s[k]=45/\s[k+1]≠93
theorem rangeL_plain {l:List UInt8} {f:UInt8} {r:List UInt8} (h:writtenL l=some (f,r)) (hd:∀ d u,r=45::d::u->d=93):rangeL l=some ((f,f),r):=by
 unfold rangeL;rw [h];split
 ·rename_i h2;cases h2
 ·rename_i f' d u h2
  cases h2
  rw [hd d u rfl];rfl
 ·rename_i h2;cases h2;rfl
theorem rangeL_dash {l:List UInt8} {f d:UInt8} {u:List UInt8} (h:writtenL l=some (f,45::d::u)) (hd:d≠93) :
  rangeL l=match writtenL (d::u) with | none=>none | some (t,r)=>if decide (t.toNat<f.toNat) then none else some ((f,t),r):=by
 unfold rangeL;rw [h];simp only [beq_iff_eq,hd,if_false]
 all_goals cases writtenL (d::u) <;> rfl
theorem range_cases (s:ByteArray) (k:Nat) :
  (oneS (s.extract k s.size)=(0,0)/\rangeL (s.toList.drop k)=none) \/
  ∃ f n,oneS (s.extract k s.size)=(f,n)/\0<n/\k+n<=s.size /\
   ((¬ dashAt s (k+n)/\rangeL (s.toList.drop k)=some ((f,f),s.toList.drop (k+n))) \/
    (dashAt s (k+n) /\
     ((oneS (s.extract (k+n+1) s.size)=(0,0)/\rangeL (s.toList.drop k)=none) \/
     ∃ t m,oneS (s.extract (k+n+1) s.size)=(t,m)/\0<m/\k+n+1+m<=s.size /\
      ((t.toNat<f.toNat/\rangeL (s.toList.drop k)=none)\/(¬ t.toNat<f.toNat/\rangeL (s.toList.drop k)=some ((f,t),s.toList.drop (k+n+1+m))))))):=by
 rcases one_cases (s.extract k s.size) with ⟨h1,h2⟩ | ⟨f,n,h1,h2,h3,h4⟩
 ·left;refine ⟨h1,?_⟩;rw [ext_toList] at h2;unfold rangeL;rw [h2]
 ·right;have hk:k+n<=s.size:=by simp at h3;omega
  refine ⟨f,n,h1,h2,hk,?_⟩;rw [ext_toList,List.drop_drop] at h4;by_cases hd:dashAt s (k+n)
  ·right;refine ⟨hd,?_⟩;obtain ⟨hl,d1,d2⟩:=hd
   have e:s.toList.drop (k+n)=45::s[k+n+1]::s.toList.drop (k+n+2):=by
    rw [drop_cons s (k+n) (by omega),drop_cons s (k+n+1) hl,d1]
   rw [e] at h4;have hr:=rangeL_dash h4 d2;rw [<-drop_cons s (k+n+1) hl] at hr;rcases one_cases (s.extract (k+n+1) s.size) with ⟨g1,g2⟩ | ⟨t,m,g1,g2,g3,g4⟩
   ·left;rw [ext_toList] at g2;exact ⟨g1,by rw [hr,g2]⟩
   ·right;rw [ext_toList,List.drop_drop] at g4;refine ⟨t,m,g1,g2,by simp at g3;omega,?_⟩;rw [hr,g4];by_cases ht:t.toNat<f.toNat
    ·left;exact ⟨ht,by simp [ht]⟩
    ·right;exact ⟨ht,by simp [ht]⟩
  ·left;refine ⟨hd,rangeL_plain h4 ?_⟩;intro d u hdu;by_cases hl:k+n+1<s.size
   ·rw [drop_cons s (k+n) (by omega),drop_cons s (k+n+1) hl] at hdu;simp only [List.cons.injEq] at hdu;obtain ⟨q1,q2,_⟩:=hdu;rw [<-q2];by_cases q:s[k+n+1]=93
    ·exact q
    ·exact absurd ⟨hl,q1,q⟩ hd
   ·have:=congrArg List.length hdu;simp [len_toList] at this;omega
end
section
theorem cell_of_block {w:World} {b k:Nat} {cs:Array Value} {t:TypeId} (h:w.heap[b]?=some (.cells cs t (0,0))):w.cell? ⟨b,k,none⟩=cs[k]?:=by
 unfold World.cell?;simp only [h];simp
theorem frozen_of_block {w:World} {b k:Nat} {cs:Array Value} {t:TypeId} (h:w.heap[b]?=some (.cells cs t (0,0))):w.frozen? ⟨b,k,none⟩=false:=by
 unfold World.frozen?;simp only [h];simp
theorem lt_of_block {w:World} {b:Nat} {o:Obj} (h:w.heap[b]?=some o):b<w.heap.size:=(Array.getElem?_eq_some_iff.1 h).1
theorem rangesL_end {m:Nat} {rs:List (UInt8×UInt8)} {s:ByteArray}:rangesL m rs (s.toList.drop s.size)=none:=by
 rw [List.drop_of_length_le (by rw [len_toList];exact Nat.le_refl _)]
 cases m <;> rfl
theorem rangesL_close {m:Nat} {rs:List (UInt8×UInt8)} {s:ByteArray} {k:Nat} (hk:k<s.size) (h:s[k]=93):rangesL (m+1) rs (s.toList.drop k)=if rs.isEmpty then none else some (rs,s.toList.drop (k+1)):=by
 rw [drop_cons s k hk,h];rfl
theorem rangesL_none {m:Nat} {rs:List (UInt8×UInt8)} {s:ByteArray} {k:Nat} (hk:k<s.size) (h:s[k]≠93) (hr:rangeL (s.toList.drop k)=none):rangesL (m+1) rs (s.toList.drop k)=none:=by
 rw [drop_cons s k hk] at hr ⊢;simp only [rangesL,beq_iff_eq,h,if_false,hr]
theorem rangesL_some {m:Nat} {rs:List (UInt8×UInt8)} {s:ByteArray} {k:Nat} {r:UInt8×UInt8} {u:List UInt8} (hk:k<s.size) (h:s[k]≠93) (hr:rangeL (s.toList.drop k)=some (r,u)):rangesL (m+1) rs (s.toList.drop k)=rangesL m (rs++[r]) u:=by
 rw [drop_cons s k hk] at hr ⊢;simp only [rangesL,beq_iff_eq,h,if_false,hr]
structure ClsInv (w:World) (bp:Nat) (neg:Bool) (wr:World) (v:Value) (rs:List (UInt8×UInt8)):Prop where
 ext:Ext w wr
 size:w.heap.size+1+1+1+1<=wr.heap.size
 p:wr.heap[w.heap.size]?=some (.cells #[.pointer (some ⟨bp,0,none⟩)] 144 (0,0))
 r:wr.heap[w.heap.size+1]?=some (.cells #[.nilFunc,.bool false] 227 (0,0))
 t:wr.heap[w.heap.size+1+1]?=some (.cells #[.bool neg] 4 (0,0))
 c:wr.heap[w.heap.size+1+1+1]?=some (.cells #[v] 301 (0,0))
 o:wr.ownsRow (w.heap.size+1+1+1+1) 337 2 v rs.length (flatR rs)
theorem own_block_ge_k {w:World} {base k:Nat} {e:TypeId} {v:Value} {n:Nat} {xs:List Value} (h:w.ownsRow base e k v n xs):∀ j,v.ownBlock=some j->base<=j:=by
 intro j hk;rcases h.2 with ⟨h1,_⟩ | ⟨g,cap,cur,hv,hb,_⟩
 ·subst h1;simp [Value.ownBlock] at hk
 ·subst hv;simp [Value.ownBlock] at hk;omega
theorem owns_setCell {w:World} {base k b o:Nat} {e:TypeId} {v u:Value} {n:Nat} {xs:List Value} (h:w.ownsRow base e k v n xs) (hb:b<base):(w.setCell ⟨b,o,none⟩ u).ownsRow base e k v n xs:=by
 refine ⟨h.1,?_⟩;rcases h.2 with h1 | ⟨g,cap,cur,hv,hg,hh,hr⟩
 ·exact .inl h1
 ·exact .inr ⟨g,cap,cur,hv,hg,(heap_setCell_other _ _ _ _ (by simp;omega)).trans hh,hr⟩
theorem news2 (w:World) (a b:Value) (t:TypeId):∀ (j:Nat) u,[a,b][j]?=some u->(w.alloc (.cells #[a,b] t)).cell? ⟨w.heap.size,j,none⟩=some u:=by
 intro j u hj;rw [cell_alloc_new rfl,<-hj];simp
theorem ones2 (a b:UInt8):∀ u∈[Value.int .u8 a.toNat,Value.int .u8 b.toNat],u.oneCell'=true:=by
 intro u hu;simp at hu;rcases hu with rfl | rfl <;> rfl
theorem ClsInv.push {w wr w1:World} {bp:Nat} {neg:Bool} {v v':Value} {rs:List (UInt8×UInt8)} {r:UInt8×UInt8} {o:Obj} (I:ClsInv w bp neg wr v rs)
  (hown:w1.ownsRow (w.heap.size+1+1+1+1) 337 2 v' (rs.length+1) (flatR rs++[.int .u8 r.1.toNat,.int .u8 r.2.toNat])) (hg:(wr.alloc o).grownBy w1 v.ownBlock) :
  ClsInv w bp neg (w1.setCell ⟨w.heap.size+1+1+1,0,none⟩ v') v' (rs++[r]):=by
 have hge:=own_block_ge_k I.o;have hsz:=I.size
 have hbl:∀ i,i<w.heap.size+1+1+1+1->w1.heap[i]?=wr.heap[i]?:=fun i hi=>by
  rw [hg.block i (by simp;omega) (fun e=>by have:=hge i e.symm;omega),((Ext.refl wr).alloc o).block (by omega)]
 have hs1:wr.heap.size+1<=w1.heap.size:=by have:=hg.size;simpa using this
 refine ⟨?_,?_,?_,?_,?_,?_,?_⟩
 ·exact ((I.ext.alloc o).grown hg (by have:=I.ext.size;simp;omega) (fun k hk=>by have:=hge k hk;omega)).setCell (by simp;omega) _
 ·simp;omega
 ·rw [heap_setCell_other _ _ _ _ (by simp;omega),hbl _ (by omega)];exact I.p
 ·rw [heap_setCell_other _ _ _ _ (by simp),hbl _ (by omega)];exact I.r
 ·rw [heap_setCell_other _ _ _ _ (by simp),hbl _ (by omega)];exact I.t
 ·exact heap_setCell_same _ _ _ _ _ _ ((hbl _ (by omega)).trans I.c)
 ·rw [List.length_append,flatR_snoc];exact owns_setCell hown (by omega)
theorem ClsInv.start (w:World) (bp:Nat) (neg:Bool):ClsInv w bp neg ((((w.alloc (.cells #[.pointer (some ⟨bp,0,none⟩)] 144)).alloc (.cells #[.nilFunc,.bool false] 227)).alloc (.cells #[.bool neg] 4)).alloc (.cells #[.slice none 0 0] 301)) (.slice none 0 0) []:=by
 have hn:∀ (w:World) o b,b=w.heap.size->(w.alloc o).heap[b]?=some o:=fun w o b h=>h▸heap_alloc_new w o;have ho:∀ (w:World) o b,b<w.heap.size->(w.alloc o).heap[b]?=w.heap[b]?:=fun w o b h=>((Ext.refl w).alloc o).block h;refine ⟨((((Ext.refl w).alloc _).alloc _).alloc _).alloc _,by simp,?_,?_,?_,?_,World.ownsRow_nil _ _ _ _⟩
 ·rw [ho _ _ _ (by simp;omega),ho _ _ _ (by simp;omega),ho _ _ _ (by simp),hn _ _ _ rfl]
 ·rw [ho _ _ _ (by simp),ho _ _ _ (by simp),hn _ _ _ (by simp)]
 ·rw [ho _ _ _ (by simp),hn _ _ _ (by simp)]
 ·rw [hn _ _ _ (by simp)]
def ClsPost (w:World) (bp:Nat) (s:ByteArray) (e:Ending) (w':World):Prop:=(∃ u b n,e=.returned (.tuple #[.agg #[u,.bool b],.int .i64 n])/\FnV u /\
   (match classL s.toList with | none=>n=0 | some (x,r)=>n=(s.size - r.length:Nat)/\b=x.many/\GFn w' bp (fun b=>w.heap.size<=b) x u))/\Ext w w'
def clsOf (neg:Bool) (R:Option (List (UInt8×UInt8)×List UInt8)):Option (GE×List UInt8):=R.map fun x=>(.set neg x.1,x.2)
theorem classL_of {s:ByteArray} {neg:Bool} {k:Nat} (hn:negL s.toList=(neg,s.toList.drop k)):classL s.toList=clsOf neg (rangesL (s.size+1) [] (s.toList.drop k)):=by
 unfold classL clsOf;rw [hn,len_toList];simp only
 cases rangesL (s.size+1) [] (s.toList.drop k) <;> rfl
theorem negL_of {s:ByteArray} {neg:Bool} (h:Lib.hasPrefix s.data.toList [33]=neg):negL s.toList=(neg,s.toList.drop (if neg then 1 else 0)):=by
 rw [<-Lib.toList_data] at h
 cases h2:s.toList with
 | nil=>rw [h2] at h;simp [Lib.hasPrefix] at h;subst h;rfl
 | cons c t =>
  rw [h2] at h;by_cases hc:c=33
  ·subst hc;simp [Lib.hasPrefix] at h;subst h;rfl
  ·have:neg=false:=by rw [<-h,Lib.hasPrefix];show ((33:UInt8)==c&&_)=false;rw [beq_eq_false_iff_ne.2 (Ne.symm hc)];rfl
   subst this;unfold negL;split
   ·rename_i h3;cases h3;exact absurd rfl hc
   ·rfl
theorem ClsPost.none {w w':World} {bp:Nat} {s:ByteArray} (h:classL s.toList=none) (x:Ext w w'):ClsPost w bp s (.returned (.tuple #[.agg #[.nilFunc,.bool false],.int .i64 0])) w' :=
 ⟨⟨_,_,_,rfl,.inl rfl,by rw [h]⟩,x⟩
theorem ClsInv.done {w wr:World} {bp:Nat} {neg:Bool} {v:Value} {rs:List (UInt8×UInt8)} (I:ClsInv w bp neg wr v rs) (f:Value)
  (hf:f=.func (.func 265) #[] #[.pointer (some ⟨w.heap.size+1+1,0,none⟩),.pointer (some ⟨wr.heap.size,0,none⟩),.pointer (some ⟨w.heap.size,0,none⟩)]) (o:Obj)
  (ho:o=.cells #[.func (.func 264) #[] #[.pointer (some ⟨w.heap.size+1+1+1,0,none⟩)]] 225 (0,0)) :
  GFn (((wr.setCell ⟨w.heap.size+1,0,none⟩ f).setCell ⟨w.heap.size+1,1,none⟩ (.bool false)).alloc o) bp (fun b=>w.heap.size<=b) (.set neg rs) f /\
  Ext w (((wr.setCell ⟨w.heap.size+1,0,none⟩ f).setCell ⟨w.heap.size+1,1,none⟩ (.bool false)).alloc o):=by
 have hsz:=I.size
 have hbl:∀ i x,i≠w.heap.size+1->wr.heap[i]?=some x->(((wr.setCell ⟨w.heap.size+1,0,none⟩ f).setCell ⟨w.heap.size+1,1,none⟩ (.bool false)).alloc o).heap[i]?=some x:=fun i x hi hx=>by
  rw [((Ext.refl _).alloc o).block (by simpa using lt_of_block hx),heap_setCell_other _ _ _ _ (by simpa using hi),heap_setCell_other _ _ _ _ (by simpa using hi)];exact hx
 have hk:Keeps (fun b=>w.heap.size+1+1<=b) wr (((wr.setCell ⟨w.heap.size+1,0,none⟩ f).setCell ⟨w.heap.size+1,1,none⟩ (.bool false)).alloc o):=by
  refine ⟨by simp,fun b o' hb' hl=>World.cell?_of_block ?_⟩;simp only;rw [((Ext.refl _).alloc o).block (by simpa using hl),heap_setCell_other _ _ _ _ (by simp;omega),heap_setCell_other _ _ _ _ (by simp;omega)]
 refine ⟨⟨_,_,_,_,v,hf,(by omega:w.heap.size<=w.heap.size+1+1),(by omega:w.heap.size<=wr.heap.size),Nat.le_refl _,(by omega:w.heap.size<=w.heap.size+1+1+1),?_,?_,?_,?_,?_⟩,?_⟩
 ·exact cell_of_block (hbl _ _ (by omega) I.t)
 ·refine (cell_of_block (cs:=#[.func (.func 264) #[] #[.pointer (some ⟨w.heap.size+1+1+1,0,none⟩)]]) (t:=225) ?_).trans rfl;rw [ho];have:=heap_alloc_new ((wr.setCell ⟨w.heap.size+1,0,none⟩ f).setCell ⟨w.heap.size+1,1,none⟩ (.bool false)) (.cells #[.func (.func 264) #[] #[.pointer (some ⟨w.heap.size+1+1+1,0,none⟩)]] 225 (0,0))
  rwa [show ((wr.setCell ⟨w.heap.size+1,0,none⟩ f).setCell ⟨w.heap.size+1,1,none⟩ (.bool false)).heap.size=wr.heap.size from by simp] at this
 ·exact cell_of_block (hbl _ _ (by omega) I.p)
 ·exact cell_of_block (hbl _ _ (by omega) I.c)
 ·have R2:=(RangesFrom.of_owns (Far:=fun b=>w.heap.size+1+1<=b) I.o (fun b hb=>by omega)).keeps hk;exact ⟨R2.at_,fun g n cap hv=>⟨by have:=(R2.far g n cap hv).1;omega,(R2.far g n cap hv).2⟩⟩
 ·exact ((I.ext.setCell (by simp) _).setCell (by simp) _).alloc o
set_option maxHeartbeats 4000000 in
set_option maxRecDepth 100000 in
theorem class_any (bp:Nat) (s:ByteArray) (w:World) (hs:s.size<=1024) :
  Calls prog 205 #[.pointer (some ⟨bp,0,none⟩),.string s] w (ClsPost w bp s):=by
 have HP:=fun w=>lh (Tryz.strings_HasPrefix s ⟨#[33]⟩ w);have HO:=fun k w=>lh (one_any (s.extract k s.size) w (by unfold maxLen;simp;omega));have HR:=fun k=>lh (range_cases s k);go_enter func205,ntmps205;go_wp2_with fail;refine ((HP _).out).mono ?_;rintro e w1 ⟨rfl,hw1⟩;obtain rfl:=hw1.symm;generalize hneg:Lib.hasPrefix s.data.toList [33]=neg;have HN:=lh hneg;clear hneg
 cases neg
 ·obtain ⟨R,hR0⟩:∃ R,R=rangesL (s.size+1) [] (s.toList.drop 0):=⟨_,rfl⟩;have HC:=lh (show classL s.toList=clsOf false R from by rw [hR0];exact classL_of (negL_of HN.out));have HR0:=lh hR0;clear hR0;go_wp2_with fail;go_loopw [6] (fun i wr=>Hid (∃ k m rs v,i=.int .i64 (k:Nat)/\k<=s.size/\s.size - k<m/\rs.length<=k/\rangesL m rs (s.toList.drop k)=R/\ClsInv w bp false wr v rs)) (fun i _=>s.size - (intOf i).toNat)
  case atStart=>exact ⟨0,s.size+1,[],_,rfl,by omega,by omega,Nat.zero_le _,HR0.out.symm,ClsInv.start w bp false⟩
  case round =>
   obtain ⟨k,m,rs,v,rfl,hk,hm,hrl,hR,I⟩:=hrel.out;obtain ⟨va,vc,rfl,hvc,hvc2,_⟩:=RangesAt.of_owns I.o;unfold maxLen at hvc2;obtain ⟨m,rfl⟩:∃ m',m=m'+1:=⟨m - 1,by omega⟩;have HRR:=lh hR;clear hR hrel;have hc:wr.cell? ⟨w.heap.size+1+1+1,0,none⟩=some (.slice va rs.length vc):=cell_of_block I.c;have hf:wr.frozen? ⟨w.heap.size+1+1+1,0,none⟩=false:=frozen_of_block I.c;have r0:wr.cell? ⟨w.heap.size+1,0,none⟩=some .nilFunc:=cell_of_block I.r;have r1:wr.cell? ⟨w.heap.size+1,1,none⟩=some (.bool false):=cell_of_block I.r;have rf0:wr.frozen? ⟨w.heap.size+1,0,none⟩=false:=frozen_of_block I.r;have rf1:wr.frozen? ⟨w.heap.size+1,1,none⟩=false:=frozen_of_block I.r;have rlt:w.heap.size+1<wr.heap.size:=by have:=I.size;omega
   have HI:=lh I;clear I;by_cases hlt:k<s.size
   ·by_cases h93:s[k]=93
    ·have n93:((s[k].toNat:Int) != 93)=false:=by rw [h93];rfl
     have nk:((k:Int)==s.size)=false:=beq_eq_false_iff_ne.2 (by omega)
     cases rs with
     | nil =>
      have HF:=lh (HRR.out.symm.trans (rangesL_close hlt h93));clear HR;go_wp2_with fail;refine bodyPost_ret (results_row1 rfl _ _ (w.heap.size+1) 227 _ (0,0) _ rfl (by exact heap_setCell_same _ _ _ _ _ _ (heap_setCell_same _ _ _ _ _ _ HI.out.r)) underlying227 rfl (by kernel_rfl)) rfl ?_;exact ClsPost.none (by rw [HC.out,HF.out];rfl) ((HI.out.ext.setCell (by simp) _).setCell (by simp) _)
     | cons q rs' =>
      have HF:=lh (HRR.out.symm.trans (rangesL_close hlt h93));clear HR;have nl:(((q::rs').length:Int)==0)=false:=beq_eq_false_iff_ne.2 (by simp;omega);generalize hqr:q::rs'=rs at *;have HQ:=lh hqr;clear hqr;go_wp2_with fail;refine bodyPost_ret (results_row1 rfl _ _ (w.heap.size+1) 227 _ (0,0) _ rfl (by exact (((Ext.refl _).alloc _).block (by simpa using rlt)).trans (heap_setCell_same _ _ _ _ _ _ (heap_setCell_same _ _ _ _ _ _ HI.out.r))) underlying227 rfl (by kernel_rfl)) rfl ?_;have HD:=ClsInv.done HI.out _ rfl _ rfl;refine ⟨⟨_,_,_,rfl,.inr ⟨_,_,rfl⟩,?_⟩,HD.2⟩;rw [HC.out,HF.out,<-HQ.out];refine ⟨?_,rfl,by rw [HQ.out];exact HD.1⟩;rw [List.length_drop,len_toList];go_num
    ·have n93:((s[k].toNat:Int) != 93)=true:=by rw [bne,beq_eq_false_iff_ne.2 (fun e=>h93 (UInt8.toNat_inj.1 (by simp;omega)))];rfl
     go_wp2_with fail;refine ((HO k _).out).mono ?_;rintro e w1 ⟨rfl,hw1⟩;obtain rfl:=hw1.symm;rcases (HR k).out with ⟨q1,q2⟩ | ⟨f,n,q1,q2,q3,q4⟩
     ·rw [q1];have HF:=lh (HRR.out.symm.trans (rangesL_none hlt h93 q2));clear HR q2;go_wp2_with fail;refine bodyPost_ret (results_row1 rfl _ _ (w.heap.size+1) 227 _ (0,0) _ rfl (by exact heap_setCell_same _ _ _ _ _ _ (heap_setCell_same _ _ _ _ _ _ HI.out.r)) underlying227 rfl (by kernel_rfl)) rfl ?_;exact ClsPost.none (by rw [HC.out,HF.out];rfl) ((HI.out.ext.setCell (by simp) _).setCell (by simp) _)
     ·rw [q1];obtain ⟨a,ha⟩:∃ a,a=k+n:=⟨_,rfl⟩;have hka:(k:Int)+(n:Int)=(a:Int):=by omega
      have hak:k<a:=by omega
      rw [<-ha] at q3 q4;have HA:=lh ha;clear ha;simp only;rcases q4 with ⟨nd,q4⟩ | ⟨nd,q4⟩
      ·have HF:=lh (HRR.out.symm.trans (rangesL_some hlt h93 q4));clear HR q4
       have key:s.size<=a+1\/(∃ h:a+1<s.size,((s[a].toNat:Int)==45)=false)\/(∃ h:a+1<s.size,((s[a].toNat:Int)==45)=true/\((s[a+1].toNat:Int) != 93)=false):=by
        by_cases d:a+1<s.size
        ·by_cases d2:s[a]=45
         ·by_cases d3:s[a+1]=93
          ·exact .inr (.inr ⟨d,by rw [d2];rfl,by rw [d3];rfl⟩)
          ·exact absurd ⟨d,d2,d3⟩ nd
         ·exact .inr (.inl ⟨d,beq_eq_false_iff_ne.2 (fun e=>d2 (UInt8.toNat_inj.1 (by simp;omega)))⟩)
        ·exact .inl (by omega)
       clear nd;rcases key with d | ⟨d,d2⟩ | ⟨d,d2,d3⟩
       ·go_wp2_with (at_builtin;refine append_k elR (w.heap.size+1+1+1+1) _ rs.length (flatR rs) (HI.out.o.alloc _) wr.heap.size [.int .u8 f.toNat,.int .u8 f.toNat] rfl (.tmp 78) (.tmp 82) rfl rfl rfl rfl (news2 _ _ _ _) (ones2 _ _) (by omega) (by have:=HI.out.size;simp;omega) ?_);intro v' w1 hown1 hgr1 hv1;obtain ⟨g1,cap1,rfl,_⟩:=hv1;have I1:=lh (ClsInv.push (r:=(f,f)) HI.out hown1 hgr1);have hge:=own_block_ge_k HI.out.o;have hsz:=HI.out.size;have hc1:w1.cell? ⟨w.heap.size+1+1+1,0,none⟩=some (.slice va rs.length vc):=hgr1.cell (by rw [cell_alloc_old (by omega)];exact hc) (fun e=>by have:=hge _ e.symm;simp only at this;omega)
        have hf1:w1.frozen? ⟨w.heap.size+1+1+1,0,none⟩=false:=by
         rw [World.frozen?_of_block (hgr1.block (w.heap.size+1+1+1) (by simp;omega) (fun e=>by have:=hge _ e.symm;omega)),frozen_alloc_old (by omega)];exact hf
        clear hge hsz;go_wp2_with fail;go_roundw
        case rel=>exact ⟨a,m,rs++[(f,f)],_,by go_num,by omega,by omega,by simp;omega,HF.out.symm,I1.out⟩
        case measure=>simp [intOf];omega
       ·go_wp2_with (at_builtin;refine append_k elR (w.heap.size+1+1+1+1) _ rs.length (flatR rs) (HI.out.o.alloc _) wr.heap.size [.int .u8 f.toNat,.int .u8 f.toNat] rfl (.tmp 78) (.tmp 82) rfl rfl rfl rfl (news2 _ _ _ _) (ones2 _ _) (by omega) (by have:=HI.out.size;simp;omega) ?_);intro v' w1 hown1 hgr1 hv1;obtain ⟨g1,cap1,rfl,_⟩:=hv1;have I1:=lh (ClsInv.push (r:=(f,f)) HI.out hown1 hgr1);have hge:=own_block_ge_k HI.out.o;have hsz:=HI.out.size;have hc1:w1.cell? ⟨w.heap.size+1+1+1,0,none⟩=some (.slice va rs.length vc):=hgr1.cell (by rw [cell_alloc_old (by omega)];exact hc) (fun e=>by have:=hge _ e.symm;simp only at this;omega)
        have hf1:w1.frozen? ⟨w.heap.size+1+1+1,0,none⟩=false:=by
         rw [World.frozen?_of_block (hgr1.block (w.heap.size+1+1+1) (by simp;omega) (fun e=>by have:=hge _ e.symm;omega)),frozen_alloc_old (by omega)];exact hf
        clear hge hsz;go_wp2_with fail;go_roundw
        case rel=>exact ⟨a,m,rs++[(f,f)],_,by go_num,by omega,by omega,by simp;omega,HF.out.symm,I1.out⟩
        case measure=>simp [intOf];omega
       ·go_wp2_with (at_builtin;refine append_k elR (w.heap.size+1+1+1+1) _ rs.length (flatR rs) (HI.out.o.alloc _) wr.heap.size [.int .u8 f.toNat,.int .u8 f.toNat] rfl (.tmp 78) (.tmp 82) rfl rfl rfl rfl (news2 _ _ _ _) (ones2 _ _) (by omega) (by have:=HI.out.size;simp;omega) ?_);intro v' w1 hown1 hgr1 hv1;obtain ⟨g1,cap1,rfl,_⟩:=hv1;have I1:=lh (ClsInv.push (r:=(f,f)) HI.out hown1 hgr1);have hge:=own_block_ge_k HI.out.o;have hsz:=HI.out.size;have hc1:w1.cell? ⟨w.heap.size+1+1+1,0,none⟩=some (.slice va rs.length vc):=hgr1.cell (by rw [cell_alloc_old (by omega)];exact hc) (fun e=>by have:=hge _ e.symm;simp only at this;omega)
        have hf1:w1.frozen? ⟨w.heap.size+1+1+1,0,none⟩=false:=by
         rw [World.frozen?_of_block (hgr1.block (w.heap.size+1+1+1) (by simp;omega) (fun e=>by have:=hge _ e.symm;omega)),frozen_alloc_old (by omega)];exact hf
        clear hge hsz;go_wp2_with fail;go_roundw
        case rel=>exact ⟨a,m,rs++[(f,f)],_,by go_num,by omega,by omega,by simp;omega,HF.out.symm,I1.out⟩
        case measure=>simp [intOf];omega
      ·obtain ⟨d,d2,d3⟩:=nd;have e2:((s[a].toNat:Int)==45)=true:=by rw [d2];rfl
       have e3:((s[a+1].toNat:Int) != 93)=true:=by rw [bne,beq_eq_false_iff_ne.2 (fun e=>d3 (UInt8.toNat_inj.1 (by simp;omega)))];rfl
       clear d2 d3;have HQ4:=lh q4;clear q4;go_wp2_with fail;refine ((HO (a+1) _).out).mono ?_;rintro e w1 ⟨rfl,hw1⟩;obtain rfl:=hw1.symm;rcases HQ4.out with ⟨p1,p2⟩ | ⟨t,m2,p1,p2,p3,p4⟩
       ·rw [p1];have HF:=lh (HRR.out.symm.trans (rangesL_none hlt h93 p2));clear HR p2 HQ4;go_wp2_with fail;refine bodyPost_ret (results_row1 rfl _ _ (w.heap.size+1) 227 _ (0,0) _ rfl (by exact heap_setCell_same _ _ _ _ _ _ (heap_setCell_same _ _ _ _ _ _ HI.out.r)) underlying227 rfl (by kernel_rfl)) rfl ?_;exact ClsPost.none (by rw [HC.out,HF.out];rfl) ((HI.out.ext.setCell (by simp) _).setCell (by simp) _)
       ·rw [p1];obtain ⟨c,hcc⟩:∃ c,c=1+m2:=⟨_,rfl⟩;obtain ⟨b,hbb⟩:∃ b,b=a+c:=⟨_,rfl⟩;have hic:(1:Int)+(m2:Int)=(c:Int):=by omega
        have hib:(a:Int)+(c:Int)=(b:Int):=by omega
        have hab:a<b:=by omega
        rw [show a+1+m2=b from by omega] at p3 p4;have HB:=lh hbb;have HCC:=lh hcc;clear hbb hcc;have n0:((m2:Int)==0)=false:=beq_eq_false_iff_ne.2 (by omega);simp only;rcases p4 with ⟨p4,p5⟩ | ⟨p4,p5⟩
        ·have HF:=lh (HRR.out.symm.trans (rangesL_none hlt h93 p5));clear HR p5 HQ4;go_wp2_with fail;refine bodyPost_ret (results_row1 rfl _ _ (w.heap.size+1) 227 _ (0,0) _ rfl (by exact heap_setCell_same _ _ _ _ _ _ (heap_setCell_same _ _ _ _ _ _ HI.out.r)) underlying227 rfl (by kernel_rfl)) rfl ?_;exact ClsPost.none (by rw [HC.out,HF.out];rfl) ((HI.out.ext.setCell (by simp) _).setCell (by simp) _)
        ·have HF:=lh (HRR.out.symm.trans (rangesL_some hlt h93 p5));clear HR p5 HQ4;go_wp2_with (at_builtin;refine append_k elR (w.heap.size+1+1+1+1) _ rs.length (flatR rs) (HI.out.o.alloc _) wr.heap.size [.int .u8 f.toNat,.int .u8 t.toNat] rfl (.tmp 78) (.tmp 82) rfl rfl rfl rfl (news2 _ _ _ _) (ones2 _ _) (by omega) (by have:=HI.out.size;simp;omega) ?_);intro v' w1 hown1 hgr1 hv1;obtain ⟨g1,cap1,rfl,_⟩:=hv1;have I1:=lh (ClsInv.push (r:=(f,t)) HI.out hown1 hgr1);have hge:=own_block_ge_k HI.out.o;have hsz:=HI.out.size;have hc1:w1.cell? ⟨w.heap.size+1+1+1,0,none⟩=some (.slice va rs.length vc):=hgr1.cell (by rw [cell_alloc_old (by omega)];exact hc) (fun e=>by have:=hge _ e.symm;simp only at this;omega)
         have hf1:w1.frozen? ⟨w.heap.size+1+1+1,0,none⟩=false:=by
          rw [World.frozen?_of_block (hgr1.block (w.heap.size+1+1+1) (by simp;omega) (fun e=>by have:=hge _ e.symm;omega)),frozen_alloc_old (by omega)];exact hf
         clear hge hsz;go_wp2_with fail;go_roundw
         case rel=>exact ⟨b,m,rs++[(f,t)],_,by go_num,by omega,by omega,by simp;omega,HF.out.symm,I1.out⟩
         case measure=>simp [intOf];omega
   ·have:k=s.size:=by omega
    subst this;have HF:=lh (HRR.out.symm.trans rangesL_end);clear HR;go_wp2_with fail;refine bodyPost_ret (results_row1 rfl _ _ (w.heap.size+1) 227 _ (0,0) _ rfl (by exact heap_setCell_same _ _ _ _ _ _ (heap_setCell_same _ _ _ _ _ _ HI.out.r)) underlying227 rfl (by kernel_rfl)) rfl ?_;exact ClsPost.none (by rw [HC.out,HF.out];rfl) ((HI.out.ext.setCell (by simp) _).setCell (by simp) _)
 ·obtain ⟨R,hR0⟩:∃ R,R=rangesL (s.size+1) [] (s.toList.drop 1):=⟨_,rfl⟩;have HC:=lh (show classL s.toList=clsOf true R from by rw [hR0];exact classL_of (negL_of HN.out));have HR0:=lh hR0
  have hs0:0<s.size:=by
   have:=HN.out;rcases Nat.eq_zero_or_pos s.size with h0 | h0
   ·rw [<-Lib.toList_data,toList_nil s h0] at this;cases this
   ·exact h0
  clear hR0;go_wp2_with fail;go_loopw [6] (fun i wr=>Hid (∃ k m rs v,i=.int .i64 (k:Nat)/\k<=s.size/\s.size - k<m/\rs.length<=k/\rangesL m rs (s.toList.drop k)=R/\ClsInv w bp true wr v rs)) (fun i _=>s.size - (intOf i).toNat)
  case atStart=>exact ⟨1,s.size+1,[],_,rfl,by omega,by omega,Nat.zero_le _,HR0.out.symm,ClsInv.start w bp true⟩
  case round =>
   obtain ⟨k,m,rs,v,rfl,hk,hm,hrl,hR,I⟩:=hrel.out;obtain ⟨va,vc,rfl,hvc,hvc2,_⟩:=RangesAt.of_owns I.o;unfold maxLen at hvc2;obtain ⟨m,rfl⟩:∃ m',m=m'+1:=⟨m - 1,by omega⟩;have HRR:=lh hR;clear hR hrel;have hc:wr.cell? ⟨w.heap.size+1+1+1,0,none⟩=some (.slice va rs.length vc):=cell_of_block I.c;have hf:wr.frozen? ⟨w.heap.size+1+1+1,0,none⟩=false:=frozen_of_block I.c;have r0:wr.cell? ⟨w.heap.size+1,0,none⟩=some .nilFunc:=cell_of_block I.r;have r1:wr.cell? ⟨w.heap.size+1,1,none⟩=some (.bool false):=cell_of_block I.r;have rf0:wr.frozen? ⟨w.heap.size+1,0,none⟩=false:=frozen_of_block I.r;have rf1:wr.frozen? ⟨w.heap.size+1,1,none⟩=false:=frozen_of_block I.r;have rlt:w.heap.size+1<wr.heap.size:=by have:=I.size;omega
   have HI:=lh I;clear I;by_cases hlt:k<s.size
   ·by_cases h93:s[k]=93
    ·have n93:((s[k].toNat:Int) != 93)=false:=by rw [h93];rfl
     have nk:((k:Int)==s.size)=false:=beq_eq_false_iff_ne.2 (by omega)
     cases rs with
     | nil =>
      have HF:=lh (HRR.out.symm.trans (rangesL_close hlt h93));clear HR;go_wp2_with fail;refine bodyPost_ret (results_row1 rfl _ _ (w.heap.size+1) 227 _ (0,0) _ rfl (by exact heap_setCell_same _ _ _ _ _ _ (heap_setCell_same _ _ _ _ _ _ HI.out.r)) underlying227 rfl (by kernel_rfl)) rfl ?_;exact ClsPost.none (by rw [HC.out,HF.out];rfl) ((HI.out.ext.setCell (by simp) _).setCell (by simp) _)
     | cons q rs' =>
      have HF:=lh (HRR.out.symm.trans (rangesL_close hlt h93));clear HR;have nl:(((q::rs').length:Int)==0)=false:=beq_eq_false_iff_ne.2 (by simp;omega);generalize hqr:q::rs'=rs at *;have HQ:=lh hqr;clear hqr;go_wp2_with fail;refine bodyPost_ret (results_row1 rfl _ _ (w.heap.size+1) 227 _ (0,0) _ rfl (by exact (((Ext.refl _).alloc _).block (by simpa using rlt)).trans (heap_setCell_same _ _ _ _ _ _ (heap_setCell_same _ _ _ _ _ _ HI.out.r))) underlying227 rfl (by kernel_rfl)) rfl ?_;have HD:=ClsInv.done HI.out _ rfl _ rfl;refine ⟨⟨_,_,_,rfl,.inr ⟨_,_,rfl⟩,?_⟩,HD.2⟩;rw [HC.out,HF.out,<-HQ.out];refine ⟨?_,rfl,by rw [HQ.out];exact HD.1⟩;rw [List.length_drop,len_toList];go_num
    ·have n93:((s[k].toNat:Int) != 93)=true:=by rw [bne,beq_eq_false_iff_ne.2 (fun e=>h93 (UInt8.toNat_inj.1 (by simp;omega)))];rfl
     go_wp2_with fail;refine ((HO k _).out).mono ?_;rintro e w1 ⟨rfl,hw1⟩;obtain rfl:=hw1.symm;rcases (HR k).out with ⟨q1,q2⟩ | ⟨f,n,q1,q2,q3,q4⟩
     ·rw [q1];have HF:=lh (HRR.out.symm.trans (rangesL_none hlt h93 q2));clear HR q2;go_wp2_with fail;refine bodyPost_ret (results_row1 rfl _ _ (w.heap.size+1) 227 _ (0,0) _ rfl (by exact heap_setCell_same _ _ _ _ _ _ (heap_setCell_same _ _ _ _ _ _ HI.out.r)) underlying227 rfl (by kernel_rfl)) rfl ?_;exact ClsPost.none (by rw [HC.out,HF.out];rfl) ((HI.out.ext.setCell (by simp) _).setCell (by simp) _)
     ·rw [q1];obtain ⟨a,ha⟩:∃ a,a=k+n:=⟨_,rfl⟩;have hka:(k:Int)+(n:Int)=(a:Int):=by omega
      have hak:k<a:=by omega
      rw [<-ha] at q3 q4;have HA:=lh ha;clear ha;simp only;rcases q4 with ⟨nd,q4⟩ | ⟨nd,q4⟩
      ·have HF:=lh (HRR.out.symm.trans (rangesL_some hlt h93 q4));clear HR q4
       have key:s.size<=a+1\/(∃ h:a+1<s.size,((s[a].toNat:Int)==45)=false)\/(∃ h:a+1<s.size,((s[a].toNat:Int)==45)=true/\((s[a+1].toNat:Int) != 93)=false):=by
        by_cases d:a+1<s.size
        ·by_cases d2:s[a]=45
         ·by_cases d3:s[a+1]=93
          ·exact .inr (.inr ⟨d,by rw [d2];rfl,by rw [d3];rfl⟩)
          ·exact absurd ⟨d,d2,d3⟩ nd
         ·exact .inr (.inl ⟨d,beq_eq_false_iff_ne.2 (fun e=>d2 (UInt8.toNat_inj.1 (by simp;omega)))⟩)
        ·exact .inl (by omega)
       clear nd;rcases key with d | ⟨d,d2⟩ | ⟨d,d2,d3⟩
       ·go_wp2_with (at_builtin;refine append_k elR (w.heap.size+1+1+1+1) _ rs.length (flatR rs) (HI.out.o.alloc _) wr.heap.size [.int .u8 f.toNat,.int .u8 f.toNat] rfl (.tmp 78) (.tmp 82) rfl rfl rfl rfl (news2 _ _ _ _) (ones2 _ _) (by omega) (by have:=HI.out.size;simp;omega) ?_);intro v' w1 hown1 hgr1 hv1;obtain ⟨g1,cap1,rfl,_⟩:=hv1;have I1:=lh (ClsInv.push (r:=(f,f)) HI.out hown1 hgr1);have hge:=own_block_ge_k HI.out.o;have hsz:=HI.out.size;have hc1:w1.cell? ⟨w.heap.size+1+1+1,0,none⟩=some (.slice va rs.length vc):=hgr1.cell (by rw [cell_alloc_old (by omega)];exact hc) (fun e=>by have:=hge _ e.symm;simp only at this;omega)
        have hf1:w1.frozen? ⟨w.heap.size+1+1+1,0,none⟩=false:=by
         rw [World.frozen?_of_block (hgr1.block (w.heap.size+1+1+1) (by simp;omega) (fun e=>by have:=hge _ e.symm;omega)),frozen_alloc_old (by omega)];exact hf
        clear hge hsz;go_wp2_with fail;go_roundw
        case rel=>exact ⟨a,m,rs++[(f,f)],_,by go_num,by omega,by omega,by simp;omega,HF.out.symm,I1.out⟩
        case measure=>simp [intOf];omega
       ·go_wp2_with (at_builtin;refine append_k elR (w.heap.size+1+1+1+1) _ rs.length (flatR rs) (HI.out.o.alloc _) wr.heap.size [.int .u8 f.toNat,.int .u8 f.toNat] rfl (.tmp 78) (.tmp 82) rfl rfl rfl rfl (news2 _ _ _ _) (ones2 _ _) (by omega) (by have:=HI.out.size;simp;omega) ?_);intro v' w1 hown1 hgr1 hv1;obtain ⟨g1,cap1,rfl,_⟩:=hv1;have I1:=lh (ClsInv.push (r:=(f,f)) HI.out hown1 hgr1);have hge:=own_block_ge_k HI.out.o;have hsz:=HI.out.size;have hc1:w1.cell? ⟨w.heap.size+1+1+1,0,none⟩=some (.slice va rs.length vc):=hgr1.cell (by rw [cell_alloc_old (by omega)];exact hc) (fun e=>by have:=hge _ e.symm;simp only at this;omega)
        have hf1:w1.frozen? ⟨w.heap.size+1+1+1,0,none⟩=false:=by
         rw [World.frozen?_of_block (hgr1.block (w.heap.size+1+1+1) (by simp;omega) (fun e=>by have:=hge _ e.symm;omega)),frozen_alloc_old (by omega)];exact hf
        clear hge hsz;go_wp2_with fail;go_roundw
        case rel=>exact ⟨a,m,rs++[(f,f)],_,by go_num,by omega,by omega,by simp;omega,HF.out.symm,I1.out⟩
        case measure=>simp [intOf];omega
       ·go_wp2_with (at_builtin;refine append_k elR (w.heap.size+1+1+1+1) _ rs.length (flatR rs) (HI.out.o.alloc _) wr.heap.size [.int .u8 f.toNat,.int .u8 f.toNat] rfl (.tmp 78) (.tmp 82) rfl rfl rfl rfl (news2 _ _ _ _) (ones2 _ _) (by omega) (by have:=HI.out.size;simp;omega) ?_);intro v' w1 hown1 hgr1 hv1;obtain ⟨g1,cap1,rfl,_⟩:=hv1;have I1:=lh (ClsInv.push (r:=(f,f)) HI.out hown1 hgr1);have hge:=own_block_ge_k HI.out.o;have hsz:=HI.out.size;have hc1:w1.cell? ⟨w.heap.size+1+1+1,0,none⟩=some (.slice va rs.length vc):=hgr1.cell (by rw [cell_alloc_old (by omega)];exact hc) (fun e=>by have:=hge _ e.symm;simp only at this;omega)
        have hf1:w1.frozen? ⟨w.heap.size+1+1+1,0,none⟩=false:=by
         rw [World.frozen?_of_block (hgr1.block (w.heap.size+1+1+1) (by simp;omega) (fun e=>by have:=hge _ e.symm;omega)),frozen_alloc_old (by omega)];exact hf
        clear hge hsz;go_wp2_with fail;go_roundw
        case rel=>exact ⟨a,m,rs++[(f,f)],_,by go_num,by omega,by omega,by simp;omega,HF.out.symm,I1.out⟩
        case measure=>simp [intOf];omega
      ·obtain ⟨d,d2,d3⟩:=nd;have e2:((s[a].toNat:Int)==45)=true:=by rw [d2];rfl
       have e3:((s[a+1].toNat:Int) != 93)=true:=by rw [bne,beq_eq_false_iff_ne.2 (fun e=>d3 (UInt8.toNat_inj.1 (by simp;omega)))];rfl
       clear d2 d3;have HQ4:=lh q4;clear q4;go_wp2_with fail;refine ((HO (a+1) _).out).mono ?_;rintro e w1 ⟨rfl,hw1⟩;obtain rfl:=hw1.symm;rcases HQ4.out with ⟨p1,p2⟩ | ⟨t,m2,p1,p2,p3,p4⟩
       ·rw [p1];have HF:=lh (HRR.out.symm.trans (rangesL_none hlt h93 p2));clear HR p2 HQ4;go_wp2_with fail;refine bodyPost_ret (results_row1 rfl _ _ (w.heap.size+1) 227 _ (0,0) _ rfl (by exact heap_setCell_same _ _ _ _ _ _ (heap_setCell_same _ _ _ _ _ _ HI.out.r)) underlying227 rfl (by kernel_rfl)) rfl ?_;exact ClsPost.none (by rw [HC.out,HF.out];rfl) ((HI.out.ext.setCell (by simp) _).setCell (by simp) _)
       ·rw [p1];obtain ⟨c,hcc⟩:∃ c,c=1+m2:=⟨_,rfl⟩;obtain ⟨b,hbb⟩:∃ b,b=a+c:=⟨_,rfl⟩;have hic:(1:Int)+(m2:Int)=(c:Int):=by omega
        have hib:(a:Int)+(c:Int)=(b:Int):=by omega
        have hab:a<b:=by omega
        rw [show a+1+m2=b from by omega] at p3 p4;have HB:=lh hbb;have HCC:=lh hcc;clear hbb hcc;have n0:((m2:Int)==0)=false:=beq_eq_false_iff_ne.2 (by omega);simp only;rcases p4 with ⟨p4,p5⟩ | ⟨p4,p5⟩
        ·have HF:=lh (HRR.out.symm.trans (rangesL_none hlt h93 p5));clear HR p5 HQ4;go_wp2_with fail;refine bodyPost_ret (results_row1 rfl _ _ (w.heap.size+1) 227 _ (0,0) _ rfl (by exact heap_setCell_same _ _ _ _ _ _ (heap_setCell_same _ _ _ _ _ _ HI.out.r)) underlying227 rfl (by kernel_rfl)) rfl ?_;exact ClsPost.none (by rw [HC.out,HF.out];rfl) ((HI.out.ext.setCell (by simp) _).setCell (by simp) _)
        ·have HF:=lh (HRR.out.symm.trans (rangesL_some hlt h93 p5));clear HR p5 HQ4;go_wp2_with (at_builtin;refine append_k elR (w.heap.size+1+1+1+1) _ rs.length (flatR rs) (HI.out.o.alloc _) wr.heap.size [.int .u8 f.toNat,.int .u8 t.toNat] rfl (.tmp 78) (.tmp 82) rfl rfl rfl rfl (news2 _ _ _ _) (ones2 _ _) (by omega) (by have:=HI.out.size;simp;omega) ?_);intro v' w1 hown1 hgr1 hv1;obtain ⟨g1,cap1,rfl,_⟩:=hv1;have I1:=lh (ClsInv.push (r:=(f,t)) HI.out hown1 hgr1);have hge:=own_block_ge_k HI.out.o;have hsz:=HI.out.size;have hc1:w1.cell? ⟨w.heap.size+1+1+1,0,none⟩=some (.slice va rs.length vc):=hgr1.cell (by rw [cell_alloc_old (by omega)];exact hc) (fun e=>by have:=hge _ e.symm;simp only at this;omega)
         have hf1:w1.frozen? ⟨w.heap.size+1+1+1,0,none⟩=false:=by
          rw [World.frozen?_of_block (hgr1.block (w.heap.size+1+1+1) (by simp;omega) (fun e=>by have:=hge _ e.symm;omega)),frozen_alloc_old (by omega)];exact hf
         clear hge hsz;go_wp2_with fail;go_roundw
         case rel=>exact ⟨b,m,rs++[(f,t)],_,by go_num,by omega,by omega,by simp;omega,HF.out.symm,I1.out⟩
         case measure=>simp [intOf];omega
   ·have:k=s.size:=by omega
    subst this;have HF:=lh (HRR.out.symm.trans rangesL_end);clear HR;go_wp2_with fail;refine bodyPost_ret (results_row1 rfl _ _ (w.heap.size+1) 227 _ (0,0) _ rfl (by exact heap_setCell_same _ _ _ _ _ _ (heap_setCell_same _ _ _ _ _ _ HI.out.r)) underlying227 rfl (by kernel_rfl)) rfl ?_;exact ClsPost.none (by rw [HC.out,HF.out];rfl) ((HI.out.ext.setCell (by simp) _).setCell (by simp) _)
end
section
def markPo (o:Option (Nat×Nat)) (bp:Nat):Option Addr:=match o with | none=>none | some (k,_)=>some ⟨bp,k,none⟩
def markNo (o:Option (Nat×Nat)):Nat:=match o with | none=>0 | some (_,l)=>l
set_option maxHeartbeats 1000000 in
theorem mark_any (bp:Nat) (s:ByteArray) (w:World) :
  Calls prog 200 #[.pointer (some ⟨bp,0,none⟩),.string s] w fun e w'=>e=.returned (.tuple #[.pointer (markPo (gmarkL s.toList) bp),.int .i64 (markNo (gmarkL s.toList))])/\w'=w:=by
 have H1:=fun w=>lh (Tryz.strings_HasPrefix s ⟨#[33]⟩ w);have H2:=fun w=>lh (Tryz.strings_HasPrefix s ⟨#[40,63,105,41]⟩ w);have H3:=fun w=>lh (Tryz.strings_HasPrefix s ⟨#[40,63,100,41]⟩ w)
 have HM:gmarkL s.toList=if Lib.hasPrefix s.data.toList [33] then some (1,1) else if Lib.hasPrefix s.data.toList [40,63,105,41] then some (3,4) else if Lib.hasPrefix s.data.toList [40,63,100,41] then some (2,4) else none:=by
  rw [<-Lib.toList_data];rfl
 rw [HM];clear HM;simp only at H1 H2 H3;generalize Lib.hasPrefix s.data.toList [33]=b1 at *;generalize Lib.hasPrefix s.data.toList [40,63,105,41]=b2 at *;generalize Lib.hasPrefix s.data.toList [40,63,100,41]=b3 at *
 cases b1
 ·cases b2
  ·cases b3
   ·go_enter func200,ntmps200;go_wp2_with fail;refine ((H1 _).out).mono ?_;rintro e w1 ⟨rfl,hw⟩;obtain rfl:=hw.symm;go_wp2_with fail;refine ((H2 _).out).mono ?_;rintro e w1 ⟨rfl,hw⟩;obtain rfl:=hw.symm;go_wp2_with fail;refine ((H3 _).out).mono ?_;rintro e w1 ⟨rfl,hw⟩;obtain rfl:=hw.symm;go_wp2_with fail;go_ret2;exact ⟨rfl,rfl⟩
   ·go_enter func200,ntmps200;go_wp2_with fail;refine ((H1 _).out).mono ?_;rintro e w1 ⟨rfl,hw⟩;obtain rfl:=hw.symm;go_wp2_with fail;refine ((H2 _).out).mono ?_;rintro e w1 ⟨rfl,hw⟩;obtain rfl:=hw.symm;go_wp2_with fail;refine ((H3 _).out).mono ?_;rintro e w1 ⟨rfl,hw⟩;obtain rfl:=hw.symm;go_wp2_with fail;go_ret2;exact ⟨rfl,rfl⟩
  ·go_enter func200,ntmps200;go_wp2_with fail;refine ((H1 _).out).mono ?_;rintro e w1 ⟨rfl,hw⟩;obtain rfl:=hw.symm;go_wp2_with fail;refine ((H2 _).out).mono ?_;rintro e w1 ⟨rfl,hw⟩;obtain rfl:=hw.symm;go_wp2_with fail;go_ret2;exact ⟨rfl,rfl⟩
 ·go_enter func200,ntmps200;go_wp2_with fail;refine ((H1 _).out).mono ?_;rintro e w1 ⟨rfl,hw⟩;obtain rfl:=hw.symm;go_wp2_with fail;go_ret2;exact ⟨rfl,rfl⟩
def patCells (t:Value) (m:Marks) (rooted:Bool) (el:Value):Array Value:=#[t,.bool m.neg,.bool m.del,.bool m.fold,.bool rooted,el]
theorem markL_cases (s:List UInt8):gmarkL s=none\/∃ k l,gmarkL s=some (k,l)/\(k=1\/k=2\/k=3)/\1<=l/\l<=s.length:=by
 unfold gmarkL;split
 ·rename_i h;right;exact ⟨1,1,rfl,.inl rfl,by decide,(List.isPrefixOf_iff_prefix.1 h).length_le⟩
 ·split
  ·rename_i h;right;exact ⟨3,4,rfl,.inr (.inr rfl),by decide,(List.isPrefixOf_iff_prefix.1 h).length_le⟩
  ·split
   ·rename_i h;right;exact ⟨2,4,rfl,.inr (.inl rfl),by decide,(List.isPrefixOf_iff_prefix.1 h).length_le⟩
   ·left;rfl
theorem patCells_get (t el:Value) (m:Marks) (r:Bool) (k:Nat) (hk:k=1\/k=2\/k=3):(patCells t m r el)[k]?=some (.bool (m.get k)):=by
 rcases hk with rfl | rfl | rfl <;> rfl
theorem patCells_put (t el:Value) (m:Marks) (r:Bool) (k:Nat) (hk:k=1\/k=2\/k=3):(patCells t m r el).setIfInBounds k (.bool true)=patCells t (m.put k) r el:=by
 rcases hk with rfl | rfl | rfl <;> rfl
theorem rootL_eq (u:ByteArray):rootL u.toList=(Lib.hasPrefix u.data.toList [47],Lib.trimPrefix u.data.toList [47]):=by
 rw [<-Lib.toList_data,Lib.trimPrefix]
 cases h:u.toList with
 | nil=>rfl
 | cons c t =>
  by_cases hc:c=47
  ·subst hc;rfl
  ·have:Lib.hasPrefix (c::t) [47]=false:=by
    rw [Lib.hasPrefix];show ((47:UInt8)==c&&_)=false;rw [beq_eq_false_iff_ne.2 (Ne.symm hc)];rfl
   rw [this];unfold rootL;split
   ·rename_i h3;cases h3;exact absurd rfl hc
   ·rfl
def MarksPost (w:World) (bp:Nat) (t el:Value) (R:Option (Marks×List UInt8)) (e:Ending) (w':World):Prop :=
 Below bp w w'/\w'.heap.size=w.heap.size/\(match R with
  | none=>e=.returned (.tuple #[.string ByteArray.empty,.bool false])
  | some (m,r)=>e=.returned (.tuple #[.string (bsL (rootL r).2),.bool (decide (0<(rootL r).2.length))])/\w'.heap[bp]?=some (.cells (patCells t m (rootL r).1 el) 224 (0,0)))
set_option maxHeartbeats 1000000 in
theorem marks_any (bp:Nat) (s:ByteArray) (t el:Value) (m0:Marks) (r0:Bool) (w:World) (hb:w.heap[bp]?=some (.cells (patCells t m0 r0 el) 224 (0,0))) :
  Calls prog 130 #[.pointer (some ⟨bp,0,none⟩),.string s] w (MarksPost w bp t el (marksL (s.size+1) m0 s.toList)):=by
 have HM:=fun u w=>lh (mark_any bp u w);have HC:=fun u w=>lh (Tryz.strings_CutPrefix u ⟨#[47]⟩ w);have HB:=lh hb;clear hb;obtain ⟨R,hR0⟩:∃ R,R=marksL (s.size+1) m0 s.toList:=⟨_,rfl⟩;rw [<-hR0];have HR0:=lh hR0;clear hR0;go_enter func130,ntmps130;go_wp2_with fail;refine ((HM _ _).out).mono ?_;rintro e w1 ⟨rfl,hw⟩;obtain rfl:=hw.symm;go_wp2_with fail
 go_loopw [1,6,7] (fun sv fl nv wr=>Hid (∃ (u:ByteArray) (m:Marks) (f:Nat),sv=.string u/\fl=.pointer (markPo (gmarkL u.toList) bp)/\nv=.int .i64 (markNo (gmarkL u.toList))/\u.size<f/\u.size<=s.size/\marksL f m u.toList=R /\
   wr.heap[bp]?=some (.cells (patCells t m r0 el) 224 (0,0))/\Below bp w wr/\wr.heap.size=w.heap.size)) (fun sv _ _ _=>match sv with | .string u=>u.size | _=>0)
 case atStart=>exact ⟨s,m0,s.size+1,rfl,rfl,rfl,by omega,by omega,HR0.out.symm,HB.out,Below.refl _ _,rfl⟩
 case round =>
  obtain ⟨u,m,f,rfl,rfl,rfl,hf,hu,hR,hp,hbl,hsz⟩:=hrel.out;clear hrel;obtain ⟨f,rfl⟩:∃ g,f=g+1:=⟨f - 1,by omega⟩;rcases markL_cases u.toList with hm | ⟨k,l,hm,hk,hl1,hl2⟩
  ·rw [hm,show markPo none bp=none from rfl,show markNo none=0 from rfl];have HF:=lh (show some (m,u.toList)=R from by rw [<-hR,marksL,hm]);have HX:=lh hp;have c4:wr.cell? ⟨bp,4,none⟩=some (.bool r0):=cell_of_block hp;have f4:wr.frozen? ⟨bp,4,none⟩=false:=frozen_of_block hp;have HL:=lh hbl;have HZ:=lh hsz;have HR1:=lh (show rootL u.toList=(Lib.hasPrefix u.data.toList [47],Lib.trimPrefix u.data.toList [47]) from rootL_eq u);clear hp hR hm hbl hsz;have HCu:=HC u;clear HC HM;have hts:(⟨(Lib.trimPrefix u.data.toList [47]).toArray⟩:ByteArray).size=(Lib.trimPrefix u.data.toList [47]).length:=by simp [ByteArray.size]
   generalize Lib.hasPrefix u.data.toList [47]=rb at *;generalize Lib.trimPrefix u.data.toList [47]=rt at *;go_wp2_with fail;refine ((HCu _).out).mono ?_;rintro e w1 ⟨rfl,hw1⟩;obtain rfl:=hw1.symm;go_wp2_with fail;go_ret2;refine ⟨HL.out.setCell (Nat.le_refl _) _,by simp [HZ.out],?_⟩;rw [<-HF.out];simp only [HR1.out];refine ⟨?_,?_⟩
   ·rfl
   ·exact heap_setCell_same _ _ _ _ _ _ HX.out
  ·have HK:=lh (show R=if m.get k then none else marksL f (m.put k) (u.toList.drop l) from by rw [<-hR,marksL,hm]);rw [hm,show markPo (some (k,l)) bp=some ⟨bp,k,none⟩ from rfl,show markNo (some (k,l))=l from rfl];have HX:=lh hp;have ck:wr.cell? ⟨bp,k,none⟩=some (.bool (m.get k)):=(cell_of_block hp).trans (patCells_get t el m r0 k hk);have fk:wr.frozen? ⟨bp,k,none⟩=false:=frozen_of_block hp;have HL:=lh hbl;have HZ:=lh hsz;have HKK:=lh hk;have hl3:l<=u.size:=by rw [<-len_toList];exact hl2
   clear hp hR hm hbl hsz hk hl2
   cases hg:m.get k
   ·rw [hg] at ck HK;go_wp2_with fail;refine ((HM _ _).out).mono ?_;rintro e w1 ⟨rfl,hw1⟩;obtain rfl:=hw1.symm;go_wp2_with fail;go_roundw
    case rel =>
     refine ⟨u.extract l u.size,m.put k,f,rfl,rfl,rfl,by simp;omega,by simp;omega,?_,?_,HL.out.setCell (Nat.le_refl _) _,by simp [HZ.out]⟩
     ·rw [ext_toList,HK.out];rfl
     ·rw [<-patCells_put t el m r0 k HKK.out];exact heap_setCell_same _ _ _ _ _ _ HX.out
    case measure=>simp;omega
   ·rw [hg] at ck HK;go_wp2_with fail;go_ret2;refine ⟨HL.out,HZ.out,?_⟩;rw [HK.out];rfl
end
section
def EltPost (w:World) (bp:Nat) (s:ByteArray) (e:Ending) (w':World):Prop:=(∃ u b n,e=.returned (.tuple #[.agg #[u,.bool b],.int .i64 n])/\FnV u /\
   (match elementL s.toList with | none=>n=0 | some (x,r)=>n=(s.size - r.length:Nat)/\b=x.many/\GFn w' bp (fun b=>w.heap.size<=b) x u))/\Ext w w'
theorem EltPost.of_some {w w':World} {bp:Nat} {s:ByteArray} {F:FuncId} {cap:Array Value} {b:Bool} {n:Int} {x:GE} {r:List UInt8} (h:elementL s.toList=some (x,r)) (hn:n=(s.size - r.length:Nat)) (hb:b=x.many)
  (he:GFn w' bp (fun b=>w.heap.size<=b) x (.func (.func F) #[] cap)) (k:Ext w w'):EltPost w bp s (.returned (.tuple #[.agg #[.func (.func F) #[] cap,.bool b],.int .i64 n])) w':=⟨⟨_,_,_,rfl,.inr ⟨_,_,rfl⟩,by rw [h];exact ⟨hn,hb,he⟩⟩,k⟩
theorem EltPost.of_none {w w':World} {bp:Nat} {s:ByteArray} {u:Value} {b:Bool} (h:elementL s.toList=none) (hu:FnV u) (k:Ext w w') :
  EltPost w bp s (.returned (.tuple #[.agg #[u,.bool b],.int .i64 0])) w':=⟨⟨_,_,_,rfl,hu,by rw [h]⟩,k⟩
theorem element_cases (s:ByteArray) (h:0<s.size) :
  (Lib.hasPrefix s.data.toList [42,42]=true/\2<=s.size/\elementL s.toList=some (.all,s.toList.drop 2)) \/
  (Lib.hasPrefix s.data.toList [42,42]=false/\s[0]=42/\elementL s.toList=some (.some,s.toList.drop 1)) \/
  (Lib.hasPrefix s.data.toList [42,42]=false/\s[0]=63/\elementL s.toList=some (.any,s.toList.drop 1)) \/
  (Lib.hasPrefix s.data.toList [42,42]=false/\s[0]=47/\elementL s.toList=some (.byt 47,s.toList.drop 1)) \/
  (Lib.hasPrefix s.data.toList [42,42]=false/\s[0]=91/\elementL s.toList=classL (s.toList.drop 1)) \/
  (Lib.hasPrefix s.data.toList [42,42]=false/\s[0]≠42/\s[0]≠63/\s[0]≠47/\s[0]≠91/\elementL s.toList=match writtenL s.toList with | none=>none | some (c,r)=>some (.byt c,r)):=by
 have hl:=toList_cons s h;rw [<-ext_toList s 1,<-Lib.toList_data];generalize (s.extract 1 s.size).toList=t at *;have hz:s.size=t.length+1:=by rw [<-len_toList,hl];rfl
 have hd2:s.toList.drop 2=t.drop 1:=by rw [hl];rfl
 rw [hd2,hl];generalize s[0]=c at *
 have np:c≠42->Lib.hasPrefix (c::t) [42,42]=false:=fun e=>by
  rw [Lib.hasPrefix];show ((42:UInt8)==c&&_)=false;rw [beq_eq_false_iff_ne.2 (Ne.symm e)];rfl
 by_cases h1:c=42
 ·subst h1
  cases t with
  | nil=>right;left;exact ⟨rfl,rfl,rfl⟩
  | cons d u =>
   by_cases h2:d=42
   ·subst h2;left;exact ⟨rfl,by simp at hz;omega,rfl⟩
   ·right;left;refine ⟨?_,rfl,?_⟩
    ·rw [Lib.hasPrefix];show ((42:UInt8)==42&&((42:UInt8)==d&&_))=false;rw [beq_eq_false_iff_ne.2 (Ne.symm h2)];rfl
    ·unfold elementL;split
     all_goals first
      | (rename_i h3;cases h3;first | rfl | exact absurd rfl h2)
      | (exfalso;simp_all)
 ·have n1:=np h1;right;right;by_cases h2:c=63
  ·subst h2;left;exact ⟨n1,rfl,rfl⟩
  ·right;by_cases h3:c=47
   ·subst h3;left;exact ⟨n1,rfl,rfl⟩
   ·right;by_cases h4:c=91
    ·subst h4;left;exact ⟨n1,rfl,rfl⟩
    ·right;refine ⟨n1,h1,h2,h3,h4,?_⟩;unfold elementL;split
     ·rename_i q;cases q;exact absurd rfl h1
     ·rename_i q;cases q;exact absurd rfl h1
     ·rename_i q;cases q;exact absurd rfl h2
     ·rename_i q;cases q;exact absurd rfl h3
     ·rename_i q;cases q;exact absurd rfl h4
     ·rfl
theorem gfn_shape {w:World} {bp:Nat} {Far:Nat->Prop} {e:GE} {v:Value} (h:GFn w bp Far e v):∃ F cap,v=.func (.func F) #[] cap:=by
 cases e with
 | all=>exact ⟨_,_,h⟩
 | some=>exact ⟨_,_,h⟩
 | any=>exact ⟨_,_,h⟩
 | byt c=>obtain ⟨_,_,h,_⟩:=h;exact ⟨_,_,h⟩
 | set neg rs=>obtain ⟨_,_,_,_,_,h,_⟩:=h;exact ⟨_,_,h⟩
theorem gfn_stored {w w1:World} {o:Obj} {bp:Nat} {e:GE} {v a b:Value} (x:Ext (w.alloc o) w1) (h:GFn w1 bp (fun b=>(w.alloc o).heap.size<=b) e v) :
  GFn ((w1.setCell ⟨w.heap.size,0,none⟩ a).setCell ⟨w.heap.size,1,none⟩ b) bp (fun b=>w.heap.size<=b) e v/\Ext w ((w1.setCell ⟨w.heap.size,0,none⟩ a).setCell ⟨w.heap.size,1,none⟩ b):=by
 have hz:(w.alloc o).heap.size=w.heap.size+1:=by simp
 refine ⟨?_,(((Ext.refl w).alloc o).trans x).setCell (Nat.le_refl _) a |>.setCell (Nat.le_refl _) b⟩;refine (h.keeps ⟨by simp,fun b' o' hb hl=>World.cell?_of_block ?_⟩).far (fun b' _ hb=>by omega);simp only;rw [heap_setCell_other _ _ _ _ (by simp;omega),heap_setCell_other _ _ _ _ (by simp;omega)]
theorem first_block {w w1:World} {o:Obj} (x:Ext (w.alloc o) w1):w1.heap[w.heap.size]?=some o:=(x.block (by simp)).trans (heap_alloc_new _ _)
set_option maxHeartbeats 2000000 in
set_option maxRecDepth 100000 in
theorem element_any (bp:Nat) (s:ByteArray) (w:World) (h0:0<s.size) (hs:s.size<=1024) :
  Calls prog 131 #[.pointer (some ⟨bp,0,none⟩),.string s] w (EltPost w bp s):=by
 have HP:=fun w=>lh (Tryz.strings_HasPrefix s ⟨#[42,42]⟩ w);have HO:=fun w=>lh (one_any s w (by unfold maxLen;omega));have HI:=fun c w=>lh (gis_any bp c w);have HC:=fun w=>lh (class_any bp (s.extract 1 s.size) w (by simp;omega));rcases element_cases s h0 with ⟨hp,hz,he⟩ | ⟨hp,hc,he⟩ | ⟨hp,hc,he⟩ | ⟨hp,hc,he⟩ | ⟨hp,hc,he⟩ | ⟨hp,n1,n2,n3,n4,he⟩
 ·have HE:=lh he;have HQ:=lh hp;clear he hp HO HI HC;go_enter func131,ntmps131;go_wp2_with fail;refine ((HP _).out).mono ?_;rintro e w1 ⟨rfl,hw1⟩;obtain rfl:=hw1.symm;rw [HQ.out];go_wp2_with fail;refine bodyPost_ret (results_row1 rfl _ _ w.heap.size 227 _ (0,0) _ rfl (heap_alloc_new _ _) underlying227 rfl (by kernel_rfl)) rfl ?_;exact EltPost.of_some (x:=.all) HE.out (by rw [List.length_drop,len_toList];go_num) rfl rfl ((Ext.refl w).alloc _)
 ·have HE:=lh he;have HQ:=lh hp;have q0:((s[0].toNat:Int)==42)=true:=by rw [hc];rfl
  clear he hp HO HI HC hc;go_enter func131,ntmps131;go_wp2_with fail;refine ((HP _).out).mono ?_;rintro e w1 ⟨rfl,hw1⟩;obtain rfl:=hw1.symm;rw [HQ.out];go_wp2_with fail;refine bodyPost_ret (results_row1 rfl _ _ w.heap.size 227 _ (0,0) _ rfl (heap_alloc_new _ _) underlying227 rfl (by kernel_rfl)) rfl ?_;exact EltPost.of_some (x:=.some) HE.out (by rw [List.length_drop,len_toList];go_num) rfl rfl ((Ext.refl w).alloc _)
 ·have HE:=lh he;have HQ:=lh hp;have q0:((s[0].toNat:Int)==42)=false:=by rw [hc];rfl
  have q1:((s[0].toNat:Int)==63)=true:=by rw [hc];rfl
  clear he hp HO HI HC hc;go_enter func131,ntmps131;go_wp2_with fail;refine ((HP _).out).mono ?_;rintro e w1 ⟨rfl,hw1⟩;obtain rfl:=hw1.symm;rw [HQ.out];go_wp2_with fail;refine bodyPost_ret (results_row1 rfl _ _ w.heap.size 227 _ (0,0) _ rfl (heap_alloc_new _ _) underlying227 rfl (by kernel_rfl)) rfl ?_;exact EltPost.of_some (x:=.any) HE.out (by rw [List.length_drop,len_toList];go_num) rfl rfl ((Ext.refl w).alloc _)
 ·have HE:=lh he;have HQ:=lh hp;have q0:((s[0].toNat:Int)==42)=false:=by rw [hc];rfl
  have q1:((s[0].toNat:Int)==63)=false:=by rw [hc];rfl
  have q2:((s[0].toNat:Int)==47)=true:=by rw [hc];rfl
  clear he hp HO HC hc;go_enter func131,ntmps131;go_wp2_with fail;refine ((HP _).out).mono ?_;rintro e w1 ⟨rfl,hw1⟩;obtain rfl:=hw1.symm;rw [HQ.out];go_wp2_with fail;refine ((HI 47 _).out).mono ?_;rintro e w1 ⟨F,cap,rfl,hv,x1⟩;have hb:=first_block x1;have HS:=lh (gfn_stored (a:=.func (.func F) #[] cap) (b:=.bool false) x1 hv);have r0:w1.cell? ⟨w.heap.size,0,none⟩=some .nilFunc:=cell_of_block hb;have r1:w1.cell? ⟨w.heap.size,1,none⟩=some (.bool false):=cell_of_block hb;have rf0:w1.frozen? ⟨w.heap.size,0,none⟩=false:=frozen_of_block hb;have rf1:w1.frozen? ⟨w.heap.size,1,none⟩=false:=frozen_of_block hb;have HB:=lh hb;clear hb hv x1;go_wp2_with fail;refine bodyPost_ret (results_row1 rfl _ _ w.heap.size 227 _ (0,0) _ rfl (by exact heap_setCell_same _ _ _ _ _ _ (heap_setCell_same _ _ _ _ _ _ HB.out)) underlying227 rfl (by kernel_rfl)) rfl ?_;exact EltPost.of_some (x:=.byt 47) HE.out (by rw [List.length_drop,len_toList];go_num) rfl HS.out.1 HS.out.2
 ·have HE:=lh he;have HQ:=lh hp;have q0:((s[0].toNat:Int)==42)=false:=by rw [hc];rfl
  have q1:((s[0].toNat:Int)==63)=false:=by rw [hc];rfl
  have q2:((s[0].toNat:Int)==47)=false:=by rw [hc];rfl
  have q3:((s[0].toNat:Int)==91)=true:=by rw [hc];rfl
  clear he hp HO HI hc;go_enter func131,ntmps131;go_wp2_with fail;refine ((HP _).out).mono ?_;rintro e w1 ⟨rfl,hw1⟩;obtain rfl:=hw1.symm;rw [HQ.out];go_wp2_with fail;refine ((HC _).out).mono ?_;rintro e w1 ⟨⟨u,b,n,rfl,hu,hcl⟩,x1⟩;rw [ext_toList] at hcl;have hb:=first_block x1;have r0:w1.cell? ⟨w.heap.size,0,none⟩=some .nilFunc:=cell_of_block hb;have r1:w1.cell? ⟨w.heap.size,1,none⟩=some (.bool false):=cell_of_block hb;have rf0:w1.frozen? ⟨w.heap.size,0,none⟩=false:=frozen_of_block hb;have rf1:w1.frozen? ⟨w.heap.size,1,none⟩=false:=frozen_of_block hb;have hlt:w.heap.size<w1.heap.size:=lt_of_block hb;have HB:=lh hb;clear hb;have HX:=lh x1;clear x1;have hes:(s.extract 1 s.size).size=s.size - 1:=by simp
  cases hq:classL (s.toList.drop 1) with
  | none =>
   rw [hq] at hcl;obtain rfl:n=0:=hcl;have HF:=lh (HE.out.trans hq);clear hq;rcases hu with rfl | ⟨F,cap,rfl⟩
   ·go_wp2_with fail;refine bodyPost_ret (results_row1 rfl _ _ w.heap.size 227 _ (0,0) _ rfl (by exact (((Ext.refl _).alloc _).block (by simpa using hlt)).trans (heap_setCell_same _ _ _ _ _ _ (heap_setCell_same _ _ _ _ _ _ HB.out))) underlying227 rfl (by kernel_rfl)) rfl ?_;exact EltPost.of_none HF.out (.inl rfl) (((((Ext.refl w).alloc _).trans HX.out).setCell (Nat.le_refl _) _ |>.setCell (Nat.le_refl _) _).alloc _)
   ·go_wp2_with fail;refine bodyPost_ret (results_row1 rfl _ _ w.heap.size 227 _ (0,0) _ rfl (by exact (((Ext.refl _).alloc _).block (by simpa using hlt)).trans (heap_setCell_same _ _ _ _ _ _ (heap_setCell_same _ _ _ _ _ _ HB.out))) underlying227 rfl (by kernel_rfl)) rfl ?_;exact EltPost.of_none HF.out (.inl rfl) (((((Ext.refl w).alloc _).trans HX.out).setCell (Nat.le_refl _) _ |>.setCell (Nat.le_refl _) _).alloc _)
  | some y =>
   obtain ⟨x,r⟩:=y;rw [hq] at hcl;obtain ⟨rfl,rfl,hg⟩:=hcl;obtain ⟨F,cap,rfl⟩:=gfn_shape hg;have hr:=classL_lt hq;rw [List.length_drop,len_toList] at hr;have HF:=lh (HE.out.trans hq);rw [hes];obtain ⟨k,hk⟩:∃ k,k=s.size - 1 - r.length:=⟨_,rfl⟩;rw [<-hk];have hk0:0<k:=by omega
   have hk2:k<=1024:=by omega
   have HK:=lh (show k+1=s.size - r.length from by omega);have n0:((k:Int)==0)=false:=beq_eq_false_iff_ne.2 (by omega);have HS:=lh (gfn_stored (a:=.func (.func F) #[] cap) (b:=.bool x.many) HX.out hg);clear hq hg hk hr;go_wp2_with fail;refine bodyPost_ret (results_row1 rfl _ _ w.heap.size 227 _ (0,0) _ rfl (by exact (((Ext.refl _).alloc _).block (by simpa using hlt)).trans (heap_setCell_same _ _ _ _ _ _ (heap_setCell_same _ _ _ _ _ _ HB.out))) underlying227 rfl (by kernel_rfl)) rfl ?_;exact EltPost.of_some (x:=x) HF.out (by rw [<-HK.out];go_num) rfl (HS.out.1.keeps (((Ext.refl _).alloc _).keeps _)) (HS.out.2.alloc _)
 ·have HQ:=lh hp;have q0:((s[0].toNat:Int)==42)=false:=toNat_ne n1;have q1:((s[0].toNat:Int)==63)=false:=toNat_ne n2;have q2:((s[0].toNat:Int)==47)=false:=toNat_ne n3;have q3:((s[0].toNat:Int)==91)=false:=toNat_ne n4
  have key:∃ c k,oneS s=(c,k)/\k<=s.size/\((k=0/\elementL s.toList=none)\/elementL s.toList=some (.byt c,s.toList.drop k)):=by
   rcases one_cases s with ⟨h1,h2⟩ | ⟨c,k,h1,h2,h3,h4⟩
   ·exact ⟨_,_,h1,by omega,.inl ⟨rfl,by rw [he,h2]⟩⟩
   ·exact ⟨_,_,h1,by omega,.inr (by rw [he,h4])⟩
  obtain ⟨c,k,hck,hk,HE⟩:=key;have HE:=lh HE;rw [hck] at HO;have hI:=HI c;clear he hp HC n1 n2 n3 n4 hck HI;simp only at HO;go_enter func131,ntmps131;go_wp2_with fail;refine ((HP _).out).mono ?_;rintro e w1 ⟨rfl,hw1⟩;obtain rfl:=hw1.symm;rw [HQ.out];go_wp2_with fail;refine ((HO _).out).mono ?_;rintro e w1 ⟨rfl,hw1⟩;obtain rfl:=hw1.symm;go_wp2_with fail;refine ((hI _).out).mono ?_;rintro e w1 ⟨F,cap,rfl,hv,x1⟩;have hb:=first_block x1;have HS:=lh (gfn_stored (a:=.func (.func F) #[] cap) (b:=.bool false) x1 hv);have r0:w1.cell? ⟨w.heap.size,0,none⟩=some .nilFunc:=cell_of_block hb;have r1:w1.cell? ⟨w.heap.size,1,none⟩=some (.bool false):=cell_of_block hb;have rf0:w1.frozen? ⟨w.heap.size,0,none⟩=false:=frozen_of_block hb;have rf1:w1.frozen? ⟨w.heap.size,1,none⟩=false:=frozen_of_block hb;have HB:=lh hb;clear hb hv x1;go_wp2_with fail;refine bodyPost_ret (results_row1 rfl _ _ w.heap.size 227 _ (0,0) _ rfl (by exact heap_setCell_same _ _ _ _ _ _ (heap_setCell_same _ _ _ _ _ _ HB.out)) underlying227 rfl (by kernel_rfl)) rfl ?_;rcases HE.out with ⟨rfl,hn⟩ | hs'
  ·exact EltPost.of_none hn (.inr ⟨_,_,rfl⟩) HS.out.2
  ·exact EltPost.of_some (x:=.byt c) hs' (by rw [List.length_drop,len_toList,show s.size - (s.size - k)=k from by omega]) rfl HS.out.1 HS.out.2
end
section
def endsL (f:Bool) (es:List GE) (s:List UInt8) (a i:Nat):Bool:=decide (a<=i)&&wholeL f es ((s.take i).drop a)
theorem endsL_nil (f:Bool) (s:List UInt8) (a i:Nat) (hi:i<=s.length):endsL f [] s a i=(i==a):=by
 rw [Bool.eq_iff_iff,endsL,wholeL_nil,Bool.and_eq_true,decide_eq_true_eq,List.isEmpty_iff_length_eq_zero,beq_iff_eq,List.length_drop,List.length_take];omega
theorem take_drop_snoc (s:List UInt8) (a i:Nat) (c:UInt8) (hi:0<i) (ha:a<=i - 1) (hc:s[i - 1]?=some c):(s.take i).drop a=(s.take (i - 1)).drop a++[c]:=by
 obtain ⟨k,rfl⟩:∃ k,i=k+1:=⟨i - 1,by omega⟩;rw [Nat.add_sub_cancel] at *;obtain ⟨hk,e⟩:=List.getElem?_eq_some_iff.1 hc;rw [List.take_succ_eq_append_getElem hk,e,List.drop_append_of_le_length (by rw [List.length_take];omega)]
theorem drop_take_self (s:List UInt8) (i:Nat):(s.take i).drop i=[]:=List.drop_of_length_le (by rw [List.length_take];omega)
theorem endsL_many (f:Bool) (es:List GE) (e:GE) (h:e.many=true) (s:List UInt8) (a i:Nat) (c:UInt8) (hi:0<i) (hc:s[i - 1]?=some c) :
  endsL f (es++[e]) s a i=(endsL f es s a i||endsL f (es++[e]) s a (i - 1)&&e.holds f c):=by
 unfold endsL;by_cases h1:a<=i - 1
 ·rw [take_drop_snoc s a i c hi h1 hc,wholeL_snoc_many f es e h,show decide (a<=i)=true from by simp;omega,show decide (a<=i - 1)=true from by simpa using h1];simp
 ·by_cases h2:a=i
  ·subst h2;rw [drop_take_self,wholeL_snoc_nil,h,show decide (a<=a - 1)=false from by simp;omega];simp
  ·rw [show decide (a<=i)=false from by simp;omega,show decide (a<=i - 1)=false from by simp;omega];rfl
theorem endsL_many_zero (f:Bool) (es:List GE) (e:GE) (h:e.many=true) (s:List UInt8) (a:Nat):endsL f (es++[e]) s a 0=endsL f es s a 0:=by
 unfold endsL;rw [List.take_zero,List.drop_nil,wholeL_snoc_nil,h];simp
theorem endsL_one (f:Bool) (es:List GE) (e:GE) (h:e.many=false) (s:List UInt8) (a i:Nat) (c:UInt8) (hi:0<i) (hc:s[i - 1]?=some c) :
  endsL f (es++[e]) s a i=(endsL f es s a (i - 1)&&e.holds f c):=by
 unfold endsL;by_cases h1:a<=i - 1
 ·rw [take_drop_snoc s a i c hi h1 hc,wholeL_snoc_one f es e h,show decide (a<=i)=true from by simp;omega,show decide (a<=i - 1)=true from by simpa using h1];simp
 ·by_cases h2:a=i
  ·subst h2;rw [drop_take_self,wholeL_snoc_nil,h,show decide (a<=a - 1)=false from by simp;omega];simp
  ·rw [show decide (a<=i)=false from by simp;omega,show decide (a<=i - 1)=false from by simp;omega];rfl
theorem endsL_one_zero (f:Bool) (es:List GE) (e:GE) (h:e.many=false) (s:List UInt8) (a:Nat):endsL f (es++[e]) s a 0=false:=by
 unfold endsL;rw [List.take_zero,List.drop_nil,wholeL_snoc_nil,h];simp
def blA (n k:Nat) (f:Nat->Bool):Array Value:=((List.range n).map fun i=>Value.bool (decide (i<k)&&f i)).toArray
theorem blA_size (n k:Nat) (f:Nat->Bool):(blA n k f).size=n:=by simp [blA]
theorem blA_get (n k:Nat) (f:Nat->Bool) (i:Nat) (hi:i<n):(blA n k f)[i]?=some (.bool (decide (i<k)&&f i)):=by
 simp [blA,List.getElem?_range hi]
theorem blA_at (n k:Nat) (f:Nat->Bool) (i:Nat) (hi:i<n) (hk:i<k):(blA n k f)[i]?=some (.bool (f i)):=by
 rw [blA_get n k f i hi,show decide (i<k)=true from by simpa using hk];rfl
theorem blA_ext (n k:Nat) (f:Nat->Bool) (A:Array Value) (hs:A.size=n) (h:∀ i,i<n->A[i]?=some (.bool (decide (i<k)&&f i))):A=blA n k f:=by
 apply Array.ext_getElem?;intro i;by_cases hi:i<n
 ·rw [h i hi,blA_get n k f i hi]
 ·rw [Array.getElem?_eq_none (by omega),Array.getElem?_eq_none (by rw [blA_size];omega)]
theorem blA_set (n k:Nat) (f:Nat->Bool) (hk:k<n):(blA n k f).setIfInBounds k (.bool (f k))=blA n (k+1) f:=by
 refine blA_ext _ _ _ _ (by rw [Array.size_setIfInBounds,blA_size]) fun i hi=>?_;rw [Array.getElem?_setIfInBounds];by_cases e:k=i
 ·subst e;rw [if_pos rfl,if_pos (by rw [blA_size];exact hk)];simp
 ·rw [if_neg e,blA_get n k f i hi,show decide (i<k+1)=decide (i<k) from by rw [decide_eq_decide];omega]
theorem blA_made (n:Nat) (f:Nat->Bool):madeCells #[.bool false] n=blA n 0 f:=by
 refine blA_ext _ _ _ _ (size_madeCells _ _) fun i hi=>?_;simp [madeCells,hi,Nat.mod_one]
def rowL (p:Pat) (s:List UInt8) (a:Nat):Bool:=startL p.rooted s a&&(List.range (s.length+1)).any fun b=>endsL p.marks.fold p.es s a b&&endL s b
theorem matchL_rows (p:Pat) (s:List UInt8):matchL p s=(decide (s.length<=160)&&(List.range (s.length+1)).any (rowL p s)):=by
 unfold matchL
 have h:(fun a=>startL p.rooted s a&&(List.range (s.length+1)).any fun b=>decide (a<=b)&&endL s b&&wholeL p.marks.fold p.es ((s.take b).drop a))=rowL p s:=by
  funext a
  unfold rowL
  have h2:(fun b=>decide (a<=b)&&endL s b&&wholeL p.marks.fold p.es ((s.take b).drop a))=fun b=>endsL p.marks.fold p.es s a b&&endL s b:=by
   funext b
   unfold endsL
   cases decide (a<=b) <;> cases endL s b <;> simp
  rw [h2]
 rw [h]
def NoneOf (n:Nat) (f:Nat->Bool):Prop:=∀ i,i<n->f i=false
theorem NoneOf.zero (f:Nat->Bool):NoneOf 0 f:=fun i hi=>absurd hi (Nat.not_lt_zero i)
theorem NoneOf.succ {n:Nat} {f:Nat->Bool} (h:NoneOf n f) (k:f n=false):NoneOf (n+1) f:=fun i hi=>by
 rcases Nat.lt_or_ge i n with h1 | h1
 ·exact h i h1
 ·rwa [show i=n from by omega]
theorem NoneOf.any {n:Nat} {f:Nat->Bool} (h:NoneOf n f):(List.range n).any f=false:=by
 rw [List.any_eq_false];intro i hi;rw [h i (List.mem_range.1 hi)]
 decide
theorem any_of {n i:Nat} {f:Nat->Bool} (hi:i<n) (h:f i=true):(List.range n).any f=true:=List.any_eq_true.2 ⟨i,List.mem_range.2 hi,h⟩
end
section
theorem elE:ElemK prog 222 227 (.agg #[.nilFunc,.bool false]) 2 16:=⟨by kernel_rfl,by kernel_rfl,rfl,by decide,by decide⟩
def flatE (l:List (GE×Value)):List Value:=l.flatMap fun x=>[x.2,.bool x.1.many]
theorem flatE_snoc (l:List (GE×Value)) (x:GE×Value):flatE (l++[x])=flatE l++[x.2,.bool x.1.many]:=by simp [flatE]
theorem flatE_at:∀ (l:List (GE×Value)) (j:Nat) (x:GE×Value),l[j]?=some x->(flatE l)[2*j]?=some x.2/\(flatE l)[2*j+1]?=some (.bool x.1.many)
 | [],_,_,h=>by cases h
 | y::l,0,x,h=>by cases h;exact ⟨rfl,rfl⟩
 | y::l,j+1,x,h=>by
  have:=flatE_at l j x h;rw [show 2*(j+1)=2*j+1+1 from by omega];exact this
structure EltsAt (w:World) (bp:Nat) (Far:Nat->Prop) (v:Value) (l:List (GE×Value)):Prop where
 row:∃ a cap,v=.slice a l.length cap/\l.length<=cap/\cap<=maxLen/\∀ (j:Nat) x,l[j]?=some x->∃ g,a=some ⟨g,0,none⟩/\Far g/\w.cell? ⟨g,2*j,none⟩=some x.2/\w.cell? ⟨g,2*j+1,none⟩=some (.bool x.1.many)
 fns:∀ x∈l,GFn w bp Far x.1 x.2
theorem EltsAt.keeps {w w':World} {bp:Nat} {Far:Nat->Prop} {v:Value} {l:List (GE×Value)} (h:EltsAt w bp Far v l) (k:Keeps Far w w'):EltsAt w' bp Far v l:=by
 obtain ⟨a,cap,h1,h2,h3,h4⟩:=h.row;refine ⟨⟨a,cap,h1,h2,h3,fun j x hj=>?_⟩,fun x hx=>(h.fns x hx).keeps k⟩;obtain ⟨g,h5,h6,h7,h8⟩:=h4 j x hj;exact ⟨g,h5,h6,k.at_ h6 h7,k.at_ h6 h8⟩
theorem EltsAt.far {w:World} {bp:Nat} {Far Far':Nat->Prop} {v:Value} {l:List (GE×Value)} (h:EltsAt w bp Far v l) (k:∀ b,b<w.heap.size->Far b->Far' b):EltsAt w bp Far' v l:=by
 obtain ⟨a,cap,h1,h2,h3,h4⟩:=h.row;refine ⟨⟨a,cap,h1,h2,h3,fun j x hj=>?_⟩,fun x hx=>(h.fns x hx).far k⟩;obtain ⟨g,h5,h6,h7,h8⟩:=h4 j x hj;exact ⟨g,h5,k _ (lt_of_cell h7) h6,h7,h8⟩
structure PatAt (w:World) (Far:Nat->Prop) (bp:Nat) (t:ByteArray) (p:Pat):Prop where
 far:Far bp
 blk:∃ v l,w.heap[bp]?=some (.cells (patCells (.string t) p.marks p.rooted v) 224 (0,0))/\EltsAt w bp Far v l/\l.map (·.1)=p.es
structure Stays (Far:Nat->Prop) (w w':World):Prop where
 size:w.heap.size<=w'.heap.size
 block:∀ b,Far b->b<w.heap.size->w'.heap[b]?=w.heap[b]?
theorem Stays.keeps {Far:Nat->Prop} {w w':World} (h:Stays Far w w'):Keeps Far w w':=⟨h.size,fun b _ hb hl=>World.cell?_of_block (h.block b hb hl)⟩
theorem Stays.trans {Far:Nat->Prop} {a b c:World} (h:Stays Far a b) (k:Stays Far b c):Stays Far a c :=
 ⟨Nat.le_trans h.size k.size,fun x hx hl=>(k.block x hx (Nat.lt_of_lt_of_le hl h.size)).trans (h.block x hx hl)⟩
theorem Ext.stays {w w':World} (h:Ext w w') (Far:Nat->Prop):Stays Far w w':=⟨h.size,fun _ _ hb=>h.block hb⟩
theorem Stays.setCell {Far:Nat->Prop} (w:World) {b o:Nat} (hb:¬ Far b) (u:Value):Stays Far w (w.setCell ⟨b,o,none⟩ u) :=
 ⟨by simp,fun x hx _=>heap_setCell_other _ _ _ _ (fun e=>hb (by have e':x=b:=e;rwa [e'] at hx))⟩
theorem Stays.grown {Far:Nat->Prop} {w w':World} {row:Option Nat} (h:w.grownBy w' row) (hr:∀ k,row=some k->¬ Far k):Stays Far w w' :=
 ⟨h.size,fun x hx hl=>h.block x hl (fun e=>hr x e.symm hx)⟩
theorem Stays.weaken {Far Far':Nat->Prop} {w w':World} (h:Stays Far w w') (k:∀ b,b<w.heap.size->Far' b->Far b):Stays Far' w w' :=
 ⟨h.size,fun b hb hl=>h.block b (k b hl hb) hl⟩
theorem PatAt.stays {w w':World} {Far:Nat->Prop} {bp:Nat} {t:ByteArray} {p:Pat} (h:PatAt w Far bp t p) (k:Stays Far w w'):PatAt w' Far bp t p:=by
 obtain ⟨v,l,h1,h2,h3⟩:=h.blk;exact ⟨h.far,v,l,(k.block bp h.far (lt_of_block h1)).trans h1,h2.keeps k.keeps,h3⟩
theorem PatAt.farther {w:World} {Far Far':Nat->Prop} {bp:Nat} {t:ByteArray} {p:Pat} (h:PatAt w Far bp t p) (k:∀ b,b<w.heap.size->Far b->Far' b):PatAt w Far' bp t p:=by
 obtain ⟨v,l,h1,h2,h3⟩:=h.blk;exact ⟨k _ (lt_of_block h1) h.far,v,l,h1,h2.far k,h3⟩
theorem PatAt.ext {w w':World} {Far:Nat->Prop} {bp:Nat} {t:ByteArray} {p:Pat} (h:PatAt w Far bp t p) (k:Ext w w'):PatAt w' Far bp t p:=h.stays (k.stays Far)
structure ParInv (w:World) (bp:Nat) (t:ByteArray) (m:Marks) (r:Bool) (wr:World) (v:Value) (l:List (GE×Value)):Prop where
 ext:Ext w wr
 ge:w.heap.size<=bp
 blk:wr.heap[bp]?=some (.cells (patCells (.string t) m r v) 224 (0,0))
 own:wr.ownsRow (bp+1) 227 2 v l.length (flatE l)
 fns:∀ x∈l,GFn wr bp (fun b=>bp<b/\some b≠v.ownBlock) x.1 x.2
theorem patCells_el (t el u:Value) (m:Marks) (r:Bool):(patCells t m r el).setIfInBounds 5 u=patCells t m r u:=rfl
theorem ParInv.push {w wr w1 w2:World} {bp:Nat} {t:ByteArray} {m:Marks} {r:Bool} {v v':Value} {l:List (GE×Value)} {x:GE×Value} (I:ParInv w bp t m r wr v l) (h1:Ext wr w1)
  (hx:GFn w1 bp (fun b=>wr.heap.size<=b) x.1 x.2) (hown:w2.ownsRow (bp+1) 227 2 v' (l.length+1) (flatE l++[x.2,.bool x.1.many])) (hg:w1.grownBy w2 v.ownBlock)
  (hw:v'.ownBlock=v.ownBlock\/v'.ownBlock=some w1.heap.size):ParInv w bp t m r (w2.setCell ⟨bp,5,none⟩ v') v' (l++[x]):=by
 have hlt:=lt_of_block I.blk;have hge:=own_block_ge_k I.own;have hlo:=fun k hk=>(I.own.lt k hk).2
 have hS:Stays (fun b=>bp<b/\some b≠v.ownBlock) w1 (w2.setCell ⟨bp,5,none⟩ v') :=
  (Stays.grown hg (fun k hk hf=>hf.2 hk.symm)).trans (Stays.setCell _ (fun hf=>Nat.lt_irrefl _ hf.1) _)
 have hb2:w2.heap[bp]?=some (.cells (patCells (.string t) m r v) 224 (0,0)):=by
  rw [hg.block bp (Nat.lt_of_lt_of_le hlt h1.size) (fun e=>by have:=hge bp e.symm;omega),h1.block hlt];exact I.blk
 have farv:∀ b,b<w1.heap.size->(bp<b/\some b≠v.ownBlock)->(bp<b/\some b≠v'.ownBlock):=fun b hb hf=>by
  refine ⟨hf.1,fun e=>?_⟩;rcases hw with h | h
  ·exact hf.2 (e.trans h)
  ·have:=Option.some.inj (e.trans h);omega
 refine ⟨?_,I.ge,?_,?_,?_⟩
 ·exact ((I.ext.trans h1).grown hg (Nat.le_trans I.ext.size h1.size) (fun k hk=>by have:=hge k hk;have:=I.ge;omega)).setCell (by simp;have:=I.ge;omega) _
 ·have:=heap_setCell_same w2 bp 5 _ _ v' hb2
  rwa [patCells_el] at this
 ·rw [List.length_append,flatE_snoc];exact owns_setCell hown (by omega)
 ·intro y hy
  have key:GFn w1 bp (fun b=>bp<b/\some b≠v.ownBlock) y.1 y.2:=by
   rcases List.mem_append.1 hy with h | h
   ·exact (I.fns y h).keeps (h1.keeps _)
   ·obtain rfl:=List.mem_singleton.1 h;exact hx.far (fun b _ hb=>⟨by omega,fun e=>by have:=hlo b e.symm;omega⟩)
  have key2:GFn w1 bp (fun b=>(bp<b/\some b≠v.ownBlock)/\some b≠v'.ownBlock) y.1 y.2:=key.far fun b hb hf=>⟨hf,(farv b hb hf).2⟩;exact (key2.keeps (hS.weaken fun b _ hf=>hf.1).keeps).far fun b _ hf=>⟨hf.1.1,hf.2⟩
end
section
def ParsePost (w:World) (s:ByteArray) (e:Ending) (w':World):Prop:=Ext w w'/\(match patL s.toList with
  | .error k=>e=.returned (.tuple #[.pointer none,.int .i64 k])
  | .ok p=>∃ bp,e=.returned (.tuple #[.pointer (some ⟨bp,0,none⟩),.int .i64 0])/\PatAt w' (fun b=>w.heap.size<=b) bp s p)
theorem patL_long {s:ByteArray} (h:128<s.size):patL s.toList=.error 3:=by unfold patL;rw [if_pos (by rw [len_toList];exact h)]
theorem patL_marks {s:ByteArray} (h:s.size<=128) (hm:marksL (s.size+1) ⟨false,false,false⟩ s.toList=none):patL s.toList=.error 4:=by
 unfold patL;rw [if_neg (by rw [len_toList];omega),len_toList,hm]
theorem patL_empty {s:ByteArray} {m:Marks} {r:List UInt8} (h:s.size<=128) (hm:marksL (s.size+1) ⟨false,false,false⟩ s.toList=some (m,r)) (he:(rootL r).2.length=0):patL s.toList=.error 4:=by
 unfold patL;rw [if_neg (by rw [len_toList];omega),len_toList,hm];simp only;rw [if_pos (by rw [List.isEmpty_iff_length_eq_zero];exact he)]
theorem patL_some {s:ByteArray} {m:Marks} {r:List UInt8} (h:s.size<=128) (hm:marksL (s.size+1) ⟨false,false,false⟩ s.toList=some (m,r)) (he:0<(rootL r).2.length) :
  patL s.toList=match elementsL (s.size+1) [] (rootL r).2 with | none=>.error 4 | some es=>.ok ⟨m,(rootL r).1,es⟩:=by
 unfold patL;rw [if_neg (by rw [len_toList];omega),len_toList,hm];simp only;rw [if_neg (by rw [List.isEmpty_iff_length_eq_zero];omega)]
 all_goals cases elementsL (s.size+1) [] (rootL r).2 <;> rfl
theorem marksL_le {n:Nat} {m m':Marks} {s r:List UInt8} (h:marksL n m s=some (m',r)):r.length<=s.length:=by
 induction n generalizing m s with
 | zero=>cases h
 | succ n ih =>
  unfold marksL at h;split at h
  ·cases h;exact Nat.le_refl _
  ·split at h
   ·cases h
   ·have:=ih h;rw [List.length_drop] at this;omega
theorem rootL_le (s:List UInt8):(rootL s).2.length<=s.length:=by
 unfold rootL;split <;> simp
theorem writtenL_suf {s r:List UInt8} {c:UInt8} (h:writtenL s=some (c,r)):r <:+ s:=by
 unfold writtenL at h;split at h
 ·cases h
 ·split at h
  ·split at h
   ·cases h
   ·split at h
    ·cases h
    ·cases h;exact ⟨[_,_],rfl⟩
  ·split at h
   ·cases h
   ·cases h;exact ⟨[_],rfl⟩
theorem rangeL_suf {s r:List UInt8} {x:UInt8×UInt8} (h:rangeL s=some (x,r)):r <:+ s:=by
 unfold rangeL at h;split at h
 ·cases h
 ·rename_i h1;have k1:=writtenL_suf h1;split at h
  ·cases h;exact k1
  ·split at h
   ·cases h
   ·rename_i h2;have k2:=writtenL_suf h2;split at h
    ·cases h
    ·cases h;exact k2.trans (List.IsSuffix.trans ⟨[_],rfl⟩ k1)
 ·rename_i h1;have k1:=writtenL_suf h1
  cases h;exact k1
theorem rangesL_suf {n:Nat} {acc rs:List (UInt8×UInt8)} {s r:List UInt8} (h:rangesL n acc s=some (rs,r)):r <:+ s:=by
 induction n generalizing acc s with
 | zero=>cases h
 | succ n ih =>
  unfold rangesL at h;split at h
  ·cases h
  ·split at h
   ·split at h
    ·cases h
    ·cases h;exact ⟨[_],rfl⟩
   ·split at h
    ·cases h
    ·rename_i h2;exact (ih h).trans (rangeL_suf h2)
theorem negL_suf (s:List UInt8):(negL s).2 <:+ s:=by
 unfold negL;split
 ·exact ⟨[33],rfl⟩
 ·exact List.suffix_refl _
theorem classL_suf {s r:List UInt8} {e:GE} (h:classL s=some (e,r)):r <:+ s:=by
 unfold classL at h;split at h
 ·cases h
 ·rename_i h2
  cases h;exact (rangesL_suf h2).trans (negL_suf s)
theorem elementL_suf {s r:List UInt8} {e:GE} (h:elementL s=some (e,r)):r <:+ s:=by
 unfold elementL at h;split at h
 ·cases h;exact ⟨[_,_],rfl⟩
 ·cases h;exact ⟨[_],rfl⟩
 ·cases h;exact ⟨[_],rfl⟩
 ·cases h;exact ⟨[_],rfl⟩
 ·exact (classL_suf h).trans ⟨[_],rfl⟩
 ·split at h
  ·cases h
  ·rename_i h2
   cases h;exact writtenL_suf h2
theorem elementL_drop {u:ByteArray} {r:List UInt8} {e:GE} (h:elementL u.toList=some (e,r)):r=u.toList.drop (u.size - r.length):=by
 rw [<-len_toList];exact List.suffix_iff_eq_drop.1 (elementL_suf h)
theorem elementsL_end {f:Nat} {acc:List GE} {u:ByteArray} (h:u.size=0):elementsL (f+1) acc u.toList=some acc:=by
 rw [toList_nil u h];rfl
theorem elementsL_none {f:Nat} {acc:List GE} {u:ByteArray} (h:0<u.size) (he:elementL u.toList=none):elementsL (f+1) acc u.toList=none:=by
 unfold elementsL;rw [if_neg (by rw [List.isEmpty_iff_length_eq_zero,len_toList];omega),he]
theorem elementsL_some {f:Nat} {acc:List GE} {u:ByteArray} {e:GE} {r:List UInt8} (h:0<u.size) (he:elementL u.toList=some (e,r)):elementsL (f+1) acc u.toList=elementsL f (acc++[e]) r:=by
 rw [elementsL,if_neg (by rw [List.isEmpty_iff_length_eq_zero,len_toList];omega),he]
theorem news_at {W:World} {g:Nat} {a b:Value} {t:TypeId} (h:W.heap[g]?=some (.cells #[a,b] t (0,0))):∀ (j:Nat) u,[a,b][j]?=some u->W.cell? ⟨g,j,none⟩=some u:=by
 intro j u hj;rw [cell_of_block h,<-hj];simp
theorem ParInv.done {w wr:World} {bp:Nat} {t:ByteArray} {m:Marks} {r:Bool} {v:Value} {l:List (GE×Value)} (I:ParInv w bp t m r wr v l):PatAt wr (fun b=>w.heap.size<=b) bp t ⟨m,r,l.map (·.1)⟩:=by
 refine ⟨I.ge,v,l,I.blk,⟨?_,fun x hx=>(I.fns x hx).far fun b _ hb=>Nat.le_trans I.ge (Nat.le_of_lt hb.1)⟩,rfl⟩;rcases I.own.2 with ⟨h1,h2⟩ | ⟨g,cap,cur,hv,hb,hh,hc,hm,hs,ht⟩
 ·exact ⟨none,0,by rw [h1,h2],by omega,by unfold maxLen;omega,fun j x hj=>by rw [List.length_eq_zero_iff.1 h2] at hj;cases hj⟩
 ·refine ⟨_,cap,hv,hc,hm,fun j x hj=>⟨g,rfl,by have:=I.ge;omega,?_⟩⟩;have own:=I.own;rw [hv] at own;have hj':j<l.length:=(List.getElem?_eq_some_iff.1 hj).1;obtain ⟨a1,a2⟩:=flatE_at l j x hj;exact ⟨by rw [own.cellAt (2*j) (by omega),a1],by rw [own.cellAt (2*j+1) (by omega),a2]⟩
theorem ones_fn (F:FuncId) (cap:Array Value) (b:Bool):∀ u∈[Value.func (.func F) #[] cap,.bool b],u.oneCell'=true:=by
 intro u hu;simp at hu;rcases hu with rfl | rfl <;> rfl
set_option maxHeartbeats 4000000 in
set_option maxRecDepth 100000 in
theorem gparse_any (s:ByteArray) (w:World) (hs:s.size<=maxLen) :
  Calls prog 65 #[.string s] w (ParsePost w s):=by
 unfold maxLen at hs;by_cases h128:128<s.size
 ·have HF:=lh (patL_long h128);go_enter func65,ntmps65;go_wp2_with fail;go_ret2;exact ⟨Ext.refl _,by rw [HF.out];rfl⟩
 ·have HM:=fun (w:World) hb=>lh (marks_any w.heap.size s (.string s) (.slice none 0 0) ⟨false,false,false⟩ false (w.alloc (.cells #[.string s,.bool false,.bool false,.bool false,.bool false,.slice none 0 0] 224)) hb);have HE:=fun bp u w h1 h2=>lh (element_any bp u w h1 h2);have h128':s.size<=128:=by omega
  go_enter func65,ntmps65;go_wp2_with fail;refine ((HM w (heap_alloc_new _ _)).out).mono ?_;rintro e w1 ⟨hb1,hz1,hR⟩;have X1:Ext w w1:=Below.trans ((Ext.refl w).alloc _) hb1
  cases hm:marksL (s.size+1) ⟨false,false,false⟩ s.toList with
  | none =>
   rw [hm] at hR;subst hR;have HF:=lh (patL_marks h128' hm);have HX:=lh X1;clear hb1 hz1 hm X1 HM HE;go_wp2_with fail;go_ret2;exact ⟨HX.out,by rw [HF.out];rfl⟩
  | some y =>
   obtain ⟨m,r⟩:=y;rw [hm] at hR;obtain ⟨rfl,hb⟩:=hR
   have hrl:(rootL r).2.length<=s.size:=by
    have h1:=rootL_le r;have h2:=marksL_le hm;rw [len_toList] at h2;omega
   by_cases he:0<(rootL r).2.length
   ·obtain ⟨R,hR⟩:∃ R,R=elementsL (s.size+1) [] (rootL r).2:=⟨_,rfl⟩;have HF:=lh (show patL s.toList=_ from by rw [patL_some h128' hm he,<-hR]);have HR:=lh hR;have hd:decide (0<(rootL r).2.length)=true:=by simpa using he
    rw [hd];have I0:ParInv w w.heap.size s m (rootL r).1 w1 (.slice none 0 0) []:=⟨X1,Nat.le_refl _,hb,World.ownsRow_nil _ _ _ _,fun x hx=>by cases hx⟩;have HI:=lh I0;have hus:(bsL (rootL r).2).size=(rootL r).2.length:=by simp [bsL,ByteArray.size]
    have HU:=lh (show (bsL (rootL r).2).toList=(rootL r).2 from bsL_toList _);clear hb1 hz1 hm hb hd hR I0 X1 HM;generalize bsL (rootL r).2=u0 at *;have hu1:u0.size<=s.size:=by omega
    clear hrl he hus;generalize (rootL r).1=r1 at *;go_wp2_with fail
    go_loopw [5] (fun uv wr=>Hid (∃ (u:ByteArray) (f:Nat) (v:Value) (l:List (GE×Value)),uv=.string u/\u.size<f/\u.size<=s.size/\l.length+u.size<=s.size/\elementsL f (l.map (·.1)) u.toList=R/\ParInv w w.heap.size s m r1 wr v l))
     (fun uv _=>match uv with | .string u=>u.size | _=>0)
    case atStart=>exact ⟨u0,s.size+1,_,[],rfl,by omega,hu1,by simpa using hu1,by rw [HU.out];exact HR.out.symm,HI.out⟩
    case round =>
     obtain ⟨u,f,v,l,rfl,hf,hu,hl,hRR,I⟩:=hrel.out;clear hrel HI HR HU hu1;obtain ⟨f,rfl⟩:∃ g,f=g+1:=⟨f - 1,by omega⟩;have hle:=I.ext.size;have HI:=lh I;have HRR:=lh hRR;clear I hRR;by_cases hu0:0<u.size
     ·have HE1:=fun wx=>HE w.heap.size u wx hu0 (by omega);clear HE;have n0:decide ((0:Int)<u.size)=true:=by simpa using hu0
      go_wp2_with fail;refine ((HE1 _).out).mono ?_;rintro e w2 ⟨⟨uf,b,n,rfl,hfn,hcl⟩,x2⟩
      cases hq:elementL u.toList with
      | none =>
       rw [hq] at hcl;obtain rfl:n=0:=hcl;have HN:=lh (show patL s.toList=.error 4 from by rw [HF.out,<-HRR.out,elementsL_none hu0 hq]);have HX:=lh (HI.out.ext.trans x2);clear hq x2 HRR HF HE1;rcases hfn with rfl | ⟨F,cap,rfl⟩
       ·go_wp2_with fail;go_ret2;exact ⟨HX.out.alloc _,by rw [HN.out];rfl⟩
       ·go_wp2_with fail;go_ret2;exact ⟨HX.out.alloc _,by rw [HN.out];rfl⟩
      | some y =>
       obtain ⟨x,r⟩:=y;rw [hq] at hcl;obtain ⟨rfl,rfl,hg⟩:=hcl;obtain ⟨F,cap,rfl⟩:=gfn_shape hg;have hr:=elementL_lt hq;rw [len_toList] at hr;obtain ⟨k,hk⟩:∃ k,k=u.size - r.length:=⟨_,rfl⟩;have hdr:=elementL_drop hq;rw [<-hk] at hdr ⊢;have hk0:0<k:=by omega
       have hk2:k<=u.size:=by omega
       have n1:((k:Int)==0)=false:=beq_eq_false_iff_ne.2 (by omega);have HN:=lh (HRR.out.symm.trans (elementsL_some hu0 hq));have HDR:=lh hdr;have HG:=lh hg;have HX:=lh x2;have hb2:=(x2.block (lt_of_block HI.out.blk)).trans HI.out.blk;have c5:w2.cell? ⟨w.heap.size,5,none⟩=some v:=cell_of_block hb2;have f5:w2.frozen? ⟨w.heap.size,5,none⟩=false:=frozen_of_block hb2;have hlt:=lt_of_block hb2;clear hq hg x2 hk hr hdr HRR HE1 HF;have HO:=lh (owns_ext HI.out.own HX.out);have HW:=lh (show (((w2.alloc (.cells #[.func (.func F) #[] cap,.bool x.many] 227)).alloc (.cells #[.func (.func F) #[] cap,.bool x.many] 227)).drew).heap[w.heap.size]?=_ from (((((Ext.refl w2).alloc _).alloc _).drew).block hlt).trans hb2);clear hb2;go_wp2_with fail
       go_region_law
        (refine step_append_k elE (w.heap.size+1) v l.length (flatE l) (owns_ext HO.out ?_) (w2.heap.size+1) [.func (.func F) #[] cap,.bool x.many] rfl (.tmp 38) (.tmp 40) rfl rfl ?_ ?_ (news_at (t:=227) ?_) (ones_fn F cap x.many) ?_ ?_ ?_
         ·repeat (first | exact Ext.refl _ | refine Ext.alloc ?_ _ | refine Ext.drew ?_)
         ·simp [Act.eval]
         ·simp [Act.eval]
         ·exact heap_new_drew (by simp)
         ·omega
         ·simp;omega
         intro v' w3 hown3 hgr3 hrow3 hwh3;obtain ⟨g3,cap3,rfl,_⟩:=hrow3;have hb3:=(hgr3.block w.heap.size (by simp;omega) (fun e=>by have:=own_block_ge_k HO.out _ e.symm;omega)).trans HW.out;have f53:w3.frozen? ⟨w.heap.size,5,none⟩=false:=frozen_of_block hb3;have c53:w3.cell? ⟨w.heap.size,5,none⟩=some v:=cell_of_block hb3;have HP:=lh (ParInv.push (x:=(x,.func (.func F) #[] cap)) HI.out ((HX.out.alloc _).alloc _ |>.drew) (HG.out.keeps ((((Ext.refl w2).alloc _).alloc _ |>.drew).keeps _)) hown3 hgr3 hwh3)
         clear hown3 hgr3 hwh3 hb3)
       all_goals
        go_wp2_with fail;go_roundw
        case rel=>exact ⟨u.extract k u.size,f,_,l++[(x,.func (.func F) #[] cap)],rfl,by simp;omega,by simp;omega,by simp;omega,by rw [ext_toList,List.map_append,<-HDR.out];exact HN.out.symm,HP.out⟩
        case measure=>simp;omega
     ·have hu1:u.size=0:=by omega
      have HN:=lh (show patL s.toList=.ok ⟨m,r1,l.map (·.1)⟩ from by rw [HF.out,<-HRR.out,elementsL_end hu1]);have n0:decide ((0:Int)<u.size)=false:=by simpa using hu0
      clear HRR HF HE;go_wp2_with fail;go_ret2;exact ⟨HI.out.ext,by rw [HN.out];exact ⟨_,rfl,HI.out.done⟩⟩
   ·have HF:=lh (patL_empty h128' hm (by omega));have hd:decide (0<(rootL r).2.length)=false:=by simpa using he
    rw [hd];have HX:=lh X1;clear hb1 hz1 hm X1 HM HE hb hd he;generalize bsL (rootL r).2=u0 at *;go_wp2_with fail;go_ret2;exact ⟨HX.out,by rw [HF.out];rfl⟩
end
section
def BoolsAt (w:World) (v:Value) (n:Nat) (f:Nat->Bool):Prop:=∃ g,v=.slice (some ⟨g,0,none⟩) n n/\w.heap[g]?=some (.cells (blA n n f) 4 (0,0))
theorem ends_start (f:Bool) (s:ByteArray) (a:Nat):(madeCells #[.bool false] (s.size+1)).setIfInBounds a (.bool true)=blA (s.size+1) (s.size+1) (endsL f [] s.toList a):=by
 refine blA_ext _ _ _ _ (by rw [Array.size_setIfInBounds,size_madeCells]) fun i hi=>?_;rw [blA_made _ (fun _=>false),Array.getElem?_setIfInBounds,endsL_nil f s.toList a i (by rw [len_toList];omega),show decide (i<s.size+1)=true from by simpa using hi];by_cases e:a=i
 ·subst e;rw [if_pos rfl,if_pos (by rw [blA_size];exact hi)];simp
 ·rw [if_neg e,blA_get _ _ _ _ hi,show (i==a)=false from by simpa using (Ne.symm e)];simp
structure EndsInv (w:World) (n:Nat) (wr:World) (g:Nat) (f:Nat->Bool):Prop where
 ext:Ext w wr
 now:wr.heap[g]?=some (.cells (blA n n f) 4 (0,0))
structure NextInv (w wr:World) (n:Nat) (wi:World) (x:Value) (many:Bool) (i:Nat) (f:Nat->Bool):Prop where
 ext:Ext wr wi
 elt:wi.heap[wr.heap.size]?=some (.cells #[x,.bool many] 227 (0,0))
 next:wi.heap[wr.heap.size+1]?=some (.cells (blA n i f) 4 (0,0))
theorem NextInv.start (w wr:World) (n:Nat) (x:Value) (many:Bool) (f:Nat->Bool):NextInv w wr n ((wr.alloc (.cells #[x,.bool many] 227)).alloc (.cells (madeCells #[.bool false] n) 4)) x many 0 f:=by
 refine ⟨((Ext.refl wr).alloc _).alloc _,?_,?_⟩
 ·rw [((Ext.refl _).alloc _).block (by simp)];exact heap_alloc_new _ _
 ·rw [blA_made n f];have:=heap_alloc_new (wr.alloc (.cells #[x,.bool many] 227)) (.cells (blA n 0 f) 4)
  rwa [show (wr.alloc (.cells #[x,.bool many] 227)).heap.size=wr.heap.size+1 from by simp] at this
theorem NextInv.step {w wr wi wj:World} {n:Nat} {x:Value} {many:Bool} {i:Nat} {f:Nat->Bool} (I:NextInv w wr n wi x many i f) (k:Ext wi wj) (hi:i<n) {b:Bool} (hb:f i=b) :
  NextInv w wr n (wj.setCell ⟨wr.heap.size+1,i,none⟩ (.bool b)) x many (i+1) f:=by
 subst hb;refine ⟨(I.ext.trans k).setCell (by simp) _,?_,?_⟩
 ·rw [heap_setCell_other _ _ _ _ (by simp)];exact (k.block (lt_of_block I.elt)).trans I.elt
 ·rw [<-blA_set n i f hi];exact heap_setCell_same _ _ _ _ _ _ ((k.block (lt_of_block I.next)).trans I.next)
theorem After.frozen {w:World} {b o:Nat} {r:Bool} (hb:b<w.heap.size) (h:w.frozen? ⟨b,o,none⟩=r) (x:After w):x.v.frozen? ⟨b,o,none⟩=r:=(World.frozen?_of_block (x.x.block hb)).trans h
theorem NextInv.calls {w wr wi:World} {n:Nat} {x:Value} {many:Bool} {i bp:Nat} {f:Nat->Bool} {Far:Nat->Prop} {e:GE} {fold:Bool} (I:NextInv w wr n wi x many i f) (hw:Ext w wr) (h:GFn w bp Far e x)
  (hf:w.cell? ⟨bp,3,none⟩=some (.bool fold)):∃ F cap,x=.func (.func F) #[] cap/\Enters prog F/\∀ (c:UInt8) (y:After wi),Calls prog F (#[.int .u8 c.toNat]++cap) y.v fun e' w''=>e'=.returned (.bool (e.holds fold c))/\Ext y.v w'' :=
 gfn_calls (h.keeps ((hw.trans I.ext).keeps _)) (((hw.trans I.ext).cell (lt_of_cell hf)).trans hf)
set_option maxHeartbeats 4000000 in
set_option maxRecDepth 100000 in
theorem ends_any (bp:Nat) (t s:ByteArray) (p:Pat) (a:Nat) (Far:Nat->Prop) (w:World) (hs:s.size<=1024) (ha:a<=s.size) (hp:PatAt w Far bp t p) :
  Calls prog 210 #[.pointer (some ⟨bp,0,none⟩),.string s,.int .i64 a] w fun e w'=>∃ v,e=.returned v/\BoolsAt w' v (s.size+1) (endsL p.marks.fold p.es s.toList a)/\Ext w w':=by
 obtain ⟨v,l,hb,he,hl⟩:=hp.blk;obtain ⟨va,cap,rfl,h1,h2,h3⟩:=he.row;unfold maxLen at h2;have c5:w.cell? ⟨bp,5,none⟩=some (.slice va l.length cap):=cell_of_block hb;have C3:=lh (show w.cell? ⟨bp,3,none⟩=some (.bool p.marks.fold) from cell_of_block hb);have hlt:=lt_of_block hb;have HE:=lh he.fns;have HL:=lh hl;have H3:=lh h3;clear he hl hp h3 hb;generalize p.marks.fold=fold at *;generalize p.es=es at *;obtain ⟨i0,hi,hz0,hz1,hz2⟩:=info_parts (show (prog.info? 4).map (fun i=>(i.zero,i.size,i.bytes))=some (some (.bool false),1,1) from by kernel_rfl);have hmk:=fun w=>run_make (P:=prog) w 290 4 i0 (.bool false) underlying290 hi hz0 .i64 .i64 (s.size+1) (s.size+1) (by omega) (by omega) (by rw [hz2];omega) (by omega);have hcm:(madeCells #[.bool false] (s.size+1))[a]?=some (.bool false):=by rw [blA_made _ (fun _=>false),blA_get _ _ _ _ (by omega)];simp
 have HS:=lh (ends_start fold s a);go_enter func210,ntmps210;go_wp2_with fail
 go_loopw [7,24] (fun now kv wr=>Hid (∃ (k g:Nat),k<=l.length/\kv=.int .i64 k/\now=.slice (some ⟨g,0,none⟩) (s.size+1) (s.size+1)/\EndsInv w (s.size+1) wr g (endsL fold (es.take k) s.toList a)))
  (fun _ kv _=>l.length - (intOf kv).toNat)
 case atStart =>
  refine ⟨0,w.heap.size,by omega,rfl,rfl,(Ext.refl w).alloc _,?_⟩;rw [HS.out];exact heap_alloc_new _ _
 case round =>
  obtain ⟨k,g,hk,rfl,rfl,I⟩:=hrel.out;clear hrel HS;by_cases hkl:k<l.length
  ·obtain ⟨x,hx⟩:∃ x,l[k]?=some x:=⟨_,List.getElem?_eq_getElem hkl⟩;obtain ⟨g0,rfl,_,x1,x2⟩:=H3.out k x hx;have hgf:=HE.out x (List.mem_of_getElem? hx);have y1:wr.cell? ⟨g0,k*2,none⟩=some x.2:=by rw [Nat.mul_comm];exact (I.ext.cell (lt_of_cell x1)).trans x1
   have y2:wr.cell? ⟨g0,k*2+1,none⟩=some (.bool x.1.many):=by rw [Nat.mul_comm];exact (I.ext.cell (lt_of_cell x2)).trans x2
   have hfe:es.take (k+1)=es.take k++[x.1]:=by
    rw [<-HL.out,<-List.map_take,<-List.map_take,List.take_add_one,hx];simp
   obtain ⟨F,fc,hxf⟩:=gfn_shape hgf;rw [hxf] at y1;have HI:=lh I;have HG:=lh hgf;have HFE:=lh hfe;have HXF:=lh hxf;clear I x1 x2 hx hgf hfe hxf;go_wp2_with fail;obtain ⟨wo,rfl⟩:∃ wo:World,wo=wr:=⟨_,rfl⟩;go_loopw [34] (fun iv wr=>Hid (∃ i:Nat,i<=s.size+1/\iv=.int .i64 i/\NextInv w wo (s.size+1) wr (.func (.func F) #[] fc) x.1.many i (endsL fold (es.take (k+1)) s.toList a))) (fun iv _=>s.size+1 - (intOf iv).toNat)
   case atStart=>exact ⟨0,by omega,rfl,NextInv.start w wo _ _ _ _⟩
   case round =>
    obtain ⟨i,hi,rfl,I2⟩:=hrel.out;clear hrel;have J:=lh I2;clear I2;by_cases hin:i<s.size+1
    ·have hgi:wr.heap[g]?=some (.cells (blA (s.size+1) (s.size+1) (endsL fold (es.take k) s.toList a)) 4 (0,0)):=(J.out.ext.block (lt_of_block HI.out.now)).trans HI.out.now;have E0:=After.cell (show wr.cell? ⟨wo.heap.size,0,none⟩=some (.func (.func F) #[] fc) from cell_of_block J.out.elt);have e1:wr.cell? ⟨wo.heap.size,1,none⟩=some (.bool x.1.many):=cell_of_block J.out.elt;have N0:=After.cell (show wr.cell? ⟨wo.heap.size+1,i,none⟩=some (.bool false) from (cell_of_block J.out.next).trans (by rw [blA_get _ _ _ _ hin];simp));have NF:=After.frozen (lt_of_block J.out.next) (show wr.frozen? ⟨wo.heap.size+1,i,none⟩=false from frozen_of_block J.out.next);have hm:x.1.many=true\/x.1.many=false:=by cases x.1.many <;> simp
     rcases hm with hm | hm
     ·have C1:=After.cell (show wr.cell? ⟨g,i,none⟩=some (.bool (endsL fold (es.take k) s.toList a i)) from (cell_of_block hgi).trans (blA_at _ _ _ _ hin hin))
      cases hb1:endsL fold (es.take k) s.toList a i with
      | true =>
       have HB:=lh (show endsL fold (es.take (k+1)) s.toList a i=true from by
        rw [HFE.out];rcases Nat.eq_zero_or_pos i with h0 | h0
        ·subst h0;rw [endsL_many_zero _ _ _ hm,hb1]
        ·rw [endsL_many _ _ _ hm _ _ _ _ h0 (getElem_toList s (i - 1) (by omega)),hb1];rfl)
       rw [hb1] at C1;rw [hm] at e1;clear hb1 hm hgi;go_wp2_with fail;refine wp_region_after_tail 27 (by kernel_rfl) (by kernel_rfl) ?_;simp only [List.take_succ_cons,List.take_zero,List.drop_succ_cons,List.drop_zero]
       repeat (go_big_quiet_step (fail))
       refine wpQuiet_nil ?_;rintro _ ⟨y,rfl⟩;go_wp2_with fail;go_roundw
       case rel=>exact ⟨_,hin,by go_num,NextInv.step J.out y.x hin HB.out⟩
       case measure=>simp [intOf];omega
      | false =>
       rcases Nat.eq_zero_or_pos i with h0 | h0
       ·have HB:=lh (show endsL fold (es.take (k+1)) s.toList a i=false from by
         rw [HFE.out];subst h0;rw [endsL_many_zero _ _ _ hm,hb1])
        have d0:decide ((0:Int)<(i:Int))=false:=by rw [decide_eq_false_iff_not];omega
        have d1:decide (0<i)=false:=by rw [decide_eq_false_iff_not];omega
        rw [hb1] at C1;rw [hm] at e1;clear hb1 hm hgi h0;go_wp2_with fail;refine wp_region_after_tail 27 (by kernel_rfl) (by kernel_rfl) ?_;simp only [List.take_succ_cons,List.take_zero,List.drop_succ_cons,List.drop_zero]
        repeat (go_big_quiet_step (fail))
        refine wpQuiet_nil ?_;rintro _ ⟨y,rfl⟩;go_wp2_with fail;go_roundw
        case rel=>exact ⟨_,hin,by go_num,NextInv.step J.out y.x hin HB.out⟩
        case measure=>simp [intOf];omega
       ·obtain ⟨j,hj⟩:∃ j,i=j+1:=⟨i - 1,by omega⟩;have hj2:j<s.size:=by omega
        have hsj:s.toList[i - 1]?=some s[j]:=by rw [show i - 1=j from by omega];exact getElem_toList s j hj2
        have hw1:IntKind.i64.wrap ((i:Int) - 1)=(j:Int):=(IntWalk.i64_in _ (by omega)).trans (by omega);have d0:decide ((0:Int)<(i:Int))=true:=by rw [decide_eq_true_eq];omega
        have d1:decide (0<i)=true:=by rw [decide_eq_true_eq];omega
        have hj1:j<s.size+1:=by omega
        have N1:=After.cell (show wr.cell? ⟨wo.heap.size+1,j,none⟩=some (.bool (endsL fold (es.take (k+1)) s.toList a j)) from (cell_of_block J.out.next).trans (blA_at _ _ _ _ hj1 (by omega)));have HBx:=endsL_many fold (es.take k) x.1 hm s.toList a i _ h0 hsj;rw [<-HFE.out,hb1,Bool.false_or,show i - 1=j from by omega] at HBx;rw [hb1] at C1;rw [hm] at e1
        cases hb2:endsL fold (es.take (k+1)) s.toList a j with
        | false =>
         rw [hb2] at N1 HBx;have HB:=lh HBx;clear hb1 hb2 hm hgi h0 HBx hsj hj;go_wp2_with fail;refine wp_region_after_tail 27 (by kernel_rfl) (by kernel_rfl) ?_;simp only [List.take_succ_cons,List.take_zero,List.drop_succ_cons,List.drop_zero]
         repeat (go_big_quiet_step (fail))
         refine wpQuiet_nil ?_;rintro _ ⟨y,rfl⟩;go_wp2_with fail;go_roundw
         case rel=>exact ⟨_,hin,by go_num,NextInv.step J.out y.x hin HB.out⟩
         case measure=>simp [intOf];omega
        | true =>
         rw [hb2,Bool.true_and] at HBx;rw [hb2] at N1;have HB:=lh HBx;obtain ⟨F2,fc2,hv2,hen,hcalls⟩:=J.out.calls HI.out.ext (HXF.out▸HG.out) C3.out;obtain ⟨rfl,rfl⟩:F2=F/\fc2=fc:=by cases hv2;exact ⟨rfl,rfl⟩
         have hen:∀ args W,(callFunc F2 args).run prog W=.ok (.enter F2 args) W:=hen;have HH:=fun y=>lh (hcalls s[j] y);clear hb1 hb2 hm hgi h0 HBx hsj hj hcalls hv2;generalize x.1.holds fold s[j]=b3 at *;go_wp2_with fail;refine wp_region_after_tail 27 (by kernel_rfl) (by kernel_rfl) ?_;simp only [List.take_succ_cons,List.take_zero,List.drop_succ_cons,List.drop_zero]
         repeat (go_big_quiet_step (exact After.of (HH _).out))
         refine wpQuiet_nil ?_;rintro _ ⟨y,rfl⟩;go_wp2_with fail;go_roundw
         case rel=>exact ⟨_,hin,by go_num,NextInv.step J.out y.x hin HB.out⟩
         case measure=>simp [intOf];omega
     ·rcases Nat.eq_zero_or_pos i with h0 | h0
      ·have HB:=lh (show endsL fold (es.take (k+1)) s.toList a i=false from by
        rw [HFE.out];subst h0;rw [endsL_one_zero _ _ _ hm])
       have d0:decide ((0:Int)<(i:Int))=false:=by rw [decide_eq_false_iff_not];omega
       have d1:decide (0<i)=false:=by rw [decide_eq_false_iff_not];omega
       rw [hm] at e1;clear hm hgi h0;go_wp2_with fail;refine wp_region_after_tail 21 (by kernel_rfl) (by kernel_rfl) ?_;simp only [List.take_succ_cons,List.take_zero,List.drop_succ_cons,List.drop_zero]
       repeat (go_big_quiet_step (fail))
       refine wpQuiet_nil ?_;rintro _ ⟨y,rfl⟩;go_wp2_with fail;go_roundw
       case rel=>exact ⟨_,hin,by go_num,NextInv.step J.out y.x hin HB.out⟩
       case measure=>simp [intOf];omega
      ·obtain ⟨j,hj⟩:∃ j,i=j+1:=⟨i - 1,by omega⟩;have hj2:j<s.size:=by omega
       have hsj:s.toList[i - 1]?=some s[j]:=by rw [show i - 1=j from by omega];exact getElem_toList s j hj2
       have hw1:IntKind.i64.wrap ((i:Int) - 1)=(j:Int):=(IntWalk.i64_in _ (by omega)).trans (by omega);have d0:decide ((0:Int)<(i:Int))=true:=by rw [decide_eq_true_eq];omega
       have d1:decide (0<i)=true:=by rw [decide_eq_true_eq];omega
       have hj1:j<s.size+1:=by omega
       have N1:=After.cell (show wr.cell? ⟨g,j,none⟩=some (.bool (endsL fold (es.take k) s.toList a j)) from (cell_of_block hgi).trans (blA_at _ _ _ _ hj1 hj1));have HBx:=endsL_one fold (es.take k) x.1 hm s.toList a i _ h0 hsj;rw [<-HFE.out,show i - 1=j from by omega] at HBx;rw [hm] at e1
       cases hb2:endsL fold (es.take k) s.toList a j with
       | false =>
        rw [hb2] at N1 HBx;have HB:=lh HBx;clear hb2 hm hgi h0 HBx hsj hj;go_wp2_with fail;refine wp_region_after_tail 21 (by kernel_rfl) (by kernel_rfl) ?_;simp only [List.take_succ_cons,List.take_zero,List.drop_succ_cons,List.drop_zero]
        repeat (go_big_quiet_step (fail))
        refine wpQuiet_nil ?_;rintro _ ⟨y,rfl⟩;go_wp2_with fail;go_roundw
        case rel=>exact ⟨_,hin,by go_num,NextInv.step J.out y.x hin HB.out⟩
        case measure=>simp [intOf];omega
       | true =>
        rw [hb2,Bool.true_and] at HBx;rw [hb2] at N1;have HB:=lh HBx;obtain ⟨F2,fc2,hv2,hen,hcalls⟩:=J.out.calls HI.out.ext (HXF.out▸HG.out) C3.out;obtain ⟨rfl,rfl⟩:F2=F/\fc2=fc:=by cases hv2;exact ⟨rfl,rfl⟩
        have hen:∀ args W,(callFunc F2 args).run prog W=.ok (.enter F2 args) W:=hen;have HH:=fun y=>lh (hcalls s[j] y);clear hb2 hm hgi h0 HBx hsj hj hcalls hv2;generalize x.1.holds fold s[j]=b3 at *;go_wp2_with fail;refine wp_region_after_tail 21 (by kernel_rfl) (by kernel_rfl) ?_;simp only [List.take_succ_cons,List.take_zero,List.drop_succ_cons,List.drop_zero]
        repeat (go_big_quiet_step (exact After.of (HH _).out))
        refine wpQuiet_nil ?_;rintro _ ⟨y,rfl⟩;go_wp2_with fail;go_roundw
        case rel=>exact ⟨_,hin,by go_num,NextInv.step J.out y.x hin HB.out⟩
        case measure=>simp [intOf];omega
    ·obtain rfl:i=s.size+1:=by omega
     have HN:=lh (EndsInv.mk (HI.out.ext.trans J.out.ext) J.out.next);go_wp2_with fail;go_roundw
     case rel=>exact ⟨k+1,wo.heap.size+1,by omega,by go_num,rfl,HN.out⟩
     case measure=>simp [intOf];omega
  ·have hkl2:k=l.length:=by omega
   have hle:es.take k=es:=by rw [<-HL.out,hkl2];exact List.take_of_length_le (by simp)
   rw [hle] at I;have HI:=lh I;clear I hle;subst hkl2;go_wp2_with fail;go_ret;exact ⟨_,rfl,⟨g,rfl,HI.out.now⟩,HI.out.ext⟩
end
end Go.Proofs.YtodickpibbbiiaaGreatDoor
