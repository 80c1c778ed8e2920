import Derived.Test.YtldppmjjgljinaaGreatDoorProg
import Derived.Test.YtldppmjjgljinaaGreatDoorRows
import Derived.Test.YtldppmjjgljinaaGreatDoorTie
import Derived.Test.YtldppmjjgljinaaGreatDoorCards
import Derived.Test.YtldppmjjgljinaaGreatDoorShelf
import Derived.WalkKit
import Derived.WalkSpells
import Derived.WalkLawsBesides
import Derived.RegionTactic
import Derived.ChangeAlike
import Derived.LoopTactic
import Derived.Outline
import Derived.Deep.QuietTactic
import Derived.BigQuiet
import Derived.Lib.Hide
import Derived.Lib.Strings
import Derived.Lib.LaidTab
import Derived.Lib.SmallJoins
import Derived.IntWalk
import Derived.Sort.Grow
import Derived.ProofKit
import Derived.OpenShut
import Derived.LaidMore
import Derived.Lay
import Derived.Handed
import Derived.LaidLaws
import Derived.Shelf.Vars
import Derived.SevenTiedAt
import Derived.Stop.Joined
import Derived.MakeChecks
import Derived.StillTailTactics
import Derived.Laws.Tables
import Derived.Deep.MidRow
import Derived.OwnWalk
import Derived.Laws.OwnMore
open Go.Proofs.Tryz
namespace Go.Proofs.YtldppmjjgljinaaGreatDoor
theorem lh {p : Prop} (h : p) : Go.RowKit.Hid p := Go.Lib.hid h
section
open Go.RowKit
theorem ret_bool {a b:Bool} (h:a=b):Ending.returned (.bool a)=.returned (.bool b):=by rw [h]
theorem ret_str {a b:ByteArray} (h:a=b):Ending.returned (.string a)=.returned (.string b):=by rw [h]
theorem ret_int {k:IntKind} {a b:Int} (h:a=b):Ending.returned (.int k a)=.returned (.int k b):=by rw [h]
theorem size_mk (a:Array UInt8):(⟨a⟩:ByteArray).size=a.size:=rfl
theorem ret_strb {a b:ByteArray} {c:Bool} (h:a=b):Ending.returned (.tuple #[.string a,.bool c])=.returned (.tuple #[.string b,.bool c]):=by rw [h]
theorem toNat_ne47 {x:UInt8} (h:x≠47):((x.toNat:Int)==47)=false:=by
 rw [beq_eq_false_iff_ne];intro e;exact h (UInt8.toNat_inj.1 (by simp;omega))
theorem take_snoc (s:ByteArray) (k:Nat) (h:k<s.size):s.toList.take (k+1)=s.toList.take k++[s[k]]:=by
 rw [Lib.toList_data,List.take_succ_eq_append_getElem (by simpa using h)];rfl
theorem len_toList (s:ByteArray):s.toList.length=s.size:=by rw [Lib.toList_data,Lib.size_eq]
theorem getElem_toList (s:ByteArray) (k:Nat) (h:k<s.size):s.toList[k]?=some s[k]:=by
 rw [Lib.toList_data,List.getElem?_eq_getElem (by simpa using h)];rfl
theorem ba_ext {a b:ByteArray} (h:a.toList=b.toList):a=b:=by
 rw [Lib.toList_data,Lib.toList_data] at h;rw [<-Lib.mk_data a,<-Lib.mk_data b,h]
theorem toList_mk (l:List UInt8):(⟨l.toArray⟩:ByteArray).toList=l:=by rw [Lib.toList_data]
theorem toList_append (a b:ByteArray):(a++b).toList=a.toList++b.toList:=by simp [Lib.toList_data]
theorem toList_extract (s:ByteArray) (a b:Nat):(s.extract a b).toList=(s.toList.drop a).take (b - a):=by
 rw [Lib.extract_toList,Lib.toList_data]
def Ext (w w':World):Prop:=Below w.heap.size w w'
theorem Ext.refl (w:World):Ext w w:=Below.refl _ _
theorem Ext.trans {a b c:World} (h:Ext a b) (k:Ext b c):Ext a c:=Below.trans h (Below.mono k h.size)
theorem Ext.drew {w w':World} (h:Ext w w'):Ext w w'.drew:=Below.drew h
theorem Ext.drewN {w w':World} (h:Ext w w') (n:Nat):Ext w (w'.drewN n):=Below.trans h ⟨rfl,rfl,rfl,Nat.le_refl _,fun _ _=>rfl⟩
theorem Ext.alloc {w w':World} (h:Ext w w') (o:Obj):Ext w (w'.alloc o):=Below.alloc h h.size o
theorem Ext.setCell {w w':World} (h:Ext w w') {p:Addr} (hp:w.heap.size<=p.block) (u:Value):Ext w (w'.setCell p u):=Below.setCell h hp u
theorem Ext.size {w w':World} (h:Ext w w'):w.heap.size<=w'.heap.size:=Below.size h
theorem Ext.cell {w w':World} (h:Ext w w') {b o:Nat} (hb:b<w.heap.size):w'.cell? ⟨b,o,none⟩=w.cell? ⟨b,o,none⟩:=Below.cell (p:=⟨b,o,none⟩) h hb
theorem Ext.block {w w':World} (h:Ext w w') {b:Nat} (hb:b<w.heap.size):w'.heap[b]?=w.heap[b]?:=Below.block h b hb
theorem lt_of_cell {w:World} {b o:Nat} {v:Value} (h:w.cell? ⟨b,o,none⟩=some v):b<w.heap.size:=by
 unfold World.cell? at h;by_cases hb:b<w.heap.size
 ·exact hb
 ·simp only [Array.getElem?_eq_none (Nat.le_of_not_lt hb)] at h;cases h
theorem cell_alloc_old {w:World} {o:Obj} {b off:Nat} (h:b<w.heap.size):(w.alloc o).cell? ⟨b,off,none⟩=w.cell? ⟨b,off,none⟩:=((Ext.refl w).alloc o).cell h
theorem cell_alloc_new {w:World} {c:Array Value} {t:TypeId} {m:Nat×Nat} {b k:Nat} (h:b=w.heap.size):(w.alloc (.cells c t m)).cell? ⟨b,k,none⟩=c[k]?:=by
 subst h
 show (match (w.heap.push (.cells c t m))[w.heap.size]? with | some (.cells c _ _)=>_ | _=>_)=_
 rw [Array.getElem?_push_size];rfl
theorem frozen_alloc_new {w:World} {c:Array Value} {t:TypeId} {b k:Nat} (h:b=w.heap.size):(w.alloc (.cells c t)).frozen? ⟨b,k,none⟩=false:=by
 subst h
 show (match (w.heap.push (.cells c t))[w.heap.size]? with | some (.cells _ _ (lo,hi))=>(decide (lo<=k)&&decide (k<hi)) | _=>false)=_
 rw [Array.getElem?_push_size];simp
end
section
open Go.ChangeShapes Go.WideShapes Go.ChangeAt Go.RowKit
theorem own:ownKnob prog.godebug=none:=by kernel_rfl
theorem laidOut_ok:laidOutB prog=true:=by kernel_rfl
theorem trodAll_stays {H:Type} {enc:TypeId×Value->H} {W W':World} (hb:Below W.heap.size W W'):∀ {ts:List TypeId} {vs:List Value} {ds:List (DataW H)} {ps:List MemPlace},
  (∀ t∈ts,prog.readableRec t=true/\t<prog.types.size)->DataW.TrodAll enc prog W 0 (fun _=>true) true ts vs ds ps->(∀ p∈ps,p.block<W.heap.size) ->
  DataW.TrodAll enc prog W' 0 (fun b=>decide (b<W.heap.size)) true ts vs ds ps
 | [],[],[],_,_,h,_=>h
 | t::ts,v::vs,d::ds,ps,hr,h,hlt=>by
  obtain ⟨p,q,h1,h2,rfl⟩:=h;exact ⟨p,q,Below.trod laidOut_ok (hr t (by simp)).1 (hr t (by simp)).2 h1 hb (fun x hx=>hlt x (by simp [hx])),trodAll_stays hb (fun t ht=>hr t (by simp [ht])) h2 (fun x hx=>hlt x (by simp [hx])),rfl⟩
 | [],[],_::_,_,_,h,_=>absurd h (by simp [DataW.TrodAll])
 | [],_::_,_,_,_,h,_=>absurd h (by simp [DataW.TrodAll])
 | _::_,[],_,_,_,h,_=>absurd h (by simp [DataW.TrodAll])
 | _::_,_::_,[],_,_,h,_=>absurd h (by simp [DataW.TrodAll])
theorem trodAll_len {H:Type} {enc:TypeId×Value->H} {W:World} {base:Nat} {sp:Nat->Bool} {held:Bool}:∀ {ts:List TypeId} {vs:List Value} {ds:List (DataW H)} {ps:List MemPlace},
  DataW.TrodAll enc prog W base sp held ts vs ds ps->ts.length=ds.length
 | [],[],[],_,_=>rfl
 | _::_,_::_,_::_,_,⟨_,_,_,h2,_⟩=>by simp [trodAll_len h2]
 | [],[],_::_,_,h=>absurd h (by simp [DataW.TrodAll])
 | [],_::_,_,_,h=>absurd h (by simp [DataW.TrodAll])
 | _::_,[],_,_,h=>absurd h (by simp [DataW.TrodAll])
 | _::_,_::_,[],_,h=>absurd h (by simp [DataW.TrodAll])
structure Start {H:Type} (enc:TypeId×Value->H) (laid:List (String×DataW Unit)) (fn:Func) (W:World) (args:Array Value) (ds:List (DataW H)) (p:List MemPlace):Prop where
 vals:∃ base,∀ (j:Nat) t v,fn.params[j]?=some t->args[j]?=some v->Value.okWide prog W .any base t v
 trod:DataW.TrodAll enc prog W 0 (fun _=>true) true fn.params.toList args.toList ds p
 fit:(DataW.weightsEach prog fn.params.toList ds).all (·<=reachBytes)=true
 laid:laidMet prog laid W
 shaped:W.ShapedOpen prog
set_option maxRecDepth 100000 in
theorem lifted (laid:List (String×DataW Unit)) (hplain:(laid.all fun x=>x.2.handleName?.isNone)=true) (f:FuncId) (fn:Func) (hfn:prog.funcs[f]?=some fn) (s:ChangeSpec) (hvars:s.vars=[])
  (hres:fn.resultTypes=#[4]) (hin:prog.inits.idxOf? f=none) (hp:∀ t∈fn.params.toList,prog.readableRec t=true/\t<prog.types.size)
  (hs:∀ (H:Type) (ts:List TypeId) (ds:List (DataW H)),ts=fn.params.toList->ts.length=ds.length->s.fn H (ds++[])={ results:=[.lit (.bool true)],args:=ds })
  (conds:List PathCond)
  (os:Os) (started:os.Started) (H:Type) (enc:TypeId×Value->H)
  (args0:Array Value)
  (hok:Input.okWideB Tryz.checked.prog ((World.laidAll prog os laid).forCall (fun _ _=>0) ⟨#[],args0,[]⟩) f ⟨#[],args0,[]⟩=true)
  (hpre:s.preB enc Tryz.checked.prog fn conds false ((World.laidAll prog os laid).forCall (fun _ _=>0) ⟨#[],args0,[]⟩).memory args0 8=true)
  (hsz:s.sizedB enc Tryz.checked.prog fn false ((World.laidAll prog os laid).forCall (fun _ _=>0) ⟨#[],args0,[]⟩).memory args0 8=true)
  (hshaped:((World.laidAll prog os laid).forCall (fun _ _=>0) ⟨#[],args0,[]⟩).Shaped prog)
  (hlaid:laidMet prog laid ((World.laidAll prog os laid).forCall (fun _ _=>0) ⟨#[],args0,[]⟩).memory)
  (walk:∀ (W:World) (args:Array Value) (ds:List (DataW H)) (p:List MemPlace),Start enc laid fn W args ds p ->
   Calls prog f args W fun e W'=>e=.returned (.bool true)/\Below W.heap.size W W') :
  ReturnsInHanded {} Tryz.checked os f .any (fun w args=>(s.pre enc prog fn conds false w args/\laidMetH prog laid w)/\sizedMet enc prog fn (OpenSpec.ofChange s) false w args)
   (s.post enc prog fn false true false false):=by
 refine returnsInHanded_of_calls (C:=Tryz.checked) own started hin
  (ChangeSpec.witness_shaped (enc:=enc) (C:=Tryz.checked) (os:=os) (X:=fun w _=>laidMetH prog laid w) false (World.laidAll prog os laid) args0 8 (World.laidAll_os _ _ _) hshaped hok hpre hsz
   (by rw [MakeChecks.laidMetH_plain _ _ _ hplain];exact hlaid)) ?_
 intro w tape i _ hsh _ hok' hpre' _;obtain ⟨_,_,_,fn',hfn',_,_,_,_,hval⟩:=hok';obtain rfl:fn'=fn:=Option.some.inj (hfn'.symm.trans hfn);obtain ⟨⟨⟨ds,gs,before,hw,_⟩,hl⟩,hz⟩:=hpre';have hw':=DataW.Whole.of_heap (w':=w.forCall tape i) (by rfl) hw;have hwt:=hz.weights hw;rw [MakeChecks.laidMetH_plain _ _ _ hplain] at hl;have hl':laidMet prog laid (w.forCall tape i):=hl.of_heap (by rfl);have hlt:=hw'.lt;obtain ⟨p,q,hA,hV,rfl,hfz,hnd⟩:=hw';rw [hvars] at hV;obtain ⟨rfl,rfl⟩:=trodVars_none hV;have hplen:fn'.params.toList.length=ds.length:=trodAll_len hA;rw [List.append_nil] at hlt
 have hfit:(DataW.weightsEach prog fn'.params.toList ds).all (·<=reachBytes)=true:=by
  have e:(OpenSpec.ofChange s).bare.plain.varTypes prog=[]:=by
   show DataSpec.varTypes _ (s.plain)=_
   simp [DataSpec.varTypes,ChangeSpec.plain,hvars]
  rw [e,List.append_nil,List.append_nil] at hwt;exact hwt
 refine (walk (w.forCall tape i) i.args ds p ⟨⟨_,hval⟩,hA,hfit,hl',hsh⟩).mono fun e W' ⟨he,hb⟩=>?_;subst he;refine ChangeSpec.post_blind ?_;refine ⟨ds,[],p++[],[],p,[],⟨p,[],hA,by rw [hvars];exact hV,rfl,hfz,hnd⟩,?_,?_,?_,hb.frame _,fun h=>by cases h⟩
 ·rw [hs H _ ds rfl hplen,hres];exact trodAll_mk1 (shut_bool underlying4 true)
 ·rw [hs H _ ds rfl hplen];exact trodAll_stays hb hp hA hlt
 ·rw [hs H _ ds rfl hplen,hvars];rfl
theorem tabIs_of_mem {P:Program} {W:World} {name:String} {k:IntKind} {zs:List Int} {g:Nat} {t e:TypeId} {n:Nat}
  (hg:P.globalNamed name=some g) (hty:(P.globals[g]?).map (·.type)=some t) (ht:P.underlying t=some (.array n e)) (he:P.underlying e=some (.int k)) (hce:P.cellsOf e=1) (hct:P.cellsOf t=n) :
  ∀ {laid:List (String×DataW Unit)} {ps:List MemPlace},DataW.LaidVars P W laid ps->(name,Lib.tabData k zs)∈laid->Lib.TabIs P W name k zs
 | [],_,_,h=>by cases h
 | (m,d)::r,ps,h,hm=>by
  obtain ⟨g',t',cs,fuel,p,q,hg',ht',hvar,hd,hrest,_⟩:=h;rcases List.mem_cons.1 hm with hm | hm
  ·cases hm
   obtain rfl:=Option.some.inj (hg.symm.trans hg');obtain rfl:=Option.some.inj (hty.symm.trans ht');unfold Lib.TabIs;rw [hvar,<-Lib.cells_of_tab ht he hce hct hd]
  ·exact tabIs_of_mem hg hty ht he hce hct hrest hm
theorem add_zero' (a:Addr):a.add 0=a:=by simp [Addr.add]
theorem add_off (b o n:Nat):(⟨b,o,none⟩:Addr).add n=⟨b,o+n,none⟩:=by
 unfold Addr.add;split
 ·rename_i h;subst h;rfl
 ·rfl
theorem addr_of_cell {w:World} {a:Addr} {v:Value} (h:w.cell? a=some v):∃ b o,a=⟨b,o,none⟩:=by
 obtain ⟨b,o,s⟩:=a
 cases s with
 | none=>exact ⟨b,o,rfl⟩
 | some x =>
  exfalso;unfold World.cell? at h;split at h
  ·simp at h
  ·cases h
end
section
open Go.RowKit
def okByte (c:UInt8):Bool:=!(decide ((c.toNat:Int)<32)||(c.toNat:Int)==127||(c.toNat:Int)==47)
def nameB (l:List UInt8):Bool:=decide (1<=l.length)&&decide (l.length<=48)&&!(l==[46])&&!(l==[46,46])&&l.all okByte
theorem nameB_bad (s:ByteArray) (k:Nat) (h:k<s.size) (hb:okByte s[k]=false):nameB s.toList=false:=by
 have hm:s[k]∈s.toList:=by
  rw [Lib.toList_data];exact List.getElem_mem (l:=s.data.toList) (n:=k) (by simpa using h)
 have:s.toList.all okByte=false:=by
  rw [List.all_eq_false];exact ⟨_,hm,by simp [hb]⟩
 simp [nameB,this]
theorem nameB_good (s:ByteArray) (h1:1<=s.size) (h2:s.size<=48) (h3:(s.toList==[46])=false) (h4:(s.toList==[46,46])=false) (h:s.toList.all okByte=true):nameB s.toList=true:=by
 simp only [nameB,h3,h4,h,len_toList];simp [h1,h2]
set_option maxHeartbeats 400000 in
theorem name_any (s:ByteArray) (w:World) (hs:s.size<=maxLen) :
  Calls prog 158 #[.string s] w fun e w'=>e=.returned (.bool (nameB s.toList))/\w'=w:=by
 unfold maxLen at hs;by_cases h1:1<=s.size/\s.size<=48
 ·obtain ⟨h1,h2⟩:=h1
  cases h3:s.toList==[46]
  ·cases h4:s.toList==[46,46]
   ·go_enter func158,ntmps158;go_wp2;go_loop [3,22] (fun _ i=>∃ k:Nat,k<=s.size/\i=.int .i64 k/\(s.toList.take k).all okByte=true) (fun _ i=>s.size - (intOf i).toNat)
    case atStart=>exact ⟨0,Nat.zero_le _,rfl,rfl⟩
    case round =>
     obtain ⟨k,hk,rfl,hall⟩:=hrel;have H:=lh hall;clear hall;by_cases hlt:k<s.size
     ·have HB:=lh (nameB_bad s k hlt);have HT:=lh (take_snoc s k hlt)
      cases hb:okByte s[k]
      ·have hb':=hb;have H2:=lh hb;clear hb;simp only [okByte,Bool.not_eq_false',Bool.or_eq_true,decide_eq_true_eq,beq_iff_eq] at hb';go_wp2
       all_goals (first | (go_ret;exact ⟨ret_bool (HB.out H2.out).symm,rfl⟩) | (exfalso;simp at *;omega))
      ·have hb':=hb;have H2:=lh hb;clear hb;simp only [okByte,Bool.not_eq_true',Bool.or_eq_false_iff,decide_eq_false_iff_not] at hb';obtain ⟨⟨b1,b2⟩,b3⟩:=hb';go_wp2;go_round
       case rel=>exact ⟨k+1,by omega,by go_num,by rw [HT.out,List.all_append,H.out];simp [H2.out]⟩
       case measure=>simp [intOf];omega
     ·have:k=s.size:=by omega
      subst this;go_wp2;go_ret;exact ⟨ret_bool (nameB_good s h1 h2 h3 h4 (by have:=H.out;rwa [List.take_of_length_le (by rw [len_toList];omega)] at this)).symm,rfl⟩
   ·go_enter func158,ntmps158;go_wp2;go_ret;exact ⟨ret_bool (by simp [nameB,h4]),rfl⟩
  ·go_enter func158,ntmps158;go_wp2;go_ret;exact ⟨ret_bool (by simp [nameB,h3]),rfl⟩
 ·have hf:nameB s.toList=false:=by
   simp only [nameB,len_toList];by_cases h:1<=s.size
   ·have:¬ s.size<=48:=by omega
    simp [this]
   ·simp [h]
  have HF:=lh hf;clear hf;go_enter func158,ntmps158;go_wp2
  all_goals (first | (go_ret;exact ⟨ret_bool HF.out.symm,rfl⟩) | (exfalso;simp at *;omega))
end
section
open Go.RowKit
structure Env (w:World):Prop where
 maxlen:∃ m,w.cell? ⟨2,0,none⟩=some (.int .i64 m)
theorem Env.ext {w w':World} (h:Env w) (k:Ext w w'):Env w' :=
 ⟨let ⟨m,hm⟩:=h.maxlen;⟨m,by rw [k.cell (lt_of_cell hm)];exact hm⟩⟩
end
section
open Go.RowKit
def bs (l:List UInt8):ByteArray:=⟨l.toArray⟩
def parentS (s:ByteArray):ByteArray:=s.extract 0 (max (Lib.lastIndexByte s 47) 0).toNat
def baseS (s:ByteArray):ByteArray:=s.extract (Lib.lastIndexByte s 47+1).toNat s.size
theorem lastIdx_bd (s:ByteArray) (c:Int) (k:Nat):-1<=Lib.lastIdx s c k/\Lib.lastIdx s c k<k:=by
 induction k with
 | zero=>simp [Lib.lastIdx]
 | succ k ih=>unfold Lib.lastIdx;split <;> omega
theorem lastIndexByte_bd (s:ByteArray) (c:Int):-1<=Lib.lastIndexByte s c/\Lib.lastIndexByte s c<s.size:=lastIdx_bd s c s.size
set_option maxHeartbeats 400000 in
theorem split_any (s:ByteArray) (w:World) (hs:s.size<4611686018427387904) :
  Calls prog 93 #[.string s] w fun e w'=>e=.returned (.tuple #[.string (parentS s),.string (baseS s)])/\∃ n,w'=w.drewN n:=by
 have hb:=lastIndexByte_bd s 47;have C:=Tryz.strings_LastIndexByte s 47 hs;unfold parentS baseS;generalize Lib.lastIndexByte s 47=i at *;have HC:=lh C;clear C;obtain ⟨hb1,hb2⟩:=hb;go_enter func93,ntmps93;go_wp2_with (go_at_call 159;refine (HC.out _).mono ?_;rintro e w' ⟨rfl,rfl⟩);go_quiet (fail);go_wp2;go_ret2;exact ⟨rfl,nq,rfl⟩
def piecesOf (s:ByteArray):List ByteArray:=Lib.splitB ⟨#[47]⟩ 0 (Lib.countB s ⟨#[47]⟩) s
set_option maxHeartbeats 400000 in
theorem mayEach_any (s:ByteArray) (b:Nat) (g:Bool) (w:World) (hs:s.size<=maxLen) (hc:w.cell? ⟨b,0,none⟩=some (.bool g)) (hf:w.frozen? ⟨b,0,none⟩=false) :
  Calls prog 157 #[.string s,.pointer (some ⟨b,0,none⟩)] w fun e w'=>e=.returned (.tuple #[])/\w'=w.setCell ⟨b,0,none⟩ (.bool (g&&nameB s.toList)):=by
 cases g
 ·go_enter func157,ntmps157;go_wp2;go_end0;exact ⟨rfl,rfl⟩
 ·go_enter func157,ntmps157;go_wp2_with (go_at_call 158;refine (name_any _ _ hs).mono ?_;rintro e w' ⟨rfl,rfl⟩);go_end0;exact ⟨rfl,rfl⟩
end
section
open Go.RowKit
theorem maxlen_of_shaped {W:World} (h:W.ShapedOpen prog):∃ m,W.cell? ⟨2,0,none⟩=some (.int .i64 m) :=
 cell_of_shapedOpen_int (P:=prog) (g:=2) (t:=3) (zero:=#[.int .i64 0]) h (of_decide_eq_true (by kernel_rfl)) (by kernel_rfl) rfl (by kernel_rfl) (by kernel_rfl) underlying3
theorem env_of {W:World} (hs:W.ShapedOpen prog):Env W:=⟨maxlen_of_shaped hs⟩
end
section
open Go.RowKit
abbrev Wd:=BitVec 32
def rotr (x:Wd) (n:Nat):Wd:=x >>> n ||| x <<< (32 - n)
def sg0 (x:Wd):Wd:=rotr x 7 ^^^ rotr x 18 ^^^ x >>> 3
def sg1 (x:Wd):Wd:=rotr x 17 ^^^ rotr x 19 ^^^ x >>> 10
def big0 (x:Wd):Wd:=rotr x 2 ^^^ rotr x 13 ^^^ rotr x 22
def big1 (x:Wd):Wd:=rotr x 6 ^^^ rotr x 11 ^^^ rotr x 25
def chw (e f g:Wd):Wd:=(e &&& f) ^^^ (~~~e &&& g)
def mjw (a b c:Wd):Wd:=(a &&& b) ^^^ (a &&& c) ^^^ (b &&& c)
def wordAt (p:List UInt8) (t:Nat):Wd:=BitVec.ofNat 32 ((((p.getD (4*t) 0).toNat*256+(p.getD (4*t+1) 0).toNat)*256+(p.getD (4*t+2) 0).toNat)*256+(p.getD (4*t+3) 0).toNat)
def nextW (p:List UInt8) (w:List Wd) (t:Nat):Wd :=
 if t<16 then wordAt p t else w.getD (t - 16) 0+sg0 (w.getD (t - 15) 0)+w.getD (t - 7) 0+sg1 (w.getD (t - 2) 0)
def wordsL (p:List UInt8):Nat->List Wd
 | 0=>[]
 | t+1=>wordsL p t++[nextW p (wordsL p t) t]
theorem wordsL_len (p:List UInt8) (t:Nat):(wordsL p t).length=t:=by
 induction t with
 | zero=>rfl
 | succ t ih=>simp [wordsL,ih]
theorem wordsL_at (p:List UInt8) (t k:Nat) (h:k<t):(wordsL p t)[k]?=some (nextW p (wordsL p k) k):=by
 induction t with
 | zero=>omega
 | succ t ih =>
  rw [show wordsL p (t+1)=wordsL p t++[nextW p (wordsL p t) t] from rfl];by_cases e:k=t
  ·subst e;rw [List.getElem?_append_right (by rw [wordsL_len];exact Nat.le_refl _),wordsL_len];simp
  ·rw [List.getElem?_append_left (by rw [wordsL_len];omega)];exact ih (by omega)
structure V8 where
 (a b c d e f g h:Wd)
def rnd (v:V8) (k w:Wd):V8 :=
 let x:=v.h+big1 v.e+chw v.e v.f v.g+k+w
 let y:=big0 v.a+mjw v.a v.b v.c
 ⟨x+y,v.a,v.b,v.c,v.d+x,v.e,v.f,v.g⟩
def kTab:List Nat:=[
 0x428a2f98,0x71374491,0xb5c0fbcf,0xe9b5dba5,0x3956c25b,0x59f111f1,0x923f82a4,0xab1c5ed5,
 0xd807aa98,0x12835b01,0x243185be,0x550c7dc3,0x72be5d74,0x80deb1fe,0x9bdc06a7,0xc19bf174,
 0xe49b69c1,0xefbe4786,0x0fc19dc6,0x240ca1cc,0x2de92c6f,0x4a7484aa,0x5cb0a9dc,0x76f988da,
 0x983e5152,0xa831c66d,0xb00327c8,0xbf597fc7,0xc6e00bf3,0xd5a79147,0x06ca6351,0x14292967,
 0x27b70a85,0x2e1b2138,0x4d2c6dfc,0x53380d13,0x650a7354,0x766a0abb,0x81c2c92e,0x92722c85,
 0xa2bfe8a1,0xa81a664b,0xc24b8b70,0xc76c51a3,0xd192e819,0xd6990624,0xf40e3585,0x106aa070,
 0x19a4c116,0x1e376c08,0x2748774c,0x34b0bcb5,0x391c0cb3,0x4ed8aa4a,0x5b9cca4f,0x682e6ff3,
 0x748f82ee,0x78a5636f,0x84c87814,0x8cc70208,0x90befffa,0xa4506ceb,0xbef9a3f7,0xc67178f2]
def kAt (t:Nat):Wd:=BitVec.ofNat 32 (kTab.getD t 0)
def rounds (v:V8) (ws:List Wd):Nat->V8
 | 0=>v
 | t+1=>rnd (rounds v ws t) (kAt t) (ws.getD t 0)
def V8.add (x y:V8):V8:=⟨x.a+y.a,x.b+y.b,x.c+y.c,x.d+y.d,x.e+y.e,x.f+y.f,x.g+y.g,x.h+y.h⟩
def comp (s:V8) (p:List UInt8):V8:=s.add (rounds s (wordsL p 64) 64)
def first8:V8:=⟨0x6a09e667,0xbb67ae85,0x3c6ef372,0xa54ff53a,0x510e527f,0x9b05688c,0x1f83d9ab,0x5be0cd19⟩
def digN (m:List UInt8):Nat->V8
 | 0=>first8
 | n+1=>comp (digN m n) ((m.drop (64*n)).take 64)
theorem digN_app (m b:List UInt8) (n:Nat) (h:64*n<=m.length):digN (m++b) n=digN m n:=by
 induction n with
 | zero=>rfl
 | succ n ih =>
  unfold digN;rw [ih (by omega),List.drop_append,List.take_append_of_le_length (by rw [List.length_drop];omega)]
def zerosOf (n:Nat):Nat:=(119 - n % 64) % 64
def byteOf (n:Nat):UInt8:=UInt8.ofNat n
def be8 (n:Nat):List UInt8:=[byteOf (n / 2 ^ 56),byteOf (n / 2 ^ 48),byteOf (n / 2 ^ 40),byteOf (n / 2 ^ 32),byteOf (n / 2 ^ 24),byteOf (n / 2 ^ 16),byteOf (n / 2 ^ 8),byteOf n]
def padL (n:Nat):List UInt8:=128::List.replicate (zerosOf n) 0++be8 (8*n)
def padded (m:List UInt8):List UInt8:=m++padL m.length
theorem padL_len (n:Nat):(padL n).length=zerosOf n+9:=by simp [padL,be8]
theorem padded_len (m:List UInt8):(padded m).length % 64=0/\m.length+9<=(padded m).length/\(padded m).length<=m.length+72:=by
 unfold padded;rw [List.length_append,padL_len];unfold zerosOf;omega
def V8.list (v:V8):List Wd:=[v.a,v.b,v.c,v.d,v.e,v.f,v.g,v.h]
def outB (w:Wd):List UInt8:=[byteOf (w.toNat / 2 ^ 24),byteOf (w.toNat / 2 ^ 16),byteOf (w.toNat / 2 ^ 8),byteOf w.toNat]
def shaL (m:List UInt8):List UInt8:=((digN (padded m) ((padded m).length / 64)).list.map outB).flatten
theorem shaL_len (m:List UInt8):(shaL m).length=32:=by simp [shaL,V8.list,outB]
def hexD (n:Nat):UInt8:=if n<10 then byteOf (48+n) else byteOf (87+n)
def hexL (h:List UInt8):List UInt8:=(h.map fun x=>[hexD (x.toNat / 16),hexD (x.toNat % 16)]).flatten
theorem hexL_len (h:List UInt8):(hexL h).length=2*h.length:=by
 induction h with
 | nil=>rfl
 | cons x h ih=>simp only [hexL,List.map_cons,List.flatten_cons,List.length_append,List.length_cons,List.length_nil] at *;omega
end
section
open Go.RowKit
structure After (w:World) where
 v:World
 x:Ext w v
instance (w:World):Nonempty (After w):=⟨⟨w,Ext.refl w⟩⟩
theorem wp_region_after {P:Program} {id:Nat} {Q:Exit->Act->World->Prop} {a:Act} {w:World} {l:List Oper} (hm:P.follows .mixedOrders=true) (hB:Region.lexB .any l.toArray=true)
  (h:wpQuiet P l.toArray (fun w'=>∃ x:After w,w'=x.v) (fun a'=>∀ w',(∃ x:After w,w'=x.v)->Q .normal a' w') l a):(Code.region id l.toArray true).wp P Q a w :=
 wp_region_quiet (C:=fun w'=>∃ x:After w,w'=x.v) hm hB ⟨⟨_,(Ext.refl w).drew⟩,rfl⟩ (by simpa using h)
theorem After.of {P:Program} {f:FuncId} {args:Array Value} {v:Value} {w:World} {x:After w} (h:Calls P f args x.v fun e w'=>e=.returned v/\Ext x.v w') :
  Calls P f args x.v fun e w''=>e=.returned v/\∃ y:After w,w''=y.v :=
 h.mono fun _ w'' ⟨he,hx⟩=>⟨he,⟨w'',x.x.trans hx⟩,rfl⟩
theorem After.same {P:Program} {f:FuncId} {args:Array Value} {v:Value} {w:World} {x:After w} (h:Calls P f args x.v fun e w'=>e=.returned v/\w'=x.v) :
  Calls P f args x.v fun e w''=>e=.returned v/\∃ y:After w,w''=y.v :=
 h.mono fun _ _ ⟨he,hx⟩=>⟨he,x,hx⟩
theorem After.cell {w:World} {b o:Nat} {u:Value} (h:w.cell? ⟨b,o,none⟩=some u) (x:After w):x.v.cell? ⟨b,o,none⟩=some u:=(x.x.cell (lt_of_cell h)).trans h
end
section
open Go.RowKit
section
variable {P:Program} {ops:Array Oper} {md:Region.Mode} {C:World->Prop}
def anyHead (P:Program) (md:Region.Mode) (ops:Array Oper) (C:World->Prop) (n:Nat) (L:Array Bool->Act->Prop):Nat->Array Bool->Act->Prop
 | 0,listed,a=>L listed a
 | f+1,listed,a=>Region.ready md ops listed≠[]/\∀ i∈Region.ready md ops listed,i<n/\qOp P ops C i (anyHead P md ops C n L f (listed.setIfInBounds i true)) a
theorem wpAny_of_anyHead {n g:Nat} {L:Array Bool->Act->Prop} {Q:Exit->Act->World->Prop} (hL:∀ listed a w,C w->L listed a->wpAny P md ops Q g listed a w) :
  ∀ (f:Nat) (listed:Array Bool) (a:Act) (w:World),C w->anyHead P md ops C n L f listed a->wpAny P md ops Q (f+g) listed a w
 | 0,listed,a,w,hw,h=>by rw [Nat.zero_add];exact hL _ _ _ hw h
 | f+1,listed,a,w,hw,h=>by
  rw [show f+1+g=(f+g)+1 from by omega];exact ⟨fun h0=>absurd h0 h.1,fun i hi=>wpOp_of_qOp hw (fun a' w' hw' h'=>wpAny_of_anyHead hL f _ a' w' hw' h') (h.2 i hi).2⟩
theorem anyHead_first {n i:Nat} {oi:Oper} {v:Value} {L:Array Bool->Act->Prop} (hi:ops[i]?=some oi) (hsel:∀ (j:Nat) (o:Oper) cs b,ops[j]?=some o->o.op≠.select cs b)
  (hs:Region.sinkB md ops n=true) (hc:Region.chainB md ops n=true) (hn:n<ops.size) (hin:i<n) (hdone:∀ listed a,L listed a->∀ j∈Region.ready md ops listed,n<=j)
  (f:Nat):∀ (listed:Array Bool) (a:Act),HeadInv md ops n listed ->
   (∀ j oj,ops[j]?=some oj->j≠i->listed.getD j true=false->(∀ e∈oj.after,Region.binds md e=true->e.on≠i)->oi.apart ops oj=true) ->
   i∈Region.ready md ops listed->YieldsIn P ops C oi v a->anyHead P md ops C n L f (listed.setIfInBounds i true) (a.put oi.dst v)->anyHead P md ops C n L (f+1) listed a:=by
 have head:∀ listed:Array Bool,HeadInv md ops n listed->i∈Region.ready md ops listed->∀ j∈Region.ready md ops listed,j<n:=fun listed inv hr j hj=>by
  rcases Nat.lt_or_ge j n with h | h
  ·exact h
  ·exact absurd hj (tail_waits hs hc hn inv _ i rfl hin (mem_ready.1 hr).1 j h)
 induction f with
 | zero =>
  intro listed a inv _ hr hy H;refine ⟨fun h=>(by rw [h] at hr;cases hr),fun j hj=>⟨head listed inv hr j hj,?_⟩⟩;by_cases hji:j=i
  ·subst hji;exact hy.qOp hi H
  ·have h1:=hdone _ _ H j (ready_mono hj hji);have h2:=head listed inv hr j hj;omega
 | succ f ih =>
  intro listed a inv hfree hr hy H;have hun:=(mem_ready.1 hr).1;refine ⟨fun h=>(by rw [h] at hr;cases hr),fun j hj=>⟨head listed inv hr j hj,?_⟩⟩;by_cases hji:j=i
  ·subst hji;exact hy.qOp hi H
  ·have h1:=(H.2 j (ready_mono hj hji)).2;obtain ⟨hjun,oj,hoj,hall⟩:=mem_ready.1 hj
   have hnot:∀ e∈oj.after,Region.binds md e=true->e.on≠i:=fun e he hb heq=>by
    have h1:=hall e he hb;rw [heq,getD_both hun] at h1
    cases h1
   have h2:=qOp_put hoj (hfree j oj hoj hji hjun hnot) (fun cs b=>hsel i oi cs b hi) (fun cs b=>hsel j oj cs b hoj) hy h1;refine qOp_mono (fun a' h3=>ih (listed.setIfInBounds j true) a' (inv.set hj (head listed inv hr j hj)) (fun k ok hk hki hun hno=>hfree k ok hk hki ?_ hno) (ready_mono hr (Ne.symm hji)) h3.1 ?_) h2
   ·by_cases hjk:j=k
    ·subst hjk;exact hjun
    ·rw [getD_set_ne true hjk] at hun;exact hun
   ·rw [Array.setIfInBounds_comm _ _ hji];exact h3.2
theorem anyHead_lex {n g:Nat} {Lq:Act->Prop} (hsel:Region.noSelect ops=true) (hs:Region.sinkB md ops n=true) (hc:Region.chainB md ops n=true) (hn:n<ops.size) :
  ∀ (l:List Oper) (k:Nat) (listed:Array Bool) (a:Act),(∀ j,j<l.length->l[j]?=ops[k+j]?)->k+l.length=n->HeadInv md ops n listed ->
  Region.lexHead md ops g l.length k listed=true->wpQuiet P ops C Lq l a ->
  anyHead P md ops C n (fun listed' a'=>Region.seqB md ops g n listed'=true/\Lq a') l.length listed a
 | [],k,listed,a,_,hk,_,hB,h=>by
  have:k=n:=by simpa using hk
  subst this;exact ⟨by simpa [Region.lexHead] using hB,h⟩
 | o::l,k,listed,a,hl,hk,inv,hB,h=>by
  have h0:ops[k]?=some o:=by simpa using (hl 0 (by simp)).symm
  simp only [List.length_cons,Region.lexHead,Bool.and_eq_true] at hB;obtain ⟨⟨hr,hf⟩,hB'⟩:=hB;have hkn:k<n:=by simp only [List.length_cons] at hk;omega
  have hr':k∈Region.ready md ops listed:=by simpa using hr
  have hst:qOp P ops C k (wpQuiet P ops C Lq l) a:=by unfold qOp;simp only [h0];exact h
  obtain ⟨v,hy,hK⟩:=yieldsIn_of_qOp h0 hst
  exact anyHead_first h0 (Region.noSelect_spec hsel) hs hc hn hkn (fun listed' a' hL=>seqB_ready hL.1) l.length listed a inv (Region.free_spec h0 hf) hr' hy
   (anyHead_lex hsel hs hc hn l (k+1) _ _ (fun j hj=>by have:=hl (j+1) (by simp;omega);simpa [Nat.add_assoc,Nat.add_comm 1 j] using this) (by simp only [List.length_cons] at hk;omega) (inv.set hr' hkn) hB' hK)
theorem wp_region_quiet_tail {id:Nat} {Q:Exit->Act->World->Prop} {a:Act} {w:World} {l:List Oper} (n:Nat) (hm:P.follows .mixedOrders=true) (hB:Region.lexTailB .any l.toArray n=true) (hC:C { w with drawn:=w.drawn+1 })
  (h:wpQuiet P l.toArray C (fun a'=>∀ w',C w'->wpList P l.toArray Q (l.drop n) a' w') (l.take n) a):(Code.region id l.toArray true).wp P Q a w:=by
 simp only [Region.lexTailB,Bool.and_eq_true,decide_eq_true_eq] at hB;obtain ⟨⟨⟨⟨hsel,hn⟩,hs⟩,hc⟩,hlex⟩:=hB;have hn':n<l.length:=by simpa using hn
 have htl:(l.take n).length=n:=by simp;omega
 have hdl:(l.drop n).length=l.toArray.size - n:=by simp
 have inv0:HeadInv .any l.toArray n (Array.replicate l.toArray.size false) :=
  ⟨by simp,fun j oj _ hl=>(by rw [getD_replicate_false] at hl;cases hl),fun t _ ht=>getD_in (by simpa using ht) (getD_replicate_false _ _)⟩
 have H:=anyHead_lex (md:=.any) (g:=l.toArray.size - n) hsel hs hc hn (l.take n) 0 _ a (fun j hj=>by
  have hj':j<n:=by rw [htl] at hj;exact hj
  simp [hj']) (by simpa using htl) inv0 (by rw [htl];exact hlex) h
 refine wp_region_any hm ?_
 have:=wpAny_of_anyHead (Q:=Q) (g:=l.toArray.size - n) (fun listed a' w' hw' hL=>by
  have:=wpAny_of_seq (md:=.any) (Q':=Q) (l.drop n) n listed a' w' (fun j=>by simp [List.getElem?_drop]) (by rw [hdl];exact hL.1) (hL.2 w' hw')
  rwa [hdl] at this) _ _ _ _ hC H
 rw [htl,show n+(l.toArray.size - n)=l.toArray.size from by omega] at this;exact this
end
theorem wp_region_after_tail {P:Program} {id:Nat} {Q:Exit->Act->World->Prop} {a:Act} {w:World} {l:List Oper} (n:Nat) (hm:P.follows .mixedOrders=true) (hB:Region.lexTailB .any l.toArray n=true)
  (h:wpQuiet P l.toArray (fun w'=>∃ x:After w,w'=x.v) (fun a'=>∀ w',(∃ x:After w,w'=x.v)->wpList P l.toArray Q (l.drop n) a' w') (l.take n) a):(Code.region id l.toArray true).wp P Q a w :=
 wp_region_quiet_tail (C:=fun w'=>∃ x:After w,w'=x.v) n hm hB ⟨⟨_,(Ext.refl w).drew⟩,rfl⟩ h
end
section
open Go.RowKit
theorem cellB {w:World} {b k:Nat} {cs:Array Value} {t:TypeId} {m:Nat×Nat} (h:w.heap[b]?=some (.cells cs t m)):w.cell? ⟨b,k,none⟩=cs[k]?:=by
 unfold World.cell?;simp [h]
theorem frozenB {w:World} {b k:Nat} {cs:Array Value} {t:TypeId} (h:w.heap[b]?=some (.cells cs t (0,0))):w.frozen? ⟨b,k,none⟩=false:=by
 unfold World.frozen?;simp [h]
theorem ltB {w:World} {b:Nat} {o:Obj} (h:w.heap[b]?=some o):b<w.heap.size:=(Array.getElem?_eq_some_iff.1 h).1
theorem setCellB {w:World} {b k:Nat} {cs:Array Value} {t:TypeId} {m:Nat×Nat} {u:Value} (h:w.heap[b]?=some (.cells cs t m)):(w.setCell ⟨b,k,none⟩ u).heap[b]?=some (.cells (cs.setIfInBounds k u) t m):=by
 unfold World.setCell;simp [Array.getElem?_modify,h]
theorem setCellO {w:World} {b b' k:Nat} {u:Value} (h:b'≠b):(w.setCell ⟨b,k,none⟩ u).heap[b']?=w.heap[b']?:=by
 unfold World.setCell;simp [Array.getElem?_modify,Ne.symm h]
theorem wp_region_after0 {P:Program} {id:Nat} {Q:Exit->Act->World->Prop} {a:Act} {w:World} {l:List Oper} (y:After w) (hm:P.follows .mixedOrders=true) (hB:Region.lexB .any l.toArray=true)
  (h:wpQuiet P l.toArray (fun w'=>∃ x:After w,w'=x.v) (fun a'=>∀ w',(∃ x:After w,w'=x.v)->Q .normal a' w') l a):(Code.region id l.toArray true).wp P Q a y.v :=
 wp_region_quiet (C:=fun w'=>∃ x:After w,w'=x.v) hm hB ⟨⟨_,y.x.drew⟩,rfl⟩ (by simpa using h)
theorem wp_region_after_tail0 {P:Program} {id:Nat} {Q:Exit->Act->World->Prop} {a:Act} {w:World} {l:List Oper} (y:After w) (n:Nat) (hm:P.follows .mixedOrders=true) (hB:Region.lexTailB .any l.toArray n=true)
  (h:wpQuiet P l.toArray (fun w'=>∃ x:After w,w'=x.v) (fun a'=>∀ w',(∃ x:After w,w'=x.v)->wpList P l.toArray Q (l.drop n) a' w') (l.take n) a):(Code.region id l.toArray true).wp P Q a y.v :=
 wp_region_quiet_tail (C:=fun w'=>∃ x:After w,w'=x.v) n hm hB ⟨⟨_,y.x.drew⟩,rfl⟩ h
theorem After.at {w:World} {b k:Nat} {cs:Array Value} {t:TypeId} {m:Nat×Nat} (h:w.heap[b]?=some (.cells cs t m)) (v:After w):v.v.cell? ⟨b,k,none⟩=cs[k]?:=cellB ((v.x.block (ltB h)).trans h)
theorem After.free {w:World} {b k:Nat} {cs:Array Value} {t:TypeId} (h:w.heap[b]?=some (.cells cs t (0,0))) (v:After w):v.v.frozen? ⟨b,k,none⟩=false:=frozenB ((v.x.block (ltB h)).trans h)
theorem wpList_buildAs {P:Program} {ops:Array Oper} {rest:List Oper} {o:Oper} {a:Act} {w:World} {Q:Exit->Act->World->Prop} (cells:Array Value) (hg:o.guard=none) (t:TypeId) (parts:Array (Nat×Operand)) (ho:o.op=.build t parts)
  (hf:P.built t (parts.map fun (i,x)=>(i,a.eval x)).toList=some cells) (h:wpList P ops Q rest (a.put o.dst (.agg cells)) w):wpList P ops Q (o::rest) a w :=
 wpList_build hg t parts ho (by rw [hf];rfl) (by rw [hf];exact h)
theorem Ext.setRow {w w':World} (h:Ext w w') {g:Nat} (hg:w.heap.size<=g) (cs:Array Value):Ext w (w'.setRow g cs) :=
 Below.trans h ⟨rfl,rfl,rfl,by rw [setRow_size];exact Nat.le_refl _,fun k hk=>setRow_other _ _ _ _ (by omega)⟩
end
section
open Go.RowKit
theorem wpQuiet_load_row {P:Program} {ops:Array Oper} {C:World->Prop} {Q:Act->Prop} {a:Act} {o:Oper} {rest:List Oper} (hgd:o.guard=none) (ty:TypeId) (x:Operand) (ho:o.op=.load ty x)
  (g:Nat) (hx:a.eval x=.pointer (some ⟨g,0,none⟩)) (t:TypeId) (cs:Array Value) (fr:Nat×Nat) (d:TypeDesc) (hg:∀ w,C w->w.heap[g]?=some (.cells cs t fr))
  (hu:P.underlying ty=some d) (hd:(match d with | .struct _ | .array _ _=>true | _=>false)=true) (hi:(P.info? ty).map (·.size)=some cs.size)
  (h:wpQuiet P ops C Q rest (a.put o.dst (.agg cs))):wpQuiet P ops C Q (o::rest) a :=
 wpQuiet_step fun K hK=>by
  rw [if_pos (by simp only [Region.wanted,hgd])];refine ⟨.agg cs,fun w hw=>?_,hK _ h⟩;unfold Oper.quietAt execOp;simp only [ho,hx,Instr.loadAt,Instr.sureAddr,Sem.run_bind,Sem.run_pure,Result.andThen_ok,run_loadVar_row w g t ty cs fr d (hg w hw) hu hd hi];exact ⟨rfl,rfl⟩
theorem wpList_load_at {P:Program} {ops:Array Oper} {rest:List Oper} {op:Oper} {a:Act} {w:World} {Q:Exit->Act->World->Prop} (hgd:op.guard=none) (ty:TypeId) (x:Operand) (ho:op.op=.load ty x)
  (b o:Nat) (hx:a.eval x=.pointer (some ⟨b,o,none⟩)) (cs:Array Value) (d:TypeDesc) (hc:w.rangeAt b o cs.toList)
  (hu:P.underlying ty=some d) (hd:d.isRow=true) (hi:(P.info? ty).map (·.size)=some cs.size)
  (h:wpList P ops Q rest (a.put op.dst (.agg cs)) w):wpList P ops Q (op::rest) a w :=
 wpList_load_mid hgd ty x ho b o hx cs.toList d hc hu hd (by rw [hi];simp) (by simpa using h)
theorem wpQuiet_load_at {P:Program} {ops:Array Oper} {C:World->Prop} {Q:Act->Prop} {a:Act} {o:Oper} {rest:List Oper} (hgd:o.guard=none) (ty:TypeId) (x:Operand) (ho:o.op=.load ty x)
  (b off:Nat) (hx:a.eval x=.pointer (some ⟨b,off,none⟩)) (cs:Array Value) (d:TypeDesc) (hc:∀ w,C w->w.rangeAt b off cs.toList)
  (hu:P.underlying ty=some d) (hd:d.isRow=true) (hi:(P.info? ty).map (·.size)=some cs.size)
  (h:wpQuiet P ops C Q rest (a.put o.dst (.agg cs))):wpQuiet P ops C Q (o::rest) a :=
 wpQuiet_step fun K hK=>by
  rw [if_pos (by simp only [Region.wanted,hgd])];refine ⟨.agg cs,fun w hw=>?_,hK _ h⟩;unfold Oper.quietAt execOp;simp only [ho,hx,Instr.loadAt,Instr.sureAddr,Sem.run_bind,Sem.run_pure,Result.andThen_ok,run_loadVar_mid w b off ty cs.toList d (hc w hw) hu hd (by rw [hi];simp)];exact ⟨rfl,by simp⟩
end
section
open Go.RowKit
structure Chg (F:List Nat) (w w':World):Prop where
 os:w'.os=w.os
 tape:w'.tape=w.tape
 output:w'.output=w.output
 size:w.heap.size<=w'.heap.size
 block:∀ b,b<w.heap.size->b∉F->w'.heap[b]?=w.heap[b]?
theorem Chg.refl (F:List Nat) (w:World):Chg F w w:=⟨rfl,rfl,rfl,Nat.le_refl _,fun _ _ _=>rfl⟩
theorem Ext.chg {w w':World} (h:Ext w w') (F:List Nat):Chg F w w':=⟨Below.os h,Below.tape h,Below.output h,h.size,fun _ hb _=>h.block hb⟩
theorem Chg.trans {F G:List Nat} {a b c:World} (h:Chg F a b) (k:Chg G b c) (hg:∀ x∈G,x∈F\/a.heap.size<=x):Chg F a c :=
 ⟨k.os.trans h.os,k.tape.trans h.tape,k.output.trans h.output,Nat.le_trans h.size k.size,fun x hx hF =>
  (k.block x (Nat.lt_of_lt_of_le hx h.size) (fun hm=>(hg x hm).elim hF fun hge=>absurd hx (Nat.not_lt.2 hge))).trans (h.block x hx hF)⟩
theorem Chg.trans_ext {F:List Nat} {a b c:World} (h:Chg F a b) (k:Ext b c):Chg F a c:=h.trans (k.chg []) (fun _ hx=>by cases hx)
theorem Chg.mono {F G:List Nat} {w w':World} (h:Chg F w w') (hs:∀ x∈F,x∈G):Chg G w w':=⟨h.os,h.tape,h.output,h.size,fun b hb hn=>h.block b hb fun hm=>hn (hs b hm)⟩
theorem Chg.ext {F:List Nat} {w0 w w':World} (x:Ext w0 w) (h:Chg F w w') (hF:∀ b∈F,w0.heap.size<=b):Ext w0 w' :=
 Below.trans x ⟨h.os,h.tape,h.output,h.size,fun k hk=>h.block k (Nat.lt_of_lt_of_le hk x.size) fun hm=>absurd hk (Nat.not_lt.2 (hF k hm))⟩
theorem Chg.grown {w w':World} {b:Nat} {F:List Nat} (h:w.grownBy w' (some b)) (hb:b∈F):Chg F w w' :=
 ⟨h.os,h.tape,h.output,h.size,fun x hx hn=>h.block x hx fun e=>hn (by rw [Option.some.inj e];exact hb)⟩
theorem Chg.grownO {w w':World} {r:Option Nat} {F:List Nat} (h:w.grownBy w' r) (hb:∀ b,r=some b->b∈F\/w.heap.size<=b):Chg F w w' :=
 ⟨h.os,h.tape,h.output,h.size,fun x hx hn=>h.block x hx fun e=>(hb x e.symm).elim hn fun hge=>absurd hx (Nat.not_lt.2 hge)⟩
theorem Chg.setCell (w:World) (p:Addr) (v:Value) {F:List Nat} (hb:p.block∈F):Chg F w (w.setCell p v):=by
 obtain ⟨b,o,s⟩:=p;refine ⟨rfl,rfl,rfl,by simp,fun x _ hn=>?_⟩;have:x≠b:=fun e=>hn (by rw [e];exact hb);unfold World.setCell;simp [Array.getElem?_modify,Ne.symm this]
theorem Chg.alloc {F:List Nat} {w w':World} (h:Chg F w w') (o:Obj):Chg F w (w'.alloc o):=h.trans_ext ((Ext.refl _).alloc o)
theorem Chg.cell {F:List Nat} {w w':World} (h:Chg F w w') {b o:Nat} (hb:b<w.heap.size) (hn:b∉F):w'.cell? ⟨b,o,none⟩=w.cell? ⟨b,o,none⟩:=World.cell?_of_block (h.block b hb hn)
theorem block_alloc_old {w:World} {o:Obj} {b:Nat} (h:b<w.heap.size):(w.alloc o).heap[b]?=w.heap[b]?:=((Ext.refl w).alloc o).block h
theorem block_alloc_new (w:World) (o:Obj):(w.alloc o).heap[w.heap.size]?=some o:=by
 show (w.heap.push o)[w.heap.size]?=_
 rw [Array.getElem?_push_size]
theorem size_alloc (w:World) (o:Obj):(w.alloc o).heap.size=w.heap.size+1:=by
 show (w.heap.push o).size=_
 rw [Array.size_push]
end
section
open Go.RowKit
structure Elem (P:Program) (t e:TypeId) (z:Value) (bytes:Nat):Prop where
 ut:P.underlying t=some (.slice e)
 info:(P.info? e).map (fun i=>(i.zero,i.size,i.bytes))=some (some z,1,bytes)
 one:z.cells.size=1
 few:bytes<=1024
def IsRow (w:World) (base n:Nat) (v:Value):Prop:=∃ g cap,v=.slice (some ⟨g,0,none⟩) n cap/\base<=g/\g<w.heap.size/\n<=cap/\cap<=maxLen
theorem append_one {P:Program} {ops:Array Oper} {rest:List Oper} {o:Oper} {a:Act} {Q:Exit->Act->World->Prop} {w:World} {t e:TypeId} {z:Value} {bytes:Nat} (el:Elem P t e z bytes)
  (base:Nat) (v:Value) (n:Nat) (xs:List Value) (hown:w.ownsRow base e 1 v n xs) (g:Nat) (u:Value) (s x:Operand)
  (hgd:o.guard=none) (ho:o.op=.call { callee:=.builtin .append,args:=#[s,x],argTypes:=#[t,t] })
  (hs:a.eval s=v) (hx:a.eval x=.slice (some ⟨g,0,none⟩) 1 1) (hnew:w.cell? ⟨g,0,none⟩=some u) (h1:u.oneCell'=true) (hn:n<=68719476736) (hbase:base<=w.heap.size)
  (h:∀ v' w',w'.ownsRow base e 1 v' (n+1) (xs++[u])->w.grownBy w' v.ownBlock->IsRow w' base (n+1) v'->wpList P ops Q rest (a.put o.dst v') w'):wpList P ops Q (o::rest) a w:=by
 obtain ⟨i,hi,hz,hsz,hby⟩:=info_parts el.info;have hf:=el.few;refine wpList_append_own w hgd s x t ho base e i z 1 bytes el.ut hi hz hsz hby el.one (by decide) v n xs hs hown ⟨g,0,none⟩ 1 1 [u] hx rfl ?_ ?_ ?_ ?_ hbase ?_
 ·intro j u' hj
  match j,hj with
  | 0,hj=>simp at hj;subst hj;exact hnew
 ·intro u' hu;simp at hu;subst hu;exact h1
 ·unfold maxLen;omega
 ·have:(n+1)*bytes<=(n+1)*1024:=Nat.mul_le_mul_left _ hf;omega
 ·intro v' w' hown' hg hnil;refine h v' w' hown' hg ?_;rcases hown'.2 with ⟨_,h0⟩ | ⟨g',cap,cur,hv,hb,hh,hc,hm,_⟩
  ·omega
  ·refine ⟨g',cap,hv,hb,?_,hc,hm⟩;rcases Nat.lt_or_ge g' w'.heap.size with hlt | hge
   ·exact hlt
   ·rw [Array.getElem?_eq_none hge] at hh;cases hh
def CellsAt (w:World) (v:Value) (xs:List Value):Prop :=
 (v=.slice none 0 0/\xs=[])\/∃ g cap,v=.slice (some ⟨g,0,none⟩) xs.length cap/\g<w.heap.size/\xs.length<=cap/\cap<=maxLen/\∀ (j:Nat) u,xs[j]?=some u->w.cell? ⟨g,j,none⟩=some u
theorem CellsAt.of_owns {w:World} {base:Nat} {e:TypeId} {v:Value} {xs:List Value} (h:w.ownsRow base e 1 v xs.length xs):CellsAt w v xs:=by
 rcases h.2 with ⟨h1,h2⟩ | ⟨g,cap,cur,hv,hb,hh,hc,hm,hs,ht⟩
 ·exact .inl ⟨h1,List.length_eq_zero_iff.1 h2⟩
 ·refine .inr ⟨g,cap,hv,?_,hc,hm,fun j u hj=>?_⟩
  ·rcases Nat.lt_or_ge g w.heap.size with hlt | hge
   ·exact hlt
   ·rw [Array.getElem?_eq_none hge] at hh;cases hh
  ·subst hv;have hj':j<xs.length:=(List.getElem?_eq_some_iff.1 hj).1;rw [h.cellAt j (by omega),hj]
end
section
open Go.RowKit
structure ElemK (P:Program) (t e:TypeId) (z:Value) (k bytes:Nat):Prop where
 ut:P.underlying t=some (.slice e)
 info:(P.info? e).map (fun i=>(i.zero,i.size,i.bytes))=some (some z,k,bytes)
 cells:z.cells.size=k
 pos:0<k
 few:bytes<=1024
theorem append_where {P:Program} {w:World} {base:Nat} {t ty e:TypeId} {i:TypeInfo} {z:Value} {size:Nat} (ht:P.underlying t=some (.slice e)) (hi:P.info? e=some i) (hz:i.zero=some z) (hsize:i.size=size)
  {v:Value} {n:Nat} {xs:List Value} (hown:w.ownsRow base e size v n xs) {a:Addr} {m c:Nat} {news:List Value} (hl:news.length=m*size) (hnews:∀ j u,news[j]?=some u->w.cell? (a.add j)=some u) (h1:∀ u∈news,u.oneCell'=true)
  (hm:0<m) (h63:n+m<=maxLen) (hbytes:(n+m)*i.bytes<=140737488355328) {v':Value} {w':World} (hr:(Builtin.append_ #[t,t] ty #[v,.slice (some a) m c]).run P w=.ok v' w') :
  v'.ownBlock=v.ownBlock\/v'.ownBlock=some w.heap.size:=by
 subst hsize;have hsmall:n+m<=9223372036854775807:=by simp only [maxLen] at h63;omega
 rcases hown.2 with ⟨rfl,rfl⟩ | ⟨g,cap,cur,rfl,hbg,hg,hnc,hcm,hcs,htake⟩
 ·rw [run_append_nil w t ty e i z ht hi hz a m c news hl hnews hm (by omega) (by simp only [Nat.zero_add] at hbytes;omega)] at hr
  cases hr
  exact .inr rfl
 ·by_cases hroom:n+m<=cap
  ·rw [run_append_room w t ty e i ht hi g n cap cur hg a m c news hl hnews h1 hroom (by rw [hl,hcs,<-Nat.add_mul];exact Nat.mul_le_mul_right _ hroom)] at hr
   cases hr
   exact .inl rfl
  ·rw [run_append_grow w t ty e i z ht hi hz ⟨g,0,none⟩ n cap xs hown.1 (hown.cells (g:=g) rfl) a m c news hl hnews (by omega) (by omega) (growslice_fits (by omega) hbytes)] at hr
   cases hr
   exact .inr rfl
theorem append_kw {P:Program} {ops:Array Oper} {rest:List Oper} {o:Oper} {a:Act} {Q:Exit->Act->World->Prop} {w:World} {t e:TypeId} {z:Value} {k bytes:Nat} (el:ElemK P t e z k bytes)
  (base:Nat) (v:Value) (n:Nat) (xs:List Value) (hown:w.ownsRow base e k v n xs) (g:Nat) (us:List Value) (hus:us.length=k) (s x:Operand)
  (hgd:o.guard=none) (ho:o.op=.call { callee:=.builtin .append,args:=#[s,x],argTypes:=#[t,t] })
  (hs:a.eval s=v) (hx:a.eval x=.slice (some ⟨g,0,none⟩) 1 1) (hnew:∀ (j:Nat) u,us[j]?=some u->w.cell? ⟨g,j,none⟩=some u) (h1:∀ u∈us,u.oneCell'=true) (hn:n<=68719476736) (hbase:base<=w.heap.size)
  (h:∀ v' w',w'.ownsRow base e k v' (n+1) (xs++us)->w.grownBy w' v.ownBlock->IsRow w' base (n+1) v'->v'.ownBlock=v.ownBlock\/v'.ownBlock=some w.heap.size->wpList P ops Q rest (a.put o.dst v') w'):wpList P ops Q (o::rest) a w:=by
 refine wpList_plain hgd fun K hK=>?_;obtain ⟨i,hi,hz,hsz,hby⟩:=info_parts el.info;have hf:=el.few
 have hnews:∀ j u,us[j]?=some u->w.cell? ((⟨g,0,none⟩:Addr).add j)=some u:=fun j u hj=>by
  rw [add_off,Nat.zero_add];exact hnew j u hj
 have hm:n+1<=maxLen:=by unfold maxLen;omega
 have hb:(n+1)*bytes<=140737488355328:=by
  have:(n+1)*bytes<=(n+1)*1024:=Nat.mul_le_mul_left _ hf;omega
 obtain ⟨v',w',hr,h2,h3,_⟩:=run_append_own w base t o.type e i z k bytes el.ut hi hz hsz hby el.cells el.pos v n xs hown ⟨g,0,none⟩ 1 1 us (by omega) hnews h1 hm hb hbase;have hw:=append_where el.ut hi hz hsz hown (by omega) hnews h1 (by omega) hm (by rw [hby];exact hb) hr;unfold Oper.wp execOp;simp only [ho,resolve,invoke,builtin,Sem.run_bind,Sem.run_pure,Result.andThen_ok,List.map_toArray,List.map_cons,List.map_nil,hs,hx,hr];refine hK _ _ (h v' w' h2 h3 ?_ hw);rcases h2.2 with ⟨_,h0⟩ | ⟨g',cap,cur,hv,hb',hh,hc,hm',_⟩
 ·omega
 ·refine ⟨g',cap,hv,hb',?_,hc,hm'⟩;rcases Nat.lt_or_ge g' w'.heap.size with hlt | hge
  ·exact hlt
  ·rw [Array.getElem?_eq_none hge] at hh;cases hh
where
 add_off {b o n:Nat}:(⟨b,o,none⟩:Addr).add n=⟨b,o+n,none⟩:=by
  unfold Addr.add;split
  ·rename_i h;subst h;rfl
  ·rfl
theorem append_k {P:Program} {ops:Array Oper} {rest:List Oper} {o:Oper} {a:Act} {Q:Exit->Act->World->Prop} {w:World} {t e:TypeId} {z:Value} {k bytes:Nat} (el:ElemK P t e z k bytes)
  (base:Nat) (v:Value) (n:Nat) (xs:List Value) (hown:w.ownsRow base e k v n xs) (g:Nat) (us:List Value) (hus:us.length=k) (s x:Operand)
  (hgd:o.guard=none) (ho:o.op=.call { callee:=.builtin .append,args:=#[s,x],argTypes:=#[t,t] })
  (hs:a.eval s=v) (hx:a.eval x=.slice (some ⟨g,0,none⟩) 1 1) (hnew:∀ (j:Nat) u,us[j]?=some u->w.cell? ⟨g,j,none⟩=some u) (h1:∀ u∈us,u.oneCell'=true) (hn:n<=68719476736) (hbase:base<=w.heap.size)
  (h:∀ v' w',w'.ownsRow base e k v' (n+1) (xs++us)->w.grownBy w' v.ownBlock->IsRow w' base (n+1) v'->wpList P ops Q rest (a.put o.dst v') w'):wpList P ops Q (o::rest) a w:=by
 obtain ⟨i,hi,hz,hsz,hby⟩:=info_parts el.info;have hf:=el.few;refine wpList_append_own w hgd s x t ho base e i z k bytes el.ut hi hz hsz hby el.cells el.pos v n xs hs hown ⟨g,0,none⟩ 1 1 us hx (by omega) ?_ h1 ?_ ?_ hbase ?_
 ·intro j u' hj;rw [add_off',Nat.zero_add];exact hnew j u' hj
 ·unfold maxLen;omega
 ·have:(n+1)*bytes<=(n+1)*1024:=Nat.mul_le_mul_left _ hf;omega
 ·intro v' w' hown' hg hnil;refine h v' w' hown' hg ?_;rcases hown'.2 with ⟨_,h0⟩ | ⟨g',cap,cur,hv,hb,hh,hc,hm,_⟩
  ·omega
  ·refine ⟨g',cap,hv,hb,?_,hc,hm⟩;rcases Nat.lt_or_ge g' w'.heap.size with hlt | hge
   ·exact hlt
   ·rw [Array.getElem?_eq_none hge] at hh;cases hh
where
 add_off' {b o n:Nat}:(⟨b,o,none⟩:Addr).add n=⟨b,o+n,none⟩:=by
  unfold Addr.add;split
  ·rename_i h;subst h;rfl
  ·rfl
end
section
open Go.RowKit
def mayB (s:ByteArray):Bool:=decide (s.size<=160)&&decide ((parentS s).size<=111)&&(decide ((piecesOf s).length<=6)&&(piecesOf s).all (fun x=>nameB x.toList))
theorem parentS_le (s:ByteArray):(parentS s).size<=s.size:=by
 unfold parentS;simp;omega
theorem piecesOf_len (s:ByteArray):(piecesOf s).length=Lib.countB s ⟨#[47]⟩+1:=Lib.splitB_all _ (by decide) 0 _ s rfl
theorem splitSlash (s:ByteArray) (w:World) (hs:s.size<4294967281) (E:Env w) :
  Calls prog 156 #[.string s,.string ⟨#[47]⟩] w fun e w' =>
   e=.returned (.slice (some ⟨w.heap.size,0,none⟩) (piecesOf s).length (piecesOf s).length)/\w'=w.alloc (.cells ((piecesOf s).map Value.string).toArray 9):=by
 obtain ⟨m,hm⟩:=E.maxlen;rw [piecesOf_len];exact Tryz.strings_Split s ⟨#[47]⟩ m _ hs hm (by decide)
theorem countB_le (s:ByteArray):Lib.countB s ⟨#[47]⟩<=s.size:=Lib.countB_le ⟨#[47]⟩ (by decide) s.size s (Nat.le_refl _)
theorem splitB_sizes (sep:ByteArray):∀ (n:Nat) (s:ByteArray) (x:ByteArray),x∈Lib.splitB sep 0 n s->x.size<=s.size:=by
 intro n
 induction n with
 | zero=>intro s x h;simp [Lib.splitB] at h;subst h;exact Nat.le_refl _
 | succ n ih =>
  intro s x h;unfold Lib.splitB at h;split at h
  ·simp at h;subst h;exact Nat.le_refl _
  ·rcases List.mem_cons.1 h with h | h
   ·subst h;simp;omega
   ·have:=ih _ _ h;simp at this;omega
theorem piecesOf_sizes (s x:ByteArray) (h:x∈piecesOf s):x.size<=s.size:=splitB_sizes _ _ _ _ h
set_option maxHeartbeats 800000 in
theorem may_any (s:ByteArray) (w:World) (hs:s.size<4294967281) (E:Env w) :
  Calls prog 92 #[.string s] w fun e w'=>e=.returned (.bool (mayB s))/\Ext w w':=by
 have hlb:=countB_le s;have hln:=piecesOf_len s;by_cases h1:s.size<=160
 ·have hp:=parentS_le s;by_cases h2:(parentS s).size<=111
  ·have hfin:mayB s=(decide ((piecesOf s).length<=6)&&(piecesOf s).all (fun x=>nameB x.toList)):=by simp [mayB,h1,h2]
   have HF:=lh hfin;clear hfin;have HS:=fun w=>lh (split_any s w (by omega));have HSP:=fun w E=>lh (splitSlash s w hs E);have hsz:=piecesOf_sizes s;generalize hP:parentS s=P at *;generalize piecesOf s=l at *;have HP:=lh hP;clear hP;have hl6:l.length<=4294967281:=by omega
   clear hln hlb;go_enter func92,ntmps92;go_wp2_with fail;refine ((HS w).out).mono ?_;rintro e w1 ⟨rfl,n,rfl⟩;go_wp2_with fail;refine ((HSP _ (E.ext ((Ext.refl w).drewN n))).out).mono ?_;rintro e w1 ⟨rfl,rfl⟩;go_wp2_with fail;generalize hg:decide ((l.length:Int)<=6)=g;have HG:=lh hg;clear hg;go_loopw [9,31] (fun _ i wr=>∃ k:Nat,k<=l.length/\i=.int .i64 k/\wr=((w.drewN n).alloc (.cells (l.map Value.string).toArray 9)).alloc (.cells #[.bool (g&&(l.take k).all (fun x=>nameB x.toList))] 4)) (fun _ i _=>l.length - (intOf i).toNat)
   case atStart=>exact ⟨0,Nat.zero_le _,rfl,by simp⟩
   case round =>
    obtain ⟨k,hk,rfl,rfl⟩:=hrel;generalize hgk:(g&&(l.take k).all (fun x=>nameB x.toList))=gk;have HGK:=lh hgk;clear hgk;by_cases hlt:k<l.length
    ·obtain ⟨x,hx⟩:∃ x,l[k]?=some x:=⟨_,List.getElem?_eq_getElem hlt⟩
     have hcx:((((w.drewN n).alloc (.cells (l.map Value.string).toArray 9)).alloc (.cells #[.bool gk] 4))).cell? ⟨w.heap.size,k,none⟩=some (.string x):=by
      rw [cell_alloc_old (by simp),cell_alloc_new (by simp)];simp [hx]
     have hxs:=hsz x (List.mem_of_getElem? hx);have HX:=lh hx;clear hx;go_wp2_with fail;refine (mayEach_any x _ gk _ (by unfold maxLen;omega) ?h1 ?h2).mono ?_
     case h1=>rw [cell_alloc_new (by simp)];rfl
     case h2=>exact frozen_alloc_new (by simp)
     rintro e w1 ⟨rfl,rfl⟩;go_wp2_with fail;go_roundw
     case rel=>exact ⟨k+1,by omega,by go_num,by rw [List.take_add_one,HX.out,List.all_append,<-HGK.out];simp [Bool.and_assoc]⟩
     case measure=>simp [intOf];omega
    ·have:k=l.length:=by omega
     subst this;go_wp2_with fail;go_ret;exact ⟨ret_bool (by rw [HF.out,<-HGK.out,<-HG.out,List.take_length];rw [show decide ((l.length:Int)<=6)=decide (l.length<=6) from by rw [decide_eq_decide];omega]),(((Ext.refl w).drewN n).alloc _).alloc _⟩
  ·have hf:mayB s=false:=by simp [mayB,h2]
   have HF:=lh hf;clear hf;have HS:=fun w=>lh (split_any s w (by omega));generalize parentS s=P at *;go_enter func92,ntmps92;go_wp2_with fail;refine ((HS w).out).mono ?_;rintro e w1 ⟨rfl,n,rfl⟩;go_wp2_with fail;go_ret;exact ⟨ret_bool HF.out.symm,(Ext.refl w).drewN n⟩
 ·have hf:mayB s=false:=by simp [mayB,h1]
  have HF:=lh hf;clear hf;have HS:=fun w=>lh (split_any s w (by omega));generalize parentS s=P at *;go_enter func92,ntmps92;go_wp2_with fail;refine ((HS w).out).mono ?_;rintro e w1 ⟨rfl,n,rfl⟩;go_wp2_with fail;go_ret;exact ⟨ret_bool HF.out.symm,(Ext.refl w).drewN n⟩
end
section
def splitAux (cur:List UInt8):List UInt8->List (List UInt8)
 | []=>[cur]
 | c::cs=>if c=47 then cur::splitAux [] cs else splitAux (cur++[c]) cs
def piecesL (l:List UInt8):List (List UInt8):=splitAux [] l
theorem splitAux_ne:∀ (l cur:List UInt8),splitAux cur l≠[]
 | [],_=>by simp [splitAux]
 | c::cs,cur=>by
  unfold splitAux;split
  ·simp
  ·exact splitAux_ne cs _
theorem splitAux_no:∀ (l cur:List UInt8),47∉l->splitAux cur l=[cur++l]
 | [],cur,_=>by simp [splitAux]
 | c::cs,cur,h=>by
  have hc:¬ c=47:=fun e=>h (by simp [e]);unfold splitAux;rw [if_neg hc,splitAux_no cs _ (fun hm=>h (by simp [hm]))];simp
theorem splitAux_at:∀ (a cur b:List UInt8),splitAux cur (a++47::b)=splitAux cur a++splitAux [] b
 | [],cur,b=>by simp [splitAux]
 | c::cs,cur,b=>by
  show splitAux cur (c::(cs++47::b))=_
  by_cases hc:c=47
  ·have e1:splitAux cur (c::(cs++47::b))=cur::splitAux [] (cs++47::b):=by rw [splitAux,if_pos hc]
   have e2:splitAux cur (c::cs)=cur::splitAux [] cs:=by rw [splitAux,if_pos hc]
   rw [e1,e2,splitAux_at cs [] b];rfl
  ·have e1:splitAux cur (c::(cs++47::b))=splitAux (cur++[c]) (cs++47::b):=by rw [splitAux,if_neg hc]
   have e2:splitAux cur (c::cs)=splitAux (cur++[c]) cs:=by rw [splitAux,if_neg hc]
   rw [e1,e2,splitAux_at cs _ b]
theorem index_slash:∀ (l:List UInt8),(Lib.index l [47]=-1/\47∉l)\/(∃ a b,l=a++47::b/\47∉a/\Lib.index l [47]=a.length)
 | []=>.inl ⟨rfl,by simp⟩
 | c::cs=>by
  by_cases hc:c=47
  ·subst hc;exact .inr ⟨[],cs,rfl,by simp,by simp [Lib.index,List.isPrefixOf]⟩
  ·have hp:List.isPrefixOf [47] (c::cs)=false:=by
    simp only [List.isPrefixOf,Bool.and_eq_false_iff,beq_eq_false_iff_ne];exact .inl (fun e=>hc e.symm)
   have e:Lib.index (c::cs) [47]=if Lib.index cs [47]==-1 then -1 else Lib.index cs [47]+1:=by
    rw [Lib.index,if_neg (by rw [hp];simp)]
   rcases index_slash cs with ⟨h1,h2⟩ | ⟨a,b,h1,h2,h3⟩
   ·refine .inl ⟨by rw [e,h1];rfl,?_⟩;intro hm;rcases List.mem_cons.1 hm with h | h
    ·exact hc h.symm
    ·exact h2 h
   ·refine .inr ⟨c::a,b,by rw [h1];rfl,?_,?_⟩
    ·intro hm;rcases List.mem_cons.1 hm with h | h
     ·exact hc h.symm
     ·exact h2 h
    ·rw [e,h3,if_neg (by rw [beq_iff_eq];omega)];simp
theorem splitK_pieces:∀ (k:Nat) (l:List UInt8),l.count 47<=k->Lib.splitK [47] 0 k l=piecesL l
 | 0,l,h=>by
  have:47∉l:=List.count_eq_zero.1 (by omega);unfold piecesL;rw [splitAux_no l [] this];rfl
 | k+1,l,h=>by
  unfold Lib.splitK;rcases index_slash l with ⟨h1,h2⟩ | ⟨a,b,h1,h2,h3⟩
  ·rw [h1,if_pos (by rfl)];unfold piecesL;rw [splitAux_no l [] h2];rfl
  ·rw [h3,if_neg (by rw [beq_iff_eq];omega)];have e1:(l.take (((a.length:Nat):Int).toNat+0))=a:=by rw [h1];simp
   have e2:(l.drop (((a.length:Nat):Int).toNat+[(47:UInt8)].length))=b:=by
    rw [h1];simp
   rw [e1,e2]
   have hc:b.count 47<=k:=by
    rw [h1,List.count_append,List.count_cons_self] at h;omega
   rw [splitK_pieces k b hc,h1];unfold piecesL;rw [splitAux_at,splitAux_no a [] h2];rfl
theorem piecesOf_toList (s:ByteArray):(piecesOf s).map (·.toList)=piecesL s.toList:=by
 have h:=Lib.splitB_data ⟨#[47]⟩ 0 (Lib.countB s ⟨#[47]⟩) s;have e:Lib.countB s ⟨#[47]⟩=s.data.toList.count 47:=Lib.count_one 47 _;unfold piecesOf;rw [show (fun x:ByteArray=>x.toList)=fun x=>x.data.toList from funext Lib.toList_data,h,Lib.toList_data];exact splitK_pieces _ _ (by rw [e];exact Nat.le_refl _)
theorem piecesL_ne (l:List UInt8):piecesL l≠[]:=splitAux_ne _ _
def baseL (l:List UInt8):List UInt8:=(piecesL l).getLast (piecesL_ne l)
def aheadL (l:List UInt8):List UInt8:=l.take (l.length - (baseL l).length - 1)
theorem baseL_no {l:List UInt8} (h:47∉l):baseL l=l:=by
 unfold baseL piecesL;simp only [splitAux_no l [] h];rfl
theorem baseL_at (a b:List UInt8) (h:47∉b):baseL (a++47::b)=b:=by
 unfold baseL piecesL;simp only [splitAux_at,splitAux_no b [] h];simp
theorem aheadL_no {l:List UInt8} (h:47∉l):aheadL l=[]:=by
 unfold aheadL;rw [baseL_no h];simp
theorem aheadL_at (a b:List UInt8) (h:47∉b):aheadL (a++47::b)=a:=by
 unfold aheadL;rw [baseL_at a b h];have:(a++47::b).length - b.length - 1=a.length:=by simp;omega
 rw [this];simp
theorem last_slash (l:List UInt8):47∉l\/∃ a b,l=a++47::b/\47∉b:=by
 induction l with
 | nil=>exact .inl (by simp)
 | cons c cs ih =>
  rcases ih with h | ⟨a,b,h1,h2⟩
  ·by_cases hc:c=47
   ·exact .inr ⟨[],cs,by rw [hc];rfl,h⟩
   ·refine .inl fun hm=>?_;rcases List.mem_cons.1 hm with h' | h'
    ·exact hc h'.symm
    ·exact h h'
  ·exact .inr ⟨c::a,b,by rw [h1];rfl,h2⟩
theorem lastIndexByte_no {s:ByteArray} {c:UInt8} (h:c∉s.toList):Lib.lastIndexByte s c.toNat=-1:=by
 rcases Lib.lastIdx_spec s c.toNat s.size with ⟨h1,_⟩ | ⟨i,hi,h1,h2,_⟩
 ·exact h1
 ·exfalso;rw [getElem!_pos s.data i (by simpa using hi)] at h2;have e:s.data[i]=c:=UInt8.toNat_inj.1 (by omega);apply h;rw [Lib.toList_data,<-e];exact Array.getElem_mem_toList _
theorem lastIndexByte_at {s:ByteArray} {c:UInt8} {a b:List UInt8} (h:s.toList=a++c::b) (hb:c∉b):Lib.lastIndexByte s c.toNat=a.length:=by
 have hsz:s.size=a.length+(b.length+1):=by rw [<-len_toList,h];simp
 have hk:∀ k (hk:k<s.size),(s.data[k]'(by simpa using hk))=(a++c::b)[k]'(by rw [<-h,len_toList];exact hk):=by
  intro k hk;have:s.data.toList=a++c::b:=by rw [<-Lib.toList_data];exact h
  simp only [<-this];rfl
 rcases Lib.lastIdx_spec s c.toNat s.size with ⟨_,h2⟩ | ⟨i,hi,h1,h2,h3⟩
 ·exfalso;have:=h2 a.length (by omega);rw [getElem!_pos s.data a.length (by show _<s.size;omega),hk a.length (by omega)] at this;apply this;simp
 ·have e:Lib.lastIndexByte s c.toNat=i:=h1;rw [e];rcases Nat.lt_trichotomy i a.length with hlt | heq | hgt
  ·exfalso;have:=h3 a.length hlt (by omega);rw [getElem!_pos s.data a.length (by show _<s.size;omega),hk a.length (by omega)] at this;apply this;simp
  ·omega
  ·exfalso;rw [getElem!_pos s.data i (by simpa using hi),hk i hi] at h2;have e2:(a++c::b)[i]'(by rw [<-h,len_toList];exact hi)=c:=UInt8.toNat_inj.1 (by omega);rw [List.getElem_append_right (by omega)] at e2;obtain ⟨t,ht⟩:∃ t,i - a.length=t+1:=⟨i - a.length - 1,by omega⟩;simp only [ht,List.getElem_cons_succ] at e2;exact hb (by rw [<-e2];exact List.getElem_mem _)
theorem split_toList (s:ByteArray):(parentS s).toList=aheadL s.toList/\(baseS s).toList=baseL s.toList:=by
 unfold parentS baseS;rcases last_slash s.toList with h | ⟨a,b,h,hb⟩
 ·have e:=lastIndexByte_no (c:=47) h;have e':Lib.lastIndexByte s 47=-1:=e;rw [e',aheadL_no h,baseL_no h,toList_extract,toList_extract];simp [<-len_toList];exact .inl (by decide)
 ·have e:=lastIndexByte_at (c:=47) h hb;have e':Lib.lastIndexByte s 47=a.length:=e;rw [e',h,aheadL_at a b hb,baseL_at a b hb,toList_extract,toList_extract,h];have hsz:s.size=a.length+(b.length+1):=by rw [<-len_toList,h];simp
  rw [hsz];constructor
  ·have:(max (a.length:Int) 0).toNat=a.length:=by omega
   rw [this];simp
  ·have:((a.length:Int)+1).toNat=a.length+1:=by omega
   rw [this];simp only [List.drop_append];rw [List.drop_of_length_le (by omega),show a.length+1 - a.length=1 from by omega];simp;rw [List.take_of_length_le (by omega)]
def mayL (l:List UInt8):Bool:=decide (l.length<=160)&&decide ((aheadL l).length<=111)&&(decide ((piecesL l).length<=6)&&(piecesL l).all nameB)
theorem mayB_list (s:ByteArray):mayB s=mayL s.toList:=by
 unfold mayB mayL;have h1:=(split_toList s).1;rw [<-piecesOf_toList s,<-h1,len_toList,len_toList,List.length_map,List.all_map];rfl
end
section
open Go.RowKit
structure Nd where
 kind:Int
 data:ByteArray
 target:ByteArray
 time:Int
deriving DecidableEq
def nv (n:Nd):Value:=.agg #[.int .i64 n.kind,.string n.data,.string n.target,.int .i64 n.time]
def nd0:Nd:=⟨0,⟨#[]⟩,⟨#[]⟩,0⟩
abbrev Nodes:=List (ByteArray×Nd)
def findA:Nodes->ByteArray->Option Nd
 | [],_=>none
 | (k,n)::r,s=>if k=s then some n else findA r s
def dropA (l:Nodes) (s:ByteArray):Nodes:=l.filter fun x=>!decide (x.1=s)
theorem findA_none {l:Nodes} {s:ByteArray} (h:∀ x∈l,x.1≠s):findA l s=none:=by
 induction l with
 | nil=>rfl
 | cons x r ih =>
  obtain ⟨k,n⟩:=x;unfold findA;rw [if_neg (h (k,n) (by simp)),ih fun y hy=>h y (by simp [hy])]
theorem findA_mem {l:Nodes} {s:ByteArray} {n:Nd} (h:findA l s=some n):(s,n)∈l:=by
 induction l with
 | nil=>cases h
 | cons x r ih =>
  obtain ⟨k,m⟩:=x;unfold findA at h;split at h
  ·rename_i e;cases h;subst e;simp
  ·exact List.mem_cons_of_mem _ (ih h)
theorem findA_of_mem {l:Nodes} {s:ByteArray} {n:Nd} (hn:(l.map (·.1)).Nodup) (h:(s,n)∈l):findA l s=some n:=by
 induction l with
 | nil=>cases h
 | cons x r ih =>
  obtain ⟨k,m⟩:=x;rw [List.map_cons,List.nodup_cons] at hn;unfold findA;rcases List.mem_cons.1 h with e | e
  ·cases e;rw [if_pos rfl]
  ·rw [if_neg (fun ek=>hn.1 (by rw [show k=s from ek];exact List.mem_map.2 ⟨_,e,rfl⟩)),ih hn.2 e]
theorem findA_isSome {l:Nodes} {s:ByteArray}:(findA l s).isSome=true↔s∈l.map (·.1):=by
 constructor
 ·intro h;obtain ⟨n,hn⟩:=Option.isSome_iff_exists.1 h;exact List.mem_map.2 ⟨_,findA_mem hn,rfl⟩
 ·intro h
  cases e:findA l s with
  | some n=>rfl
  | none =>
   exfalso
   induction l with
   | nil=>cases h
   | cons x r ih =>
    obtain ⟨k,m⟩:=x;unfold findA at e;split at e
    ·cases e
    ·rename_i hne;rw [List.map_cons,List.mem_cons] at h;rcases h with h | h
     ·exact hne h.symm
     ·exact ih h e
theorem findA_drop (l:Nodes) (s x:ByteArray):findA (dropA l s) x=if x=s then none else findA l x:=by
 induction l with
 | nil=>unfold dropA;simp [findA]
 | cons y r ih =>
  obtain ⟨k,m⟩:=y;unfold dropA at *;rw [List.filter_cons];by_cases hk:k=s
  ·subst hk;rw [if_neg (by simp),ih];by_cases hx:x=k
   ·rw [if_pos hx,if_pos hx]
   ·rw [if_neg hx,if_neg hx,findA,if_neg (Ne.symm hx)]
  ·rw [if_pos (by simpa using hk),findA,ih];by_cases hx:x=s
   ·subst hx;simp [hk]
   ·rw [if_neg hx,if_neg hx,findA]
theorem dropA_nodup {l:Nodes} (h:(l.map (·.1)).Nodup) (s:ByteArray):((dropA l s).map (·.1)).Nodup:=by
 unfold dropA;exact (List.Sublist.map _ (List.filter_sublist)).nodup h
theorem perm_find {l m:Nodes} (hl:(l.map (·.1)).Nodup) (h:l.Perm m) (s:ByteArray):findA l s=findA m s:=by
 have hm:(m.map (·.1)).Nodup:=(h.map _).nodup_iff.1 hl
 cases e:findA m s with
 | some n=>exact findA_of_mem hl (h.mem_iff.2 (findA_mem e))
 | none =>
  cases e2:findA l s with
  | none=>rfl
  | some n=>rw [findA_of_mem hm (h.mem_iff.1 (findA_mem e2))] at e;cases e
end
section
open Go.RowKit
theorem el_string:Elem prog 54 9 (.string ByteArray.empty) 16:=⟨by kernel_rfl,by kernel_rfl,rfl,by decide⟩
theorem own_block_ge {w:World} {base:Nat} {e:TypeId} {v:Value} {n:Nat} {xs:List Value} (h:w.ownsRow base e 1 v n xs):∀ k,v.ownBlock=some k->base<=k:=by
 intro k hk;rcases h.2 with ⟨h1,_⟩ | ⟨g,cap,cur,hv,hb,_⟩
 ·subst h1;simp [Value.ownBlock] at hk
 ·subst hv;simp [Value.ownBlock] at hk;omega
theorem splitAux_step (s:ByteArray) (f k:Nat) (hk:k<s.size) (hf:f<=k) :
  (s[k]=47->splitAux ((s.toList.drop f).take (k - f)) (s.toList.drop k)=(s.extract f k).toList::splitAux ((s.toList.drop (k+1)).take (k+1 - (k+1))) (s.toList.drop (k+1))) /\
  (s[k]≠47->splitAux ((s.toList.drop f).take (k - f)) (s.toList.drop k)=splitAux ((s.toList.drop f).take (k+1 - f)) (s.toList.drop (k+1))):=by
 have hk':k<s.toList.length:=by rw [len_toList];exact hk
 have hg:s.toList[k]=s[k]:=by
  have:=getElem_toList s k hk;rw [List.getElem?_eq_getElem hk'] at this;exact Option.some.inj this
 rw [List.drop_eq_getElem_cons hk',hg];constructor
 ·intro h;rw [splitAux,if_pos h,toList_extract];simp
 ·intro h;rw [splitAux,if_neg h,show k+1 - f=(k - f)+1 from by omega,List.take_add_one,List.getElem?_drop,show f+(k - f)=k from by omega,List.getElem?_eq_getElem hk',hg];rfl
set_option maxRecDepth 100000 in
set_option maxHeartbeats 1600000 in
theorem pieces_any (s:ByteArray) (w:World) (hs:s.size<4294967281) :
  Calls prog 167 #[.string s] w fun e w'=>∃ (v:Value) (l:List ByteArray),e=.returned v/\l.map (·.toList)=piecesL s.toList/\CellsAt w' v (l.map Value.string)/\Ext w w':=by
 go_enter func167,ntmps167;go_wp2
 go_loopw [3,4,5] (fun v f i wr=>∃ (k from_:Nat) (acc:List ByteArray),k<=s.size/\from_<=k/\i=.int .i64 k/\f=.int .i64 from_/\acc.length<=k /\
   Hid (piecesL s.toList=acc.map (·.toList)++splitAux ((s.toList.drop from_).take (k - from_)) (s.toList.drop k))/\wr.ownsRow w.heap.size 9 1 v acc.length (acc.map Value.string)/\Below w.heap.size w wr)
  (fun _ _ i _=>s.size - (intOf i).toNat)
 case atStart=>exact ⟨0,0,[],Nat.zero_le _,Nat.zero_le _,rfl,rfl,Nat.zero_le _,by simp [Hid,piecesL],World.ownsRow_nil _ _ _ _,Below.refl _ _⟩
 case round =>
  obtain ⟨k,f,acc,hk,hf,rfl,rfl,hacc,H,hown,hb⟩:=hrel;by_cases hlt:k<s.size
  ·obtain ⟨S1,S2⟩:=splitAux_step s f k hlt hf;by_cases hc:s[k]=47
   ·have d1:((s[k].toNat:Int)==47)=true:=by simp [hc]
    have HN:=lh (S1 hc);clear hc S1 S2;go_wp2_with (at_builtin;refine append_one el_string w.heap.size _ _ _ (hown.alloc _) wr.heap.size (.string (s.extract f k)) (.tmp 16) (.tmp 21) rfl rfl rfl rfl ?c1 rfl (by omega) ?c2 ?_)
    case c1=>rw [cell_alloc_new rfl];rfl
    case c2=>have:=hb.size;simp;omega
    intro v' w1 hown1 hgr1 hv1;go_wp2;go_roundw
    case rel =>
     refine ⟨k+1,k+1,acc++[s.extract f k],by omega,by omega,by go_num,by go_num,by simp;omega,?_,by simpa using hown1,(hb.alloc hb.size _).grown hgr1 (by have:=hb.size;simp;omega) ?_⟩
     ·unfold Hid;rw [H.out,HN.out];simp
     ·exact own_block_ge hown
    case measure=>simp [intOf];omega
   ·have d1:=toNat_ne47 hc;have HN:=lh (S2 hc);clear hc S1 S2;go_wp2;go_roundw
    case rel=>exact ⟨k+1,f,acc,by omega,by omega,by go_num,rfl,by omega,by unfold Hid;rw [H.out,HN.out],hown,hb⟩
    case measure=>simp [intOf];omega
  ·have:k=s.size:=by omega
   subst this
   have HN:=lh (H.out.trans (show _=(acc++[s.extract f s.size]).map (·.toList) by
    have hd:s.toList.drop s.size=[]:=List.drop_of_length_le (by rw [len_toList];exact Nat.le_refl _);rw [hd]
    simp [splitAux,toList_extract]))
   go_wp2_with (at_builtin;refine append_one el_string w.heap.size _ _ _ (hown.alloc _) wr.heap.size (.string (s.extract f s.size)) (.tmp 25) (.tmp 29) rfl rfl rfl rfl ?d1 rfl (by omega) ?d2 ?_)
   case d1=>rw [cell_alloc_new rfl];rfl
   case d2=>have:=hb.size;simp;omega
   intro v' w1 hown1 hgr1 hv1;go_wp2;go_ret;refine ⟨v',acc++[s.extract f s.size],rfl,HN.out.symm,CellsAt.of_owns (base:=w.heap.size) (e:=9) (by simpa using hown1),?_⟩;exact (hb.alloc hb.size _).grown hgr1 (by have:=hb.size;simp;omega) (own_block_ge hown)
theorem map_toList_inj:∀ {l m:List ByteArray},l.map (·.toList)=m.map (·.toList)->l=m
 | [],[],_=>rfl
 | [],_::_,h=>by simp at h
 | _::_,[],h=>by simp at h
 | a::l,b::m,h=>by
  simp only [List.map_cons,List.cons.injEq] at h;rw [ba_ext h.1,map_toList_inj h.2]
theorem pieces_of (s:ByteArray) (w:World) (hs:s.size<4294967281) :
  Calls prog 167 #[.string s] w fun e w'=>∃ v,e=.returned v/\CellsAt w' v ((piecesOf s).map Value.string)/\Ext w w' :=
 (pieces_any s w hs).mono fun e w' ⟨v,l,he,hl,hc,hx⟩=>⟨v,he,by rw [<-map_toList_inj (hl.trans (piecesOf_toList s).symm)];exact hc,hx⟩
def bsL (l:List UInt8):ByteArray:=⟨l.toArray⟩
theorem bsL_toList (l:List UInt8):(bsL l).toList=l:=toList_mk l
theorem pieces_last {s:ByteArray} {l:List ByteArray} (h:l.map (·.toList)=piecesL s.toList):l≠[]/\∀ x,l[l.length - 1]?=some x->x=baseS s:=by
 have hne:l≠[]:=by
  intro e;subst e;exact splitAux_ne _ _ h.symm
 refine ⟨hne,fun x hx=>ba_ext ?_⟩;rw [(split_toList s).2];unfold baseL;rw [List.getLast_eq_getElem];have hl:(piecesL s.toList).length=l.length:=by rw [<-h,List.length_map]
 have:(piecesL s.toList)[(piecesL s.toList).length - 1]?=some x.toList:=by
  rw [hl,<-h,List.getElem?_map,hx];rfl
 exact ((List.getElem?_eq_some_iff.1 this).2).symm
set_option maxHeartbeats 800000 in
theorem last_any (s:ByteArray) (w:World) (hs:s.size<4294967281) :
  Calls prog 169 #[.string s] w fun e w'=>e=.returned (.string (baseS s))/\Ext w w':=by
 go_enter func169,ntmps169;go_wp2_with fail;refine (pieces_any s w hs).mono ?_;rintro e w1 ⟨v,l,rfl,hl,hc,x1⟩;obtain ⟨hne,hlast⟩:=pieces_last hl;have hll:l.length≠0:=fun e=>hne (List.length_eq_zero_iff.1 e);rcases hc with ⟨_,h0⟩ | ⟨g,cap,rfl,hg,hcap,hm,hcells⟩
 ·exact absurd (by simpa using h0) hne
 ·obtain ⟨x,hx⟩:∃ x,l[l.length - 1]?=some x:=⟨_,List.getElem?_eq_getElem (by omega)⟩;have hcx:=hcells (l.length - 1) (.string x) (by rw [List.getElem?_map,hx];rfl);have HE:=lh (hlast x hx);have hl2:(List.map Value.string l).length=l.length:=List.length_map ..;simp only [hl2] at hcap;rw [hl2];unfold maxLen at hm;clear hlast hl hcells hne hx hl2;generalize l.length=n at *;have HX:=lh x1;clear x1;go_wp2;go_ret;exact ⟨ret_str HE.out,HX.out⟩
def aheadS (s:ByteArray):ByteArray:=bsL (aheadL s.toList)
theorem aheadS_eq (s:ByteArray):aheadS s=parentS s:=ba_ext (by rw [aheadS,bsL_toList,(split_toList s).1])
theorem base_lt (s:ByteArray):(baseS s).size<=s.size:=by unfold baseS;simp
set_option maxHeartbeats 800000 in
theorem ahead_any (s:ByteArray) (w:World) (hs:s.size<4294967281) :
  Calls prog 104 #[.string s] w fun e w'=>e=.returned (.string (parentS s))/\Ext w w':=by
 have hb:=base_lt s;have HA:=lh (show (aheadS s)=parentS s from aheadS_eq s);have hbl:(baseS s).size=(baseL s.toList).length:=by rw [<-len_toList,(split_toList s).2]
 have HL:=lh (last_any s w hs);have e1:(s.size:Int) - (baseS s).size - 1<0->aheadS s=⟨#[]⟩:=fun h=>ba_ext (by rw [aheadS,bsL_toList,aheadL,len_toList,<-hbl];simp;left;omega)
 have e2:0<=(s.size:Int) - (baseS s).size - 1->aheadS s=s.extract 0 (s.size - (baseS s).size - 1):=fun h=>ba_ext (by
  rw [aheadS,bsL_toList,aheadL,toList_extract,len_toList,<-hbl];simp only [List.drop_zero];congr 1)
 have HE1:=lh e1;have HE2:=lh e2;clear e1 e2 hbl;generalize baseS s=b at *;by_cases h:(s.size:Int) - b.size - 1<0
 ·have HF:=lh (HA.out.symm.trans (HE1.out h));clear HE1 HE2;go_enter func104,ntmps104;go_wp2_with fail;refine HL.out.mono ?_;rintro e w1 ⟨rfl,x1⟩;go_wp2;go_ret;exact ⟨ret_str HF.out.symm,x1⟩
 ·have HF:=lh (HA.out.symm.trans (HE2.out (by omega)));clear HE1 HE2;go_enter func104,ntmps104;go_wp2_with fail;refine HL.out.mono ?_;rintro e w1 ⟨rfl,x1⟩;go_wp2;go_ret;exact ⟨ret_str HF.out.symm,x1⟩
end
section
open Go.RowKit
set_option maxHeartbeats 400000 in
theorem refName_any (s:ByteArray) (w:World) (hs:s.size<=maxLen) :
  Calls prog 168 #[.string s] w fun e w'=>e=.returned (.bool (nameB s.toList))/\w'=w:=by
 unfold maxLen at hs;by_cases h1:1<=s.size/\s.size<=48
 ·obtain ⟨h1,h2⟩:=h1
  cases h3:s.toList==[46]
  ·cases h4:s.toList==[46,46]
   ·go_enter func168,ntmps168;go_wp2;go_loop [3] (fun i=>∃ k:Nat,k<=s.size/\i=.int .i64 k/\(s.toList.take k).all okByte=true) (fun i=>s.size - (intOf i).toNat)
    case atStart=>exact ⟨0,Nat.zero_le _,rfl,rfl⟩
    case round =>
     obtain ⟨k,hk,rfl,hall⟩:=hrel;have H:=lh hall;clear hall;by_cases hlt:k<s.size
     ·have HB:=lh (nameB_bad s k hlt);have HT:=lh (take_snoc s k hlt)
      cases hb:okByte s[k]
      ·have hb':=hb;have H2:=lh hb;clear hb;simp only [okByte,Bool.not_eq_false',Bool.or_eq_true,decide_eq_true_eq,beq_iff_eq] at hb';go_wp2
       all_goals (first | (go_ret;exact ⟨ret_bool (HB.out H2.out).symm,rfl⟩) | (exfalso;simp at *;omega))
      ·have hb':=hb;have H2:=lh hb;clear hb;simp only [okByte,Bool.not_eq_true',Bool.or_eq_false_iff,decide_eq_false_iff_not] at hb';obtain ⟨⟨b1,b2⟩,b3⟩:=hb';go_wp2;go_round
       case rel=>exact ⟨k+1,by omega,by go_num,by rw [HT.out,List.all_append,H.out];simp [H2.out]⟩
       case measure=>simp [intOf];omega
     ·have:k=s.size:=by omega
      subst this;go_wp2;go_ret;exact ⟨ret_bool (nameB_good s h1 h2 h3 h4 (by have:=H.out;rwa [List.take_of_length_le (by rw [len_toList];omega)] at this)).symm,rfl⟩
   ·go_enter func168,ntmps168;go_wp2;go_ret;exact ⟨ret_bool (by simp [nameB,h4]),rfl⟩
  ·go_enter func168,ntmps168;go_wp2;go_ret;exact ⟨ret_bool (by simp [nameB,h3]),rfl⟩
 ·have hf:nameB s.toList=false:=by
   simp only [nameB,len_toList];by_cases h:1<=s.size
   ·have:¬ s.size<=48:=by omega
    simp [this]
   ·simp [h]
  have HF:=lh hf;clear hf;go_enter func168,ntmps168;go_wp2
  all_goals (first | (go_ret;exact ⟨ret_bool HF.out.symm,rfl⟩) | (exfalso;simp at *;omega))
set_option maxHeartbeats 1600000 in
theorem refMay_any (s:ByteArray) (w:World) (hs:s.size<4294967281) :
  Calls prog 103 #[.string s] w fun e w'=>e=.returned (.bool (mayB s))/\Ext w w':=by
 have hpar:=parentS_le s;have HPC:=lh (pieces_of s w hs);have HAH:=fun w=>lh (ahead_any s w hs);have hsz:=piecesOf_sizes s;have hln:=piecesOf_len s;have hlb:=countB_le s;have hfin:mayB s=(decide (s.size<=160)&&decide ((parentS s).size<=111)&&(decide ((piecesOf s).length<=6)&&(piecesOf s).all (fun x=>nameB x.toList))):=rfl;have HF:=lh hfin;clear hfin;generalize parentS s=P at *;have hne:(piecesOf s).length≠0:=by omega
 have hl6:(piecesOf s).length<=4294967281:=by omega
 generalize piecesOf s=l at *;clear hln hlb;go_enter func103,ntmps103;go_wp2_with fail;refine HPC.out.mono ?_;rintro e w1 ⟨v,rfl,hc,x1⟩;rcases hc with ⟨_,h0⟩ | ⟨g,cap,rfl,hg,hcap,hm,hcells⟩
 ·exact absurd (by simpa using congrArg List.length h0) hne
 ·have hl2:(List.map Value.string l).length=l.length:=List.length_map ..;rw [hl2] at hcap ⊢;unfold maxLen at hm;have HX:=lh x1;have HC:=lh hcells;clear x1 hcells hl2;by_cases h1:s.size<=160
  ·by_cases h2:P.size<=111
   ·by_cases h3:l.length<=6
    ·have HF2:=lh (show mayB s=l.all (fun x=>nameB x.toList) by rw [HF.out];simp [h1,h2,h3]);go_wp2_with fail;refine (HAH _).out.mono ?_;rintro e w2 ⟨rfl,x2⟩;go_wp2_with fail;have X:=HX.out.trans x2;go_loopw [4] (fun i wr=>∃ k:Nat,k<=l.length/\i=.int .i64 k/\Hid ((l.take k).all (fun x=>nameB x.toList)=true)/\Ext w1 wr) (fun i _=>l.length - (intOf i).toNat)
     case atStart=>exact ⟨0,Nat.zero_le _,rfl,rfl,x2⟩
     case round =>
      obtain ⟨k,hk,rfl,H,xr⟩:=hrel;by_cases hlt:k<l.length
      ·obtain ⟨x,hx⟩:∃ x,l[k]?=some x:=⟨_,List.getElem?_eq_getElem hlt⟩;have hcx:wr.cell? ⟨g,k,none⟩=some (.string x):=(xr.cell hg).trans (HC.out k _ (by rw [List.getElem?_map,hx];rfl));have hxs:=hsz x (List.mem_of_getElem? hx);have HN:=lh (refName_any x wr (by unfold maxLen;omega));have HX2:=lh hx;clear hx
       cases hn:nameB x.toList
       ·rw [hn] at HN
        have HF3:=lh (show mayB s=false by
         rw [HF2.out,List.all_eq_false];exact ⟨x,List.mem_of_getElem? HX2.out,by simp [hn]⟩)
        clear hn;go_wp2_with fail;refine HN.out.mono ?_;rintro e w3 ⟨rfl,rfl⟩;go_wp2_with fail;go_ret;exact ⟨ret_bool HF3.out.symm,HX.out.trans xr⟩
       ·rw [hn] at HN;have HK:=lh hn;clear hn;go_wp2_with fail;refine HN.out.mono ?_;rintro e w3 ⟨rfl,rfl⟩;go_wp2_with fail;go_roundw
        case rel=>exact ⟨k+1,by omega,by go_num,by unfold Hid;rw [List.take_add_one,HX2.out,List.all_append,H.out];simp [HK.out],xr⟩
        case measure=>simp [intOf];omega
      ·have:k=l.length:=by omega
       subst this;go_wp2_with fail;go_ret;exact ⟨ret_bool (by rw [HF2.out];have:=H.out;rw [List.take_length] at this;exact this.symm),HX.out.trans xr⟩
    ·have HF2:=lh (show mayB s=false by rw [HF.out];simp [h3]);go_wp2_with fail;refine (HAH _).out.mono ?_;rintro e w2 ⟨rfl,x2⟩;go_wp2_with fail;go_ret;exact ⟨ret_bool HF2.out.symm,HX.out.trans x2⟩
   ·have HF2:=lh (show mayB s=false by rw [HF.out];simp [h2]);go_wp2_with fail;refine (HAH _).out.mono ?_;rintro e w2 ⟨rfl,x2⟩;go_wp2_with fail;go_ret;exact ⟨ret_bool HF2.out.symm,HX.out.trans x2⟩
  ·have HF2:=lh (show mayB s=false by rw [HF.out];simp [h1]);go_wp2_with fail;go_ret;exact ⟨ret_bool HF2.out.symm,HX.out⟩
end
section
open Go.RowKit
def parentR (s:ByteArray):ByteArray:=if mayB s then parentS s else ⟨#[]⟩
def withinB (p d:ByteArray):Bool:=mayB p&&(d.toList.isEmpty||(mayB d&&Lib.hasPrefix p.toList (d.toList++[47])))
set_option maxHeartbeats 400000 in
theorem parent_any (s:ByteArray) (w:World) (hs:s.size<4294967281) (E:Env w) :
  Calls prog 30 #[.string s] w fun e w'=>e=.returned (.tuple #[.string (parentR s),.bool (mayB s)])/\Ext w w':=by
 have HM:=lh (may_any s w hs E);have HS:=fun w=>lh (split_any s w (by omega));unfold parentR;generalize parentS s=P at *
 cases h:mayB s
 ·rw [h] at HM;clear h;go_enter func30,ntmps30;go_wp2_with fail;refine HM.out.mono ?_;rintro e w1 ⟨rfl,x1⟩;go_wp2_with fail;go_ret2;exact ⟨rfl,x1⟩
 ·rw [h] at HM;clear h;go_enter func30,ntmps30;go_wp2_with fail;refine HM.out.mono ?_;rintro e w1 ⟨rfl,x1⟩;go_wp2_with fail;refine (HS _).out.mono ?_;rintro e w2 ⟨rfl,n,rfl⟩;go_wp2_with fail;go_ret2;exact ⟨rfl,x1.drewN n⟩
set_option maxHeartbeats 800000 in
theorem within_any (p d:ByteArray) (w:World) (hp:p.size<4294967281) (hd:d.size<4294967280) (E:Env w) :
  Calls prog 220 #[.string p,.string d] w fun e w'=>e=.returned (.bool (withinB p d))/\Ext w w':=by
 have HM:=lh (may_any p w hp E);have HD:=fun w E=>lh (may_any d w (by omega) E);have HP:=fun w=>lh (Tryz.strings_HasPrefix p (d++⟨#[47]⟩) w)
 have e1:Lib.hasPrefix p.data.toList (d++⟨#[47]⟩:ByteArray).data.toList=Lib.hasPrefix p.toList (d.toList++[47]):=by
  rw [<-Lib.toList_data,<-Lib.toList_data,toList_append,show (⟨#[47]⟩:ByteArray).toList=[47] from toList_mk [47]]
 rw [e1] at HP;clear e1;unfold withinB;generalize Lib.hasPrefix p.toList (d.toList++[47])=q at *;generalize mayB p=mp at *;generalize mayB d=md at *
 cases mp
 ·go_enter func220,ntmps220;go_wp2_with fail;refine HM.out.mono ?_;rintro e w1 ⟨rfl,x1⟩;go_wp2_with fail;go_ret;exact ⟨rfl,x1⟩
 ·cases hde:d.toList.isEmpty
  ·cases md
   ·go_enter func220,ntmps220;go_wp2_with fail;refine HM.out.mono ?_;rintro e w1 ⟨rfl,x1⟩;go_wp2_with fail;refine (HD _ (E.ext x1)).out.mono ?_;rintro e w2 ⟨rfl,x2⟩;go_wp2_with fail;go_ret;exact ⟨rfl,x1.trans x2⟩
   ·go_enter func220,ntmps220;go_wp2_with fail;refine HM.out.mono ?_;rintro e w1 ⟨rfl,x1⟩;go_wp2_with fail;refine (HD _ (E.ext x1)).out.mono ?_;rintro e w2 ⟨rfl,x2⟩;go_wp2_with fail;refine (HP _).out.mono ?_;rintro e w3 ⟨rfl,rfl⟩;go_wp2_with fail;go_ret;exact ⟨rfl,x1.trans x2⟩
  ·go_enter func220,ntmps220;go_wp2_with fail;refine HM.out.mono ?_;rintro e w1 ⟨rfl,x1⟩;go_wp2_with fail;go_ret;exact ⟨rfl,x1⟩
set_option maxHeartbeats 400000 in
theorem refParent_any (s:ByteArray) (w:World) (hs:s.size<4294967281) :
  Calls prog 46 #[.string s] w fun e w'=>e=.returned (.tuple #[.string (parentR s),.bool (mayB s)])/\Ext w w':=by
 have HM:=lh (refMay_any s w hs);have HS:=fun w=>lh (ahead_any s w hs);unfold parentR;generalize parentS s=P at *
 cases h:mayB s
 ·rw [h] at HM;clear h;go_enter func46,ntmps46;go_wp2_with fail;refine HM.out.mono ?_;rintro e w1 ⟨rfl,x1⟩;go_wp2_with fail;go_ret2;exact ⟨rfl,x1⟩
 ·rw [h] at HM;clear h;go_enter func46,ntmps46;go_wp2_with fail;refine HM.out.mono ?_;rintro e w1 ⟨rfl,x1⟩;go_wp2_with fail;refine (HS _).out.mono ?_;rintro e w2 ⟨rfl,x2⟩;go_wp2_with fail;go_ret2;exact ⟨rfl,x1.trans x2⟩
theorem hasPrefix_slash (p d:ByteArray):Lib.hasPrefix p.toList (d.toList++[47])=(decide (d.size<p.size)&&((p.extract 0 d.size).toList==d.toList)&&(p.toList[d.size]?==some 47)):=by
 rw [<-Lib.hasPrefix_of_take,toList_extract];simp only [List.length_append,List.length_cons,List.length_nil,len_toList,List.drop_zero,Nat.sub_zero,Nat.zero_add];by_cases h:d.size<p.size
 ·rw [show decide (d.size+1<=p.size)=true from by simp;omega,show decide (d.size<p.size)=true from by simpa using h];have hk:d.size<p.toList.length:=by rw [len_toList];exact h
  rw [List.take_add_one,List.getElem?_eq_getElem hk];simp only [Bool.true_and];rw [Bool.eq_iff_iff];simp only [Bool.and_eq_true,beq_iff_eq,Option.toList_some];constructor
  ·intro e;have:=List.append_inj e (by rw [List.length_take,len_toList,len_toList];omega);exact ⟨this.1,by simpa using this.2⟩
  ·rintro ⟨e1,e2⟩;rw [e1];congr 1;simpa using e2
 ·rw [show decide (d.size+1<=p.size)=false from by simp;omega,show decide (d.size<p.size)=false from by simpa using h];simp
set_option maxHeartbeats 1600000 in
theorem refWithin_any (p d:ByteArray) (w:World) (hp:p.size<4294967281) (hd:d.size<4294967280) :
  Calls prog 161 #[.string p,.string d] w fun e w'=>e=.returned (.bool (withinB p d))/\Ext w w':=by
 have HM:=lh (refMay_any p w hp);have HD:=fun w=>lh (refMay_any d w (by omega));have HF:=lh (hasPrefix_slash p d);unfold withinB;generalize mayB p=mp at *;generalize mayB d=md at *
 cases mp
 ·go_enter func161,ntmps161;go_wp2_with fail;refine HM.out.mono ?_;rintro e w1 ⟨rfl,x1⟩;go_wp2_with fail;go_ret;exact ⟨rfl,x1⟩
 ·cases hde:d.toList.isEmpty
  ·have hde2:(d.toList==[])=false:=by cases hl:d.toList with | nil=>rw [hl] at hde;cases hde | cons a b=>rfl
   cases md
   ·go_enter func161,ntmps161;go_wp2_with fail;refine HM.out.mono ?_;rintro e w1 ⟨rfl,x1⟩;go_wp2_with fail;refine (HD _).out.mono ?_;rintro e w2 ⟨rfl,x2⟩;go_wp2_with fail;go_ret;exact ⟨rfl,x1.trans x2⟩
   ·by_cases hlt:d.size<p.size
    ·cases hq:(p.extract 0 d.size).toList==d.toList
     ·have HF2:=lh (HF.out.trans (show _=false by rw [hq];simp));go_enter func161,ntmps161;go_wp2_with fail;refine HM.out.mono ?_;rintro e w1 ⟨rfl,x1⟩;go_wp2_with fail;refine (HD _).out.mono ?_;rintro e w2 ⟨rfl,x2⟩;go_wp2_with fail;go_ret;exact ⟨ret_bool (by rw [HF2.out];rfl),x1.trans x2⟩
     ·have hg:=getElem_toList p d.size hlt;by_cases hc:p[d.size]=47
      ·have d1:((p[d.size].toNat:Int)==47)=true:=by simp [hc]
       have HF2:=lh (HF.out.trans (show _=true by rw [hq,hg,hc,decide_eq_true hlt];rfl));clear hg hc;go_enter func161,ntmps161;go_wp2_with fail;refine HM.out.mono ?_;rintro e w1 ⟨rfl,x1⟩;go_wp2_with fail;refine (HD _).out.mono ?_;rintro e w2 ⟨rfl,x2⟩;go_wp2_with fail;go_ret;exact ⟨ret_bool (by rw [HF2.out];rfl),x1.trans x2⟩
      ·have d1:=toNat_ne47 hc;have HF2:=lh (HF.out.trans (show _=false by rw [hg];simp [hc]));clear hg hc;go_enter func161,ntmps161;go_wp2_with fail;refine HM.out.mono ?_;rintro e w1 ⟨rfl,x1⟩;go_wp2_with fail;refine (HD _).out.mono ?_;rintro e w2 ⟨rfl,x2⟩;go_wp2_with fail;go_ret;exact ⟨ret_bool (by rw [HF2.out];rfl),x1.trans x2⟩
    ·have HF2:=lh (HF.out.trans (show _=false by simp [hlt]));go_enter func161,ntmps161;go_wp2_with fail;refine HM.out.mono ?_;rintro e w1 ⟨rfl,x1⟩;go_wp2_with fail;refine (HD _).out.mono ?_;rintro e w2 ⟨rfl,x2⟩;go_wp2_with fail;go_ret;exact ⟨ret_bool (by rw [HF2.out];rfl),x1.trans x2⟩
  ·have hde2:(d.toList==[])=true:=by cases hl:d.toList with | nil=>rfl | cons a b=>rw [hl] at hde;cases hde
   go_enter func161,ntmps161;go_wp2_with fail;refine HM.out.mono ?_;rintro e w1 ⟨rfl,x1⟩;go_wp2_with fail;go_ret;exact ⟨rfl,x1⟩
end
section
def cmpL:List UInt8->List UInt8->Int
 | [],[]=>0
 | [],_::_=>-1
 | _::_,[]=>1
 | x::xs,y::ys=>if x=y then cmpL xs ys else if x=47 then -1 else if y=47 then 1 else if x.toNat<y.toNat then -1 else 1
def rankL (l:List UInt8) (i:Nat):Int:=match l[i]? with
 | none=>0
 | some c=>if c=47 then 1 else 2+c.toNat
theorem cmpL_same {l m:List UInt8} {k:Nat} {x:UInt8} (h1:l[k]?=some x) (h2:m[k]?=some x):cmpL (l.drop k) (m.drop k)=cmpL (l.drop (k+1)) (m.drop (k+1)):=by
 obtain ⟨a1,b1⟩:=List.getElem?_eq_some_iff.1 h1;obtain ⟨a2,b2⟩:=List.getElem?_eq_some_iff.1 h2;rw [List.drop_eq_getElem_cons a1,List.drop_eq_getElem_cons a2,b1,b2];simp [cmpL]
theorem cmpL_diff {l m:List UInt8} {k:Nat} {x y:UInt8} (h1:l[k]?=some x) (h2:m[k]?=some y) (h:x≠y):cmpL (l.drop k) (m.drop k)=if x=47 then -1 else if y=47 then 1 else if x.toNat<y.toNat then -1 else 1:=by
 obtain ⟨a1,b1⟩:=List.getElem?_eq_some_iff.1 h1;obtain ⟨a2,b2⟩:=List.getElem?_eq_some_iff.1 h2;rw [List.drop_eq_getElem_cons a1,List.drop_eq_getElem_cons a2,b1,b2];simp [cmpL,h]
theorem cmpL_left {l m:List UInt8} {k:Nat} (h1:l.length<=k) (h2:k<m.length):cmpL (l.drop k) (m.drop k)=-1:=by
 rw [List.drop_of_length_le h1,List.drop_eq_getElem_cons h2];rfl
theorem cmpL_right {l m:List UInt8} {k:Nat} (h1:k<l.length) (h2:m.length<=k):cmpL (l.drop k) (m.drop k)=1:=by
 rw [List.drop_of_length_le h2,List.drop_eq_getElem_cons h1];rfl
theorem cmpL_both {l m:List UInt8} {k:Nat} (h1:l.length<=k) (h2:m.length<=k):cmpL (l.drop k) (m.drop k)=0:=by
 rw [List.drop_of_length_le h2,List.drop_of_length_le h1];rfl
theorem cmpL_self:∀ l:List UInt8,cmpL l l=0
 | []=>rfl
 | x::xs=>by simp [cmpL,cmpL_self xs]
theorem cmpL_vals:∀ l m:List UInt8,cmpL l m=-1\/cmpL l m=0\/cmpL l m=1
 | [],[]=>by simp [cmpL]
 | [],_::_=>by simp [cmpL]
 | _::_,[]=>by simp [cmpL]
 | x::xs,y::ys=>by
  unfold cmpL;split
  ·exact cmpL_vals xs ys
  ·split <;> (try split) <;> (try split) <;> simp
theorem cmpL_zero:∀ l m:List UInt8,cmpL l m=0->l=m
 | [],[],_=>rfl
 | [],_::_,h=>by simp [cmpL] at h
 | _::_,[],h=>by simp [cmpL] at h
 | x::xs,y::ys,h=>by
  unfold cmpL at h;split at h
  ·rename_i e;rw [e,cmpL_zero xs ys h]
  ·split at h
   ·simp at h
   ·split at h
    ·simp at h
    ·split at h <;> simp at h
theorem cmpL_anti:∀ l m:List UInt8,cmpL m l=-cmpL l m
 | [],[]=>rfl
 | [],_::_=>rfl
 | _::_,[]=>rfl
 | x::xs,y::ys=>by
  unfold cmpL;by_cases e:x=y
  ·simp [e,cmpL_anti xs ys]
  ·have e':¬ y=x:=fun h=>e h.symm;have hn:x.toNat≠y.toNat:=fun h=>e (UInt8.toNat_inj.1 h);rw [if_neg e,if_neg e'];by_cases c1:x=47
   ·have c2:¬ y=47:=fun h=>e (c1.trans h.symm);rw [if_neg c2,if_pos c1,if_pos c1];rfl
   ·by_cases c2:y=47
    ·simp [c1,c2]
    ·rw [if_neg c1,if_neg c2,if_neg c1,if_neg c2];by_cases c3:x.toNat<y.toNat
     ·rw [if_pos c3,if_neg (by omega)];rfl
     ·rw [if_neg c3,if_pos (by omega)]
theorem cmpL_trans:∀ l m n:List UInt8,cmpL l m=-1->cmpL m n=-1->cmpL l n=-1
 | [],[],_,h,_=>by simp [cmpL] at h
 | [],_::_,[],_,h=>by simp [cmpL] at h
 | [],_::_,_::_,_,_=>rfl
 | _::_,[],_,h,_=>by simp [cmpL] at h
 | _::_,_::_,[],_,h=>by simp [cmpL] at h
 | x::xs,y::ys,z::zs,h1,h2=>by
  unfold cmpL at h1 h2 ⊢;have key:∀ a b:UInt8,a=b↔a.toNat=b.toNat:=fun a b=>UInt8.toNat_inj.symm;by_cases e1:x=y
  ·by_cases e2:y=z
   ·rw [if_pos e1] at h1;rw [if_pos e2] at h2;rw [if_pos (e1.trans e2)];exact cmpL_trans xs ys zs h1 h2
   ·subst e1;rw [if_neg e2] at h2 ⊢;exact h2
  ·by_cases e2:y=z
   ·subst e2;rw [if_neg e1] at h1 ⊢;exact h1
   ·rw [if_neg e1] at h1;rw [if_neg e2] at h2;by_cases c1:x=47
    ·have:¬ x=z:=by
      intro h;have cy:¬ y=47:=fun h'=>e1 (c1.trans h'.symm);rw [if_neg cy,if_pos (h.symm.trans c1)] at h2;simp at h2
     rw [if_neg this,if_pos c1]
    ·rw [if_neg c1] at h1;by_cases c2:y=47
     ·rw [if_pos c2] at h1;simp at h1
     ·rw [if_neg c2] at h1 h2;by_cases c3:z=47
      ·rw [if_pos c3] at h2;simp at h2
      ·rw [if_neg c3] at h2
       have l1:x.toNat<y.toNat:=by
        apply Classical.byContradiction;intro h;rw [if_neg h] at h1;simp at h1
       have l2:y.toNat<z.toNat:=by
        apply Classical.byContradiction;intro h;rw [if_neg h] at h2;simp at h2
       have:¬ x=z:=by rw [key];omega
       rw [if_neg this,if_neg c1,if_neg c3,if_pos (by omega)]
end
section
theorem cmpL_prefix:∀ (d:List UInt8) (c:UInt8) (r:List UInt8),cmpL d (d++c::r)=-1
 | [],_,_=>rfl
 | x::xs,c,r=>by
  show cmpL (x::xs) (x::(xs++c::r))=-1
  rw [cmpL,if_pos rfl,cmpL_prefix xs c r]
theorem mayB_ne {s:ByteArray} (h:mayB s=true):s.toList≠[]:=by
 intro e;rw [mayB_list,e] at h;simp [mayL,piecesL,splitAux,nameB] at h
theorem hasPrefix_iff (p d:List UInt8):Lib.hasPrefix p d=true↔∃ r,p=d++r:=by
 rw [<-Lib.hasPrefix_of_take];simp only [Bool.and_eq_true,decide_eq_true_eq,beq_iff_eq];constructor
 ·rintro ⟨_,h⟩;exact ⟨p.drop d.length,(List.take_append_drop d.length p).symm.trans (by rw [h])⟩
 ·rintro ⟨r,rfl⟩;simp
theorem within_form {p d:ByteArray} (hd:mayB d=true) (h:withinB p d=true):∃ r,p.toList=d.toList++47::r:=by
 unfold withinB at h;have hne:=mayB_ne hd;have he:d.toList.isEmpty=false:=by cases hl:d.toList with | nil=>exact absurd hl hne | cons a b=>rfl
 rw [he,hd] at h;simp only [Bool.and_eq_true,Bool.false_or,Bool.true_and] at h;obtain ⟨r,hr⟩:=(hasPrefix_iff _ _).1 h.2;exact ⟨r,by rw [hr];simp⟩
end
end Go.Proofs.YtldppmjjgljinaaGreatDoor
