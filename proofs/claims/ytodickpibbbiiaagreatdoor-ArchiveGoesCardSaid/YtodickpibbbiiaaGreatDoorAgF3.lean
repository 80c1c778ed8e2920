import Derived.Test.YtodickpibbbiiaaGreatDoorAgF1
import Derived.Test.YtodickpibbbiiaaGreatDoorAgF2
import Derived.Test.YtodickpibbbiiaaGreatDoorAgC3
import Derived.Test.YtodickpibbbiiaaGreatDoorAgA1
import Derived.Deep.Slices
open Go.Proofs.Tryz
namespace Go.Proofs.YtodickpibbbiiaaGreatDoor
section
open Go.RowKit
theorem wpList_load_row_g {P:Program} {ops:Array Oper} {rest:List Oper} {op:Oper} {a:Act} {w:World} {Q:Exit->Act->World->Prop} (hw:Region.wanted op (yielded ops a.tmps)=true) (ty:TypeId) (x:Operand) (ho:op.op=.load ty x)
  (g:Nat) (hx:a.eval x=.pointer (some ⟨g,0,none⟩)) (t:TypeId) (cs:Array Value) (fr:Nat×Nat) (d:TypeDesc) (hg:w.heap[g]?=some (.cells cs t fr))
  (hu:P.underlying ty=some d) (hd:(match d with | .struct _ | .array _ _=>true | _=>false)=true) (hi:(P.info? ty).map (·.size)=some cs.size)
  (h:wpList P ops Q rest (a.put op.dst (.agg cs)) w):wpList P ops Q (op::rest) a w :=
 BigFrame.wpList_want hw fun K hK=>by
  have h2:=hK _ _ h;unfold Oper.wp execOp;simp only [ho,hx,Instr.loadAt,Instr.sureAddr,Sem.run_bind,Sem.run_pure,Result.andThen_ok,run_loadVar_row w g t ty cs fr d hg hu hd hi];exact h2
end
section
open Go.RowKit
end
section
open Go.RowKit
abbrev both (d r:Nat) (D:Dk):List Thing:=[.disk d D,.ref r D]
section
variable {w0 w:World} {A B:List Thing} {d r k:Nat} {D D':Dk}
end
end
section
open Go.RowKit
end
section
open Go.RowKit
end
section
open Go.RowKit
end
section
open Go.RowKit
theorem join_one {w:World} {v:Value} {x:ByteArray} (h:TextsOwn w v [x]) (sep:ByteArray) (hx:x.size<=100000):Calls prog 22 #[v,.string sep] w fun e w'=>e=.returned (.string x)/\Ext w w':=by
 obtain ⟨⟨a,cap,rfl,h1,h2⟩,hg⟩:=h;obtain ⟨g,rfl,hc⟩:=hg a _ cap rfl 0 x rfl
 have hj:(⟨(Lib.join ([x].map (·.data.toList)) sep.data.toList).toArray⟩:ByteArray)=x:=by
  obtain ⟨x⟩:=x;simp [Lib.join]
 have:=Tryz.strings_Join g 0 cap [x] sep w (fun j y hy=>by
  cases j with
  | zero=>cases hy;exact hc
  | succ j=>simp at hy) (lt_of_cell hc) (by simp) h1 (by
   have e:(Lib.join ([x].map (·.data.toList)) sep.data.toList).length=x.size:=by
    have:=congrArg ByteArray.size hj
    simpa [size_mk] using this
   rw [e];omega)
 rw [hj] at this;exact this
end
section
open Go.ChangeShapes Go.WideShapes Go.ChangeAt Go.RowKit
theorem reach_eq:reachBytes=reach:=by unfold reachBytes reach;rfl
section
variable {H:Type} {enc:TypeId×Value->H} {W:World} {base':Nat} {sp:Nat->Bool} {held:Bool}
theorem weights_mem {t e:TypeId} {D:Nat->DataW H} {len m:Nat} (ht:prog.underlying t=some (.slice e)) (h:(DataW.weights prog t (.slice ((List.range len).map D) ((List.range m).map fun j=>D (len+j)))).all (·<=reachBytes)=true) :
  (len*prog.bytesOf e<=reachBytes)/\∀ i,i<len->((D i).weights prog e).all (·<=reachBytes)=true:=by
 unfold DataW.weights at h;rw [ht] at h;simp only [List.all_cons,List.all_append,Bool.and_eq_true,decide_eq_true_eq,List.length_map,List.length_range] at h;refine ⟨Nat.le_trans (Nat.mul_le_mul_right _ (Nat.le_add_right _ _)) h.1,fun i hi=>?_⟩
 have key:∀ (l:List (DataW H)),(DataW.weightsAll prog e l).all (·<=reachBytes)=true->∀ d∈l,(d.weights prog e).all (·<=reachBytes)=true:=by
  intro l
  induction l with
  | nil=>intro _ d hd;cases hd
  | cons x r ih =>
   intro hl d hd;unfold DataW.weightsAll at hl;rw [List.all_append,Bool.and_eq_true] at hl;rcases List.mem_cons.1 hd with rfl | hd
   ·exact hl.1
   ·exact ih hl.2 d hd
 exact key _ h.2.1 _ (List.mem_map.2 ⟨i,List.mem_range.2 hi,rfl⟩)
theorem trod_rng {t:TypeId} {k:IntKind} {fuel:Nat} {cs:List Value} {x:DataW H×List MemPlace} (ht:prog.underlying t=some (.int k)) (h:DataW.trod enc prog W base' sp held fuel t cs=some x):∃ n,cs=[.int k n]/\k.min<=n/\n<=k.max:=by
 obtain ⟨n,h1,_,h2⟩:=DataW.trod_int ht h;unfold Lit.wf at h2;rw [Bool.and_eq_true,decide_eq_true_eq,decide_eq_true_eq] at h2;exact ⟨n,h1,h2⟩
theorem trod_str {t:TypeId} {fuel:Nat} {cs:List Value} {x:DataW H×List MemPlace} (ht:prog.underlying t=some .string) (h:DataW.trod enc prog W base' sp held fuel t cs=some x) (hw:(x.1.weights prog t).all (·<=reachBytes)=true):∃ s:ByteArray,cs=[.string s]/\s.size<=reach:=by
 obtain ⟨s,h1,rfl,_⟩:=DataW.trod_string ht h;refine ⟨s,h1,?_⟩;unfold DataW.weights at hw;simp only [List.all_cons,List.all_nil,Bool.and_true,decide_eq_true_eq] at hw;rw [<-reach_eq,Lib.size_eq];exact hw
end
end
end Go.Proofs.YtodickpibbbiiaaGreatDoor
