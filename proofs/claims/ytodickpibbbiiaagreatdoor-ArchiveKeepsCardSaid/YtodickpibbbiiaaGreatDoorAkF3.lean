import Derived.Test.YtodickpibbbiiaaGreatDoorAkF1
import Derived.Test.YtodickpibbbiiaaGreatDoorAkF2
import Derived.Test.YtodickpibbbiiaaGreatDoorAkC3
import Derived.Test.YtodickpibbbiiaaGreatDoorAkA1
import Derived.Deep.Slices
open Go.Proofs.Tryz
namespace Go.Proofs.YtodickpibbbiiaaGreatDoor
section
open Go.RowKit
theorem wpList_load_row_g {P:Program} {ops:Array Oper} {rest:List Oper} {op:Oper} {a:Act} {w:World} {Q:Exit->Act->World->Prop} (hw:Region.wanted op (yielded ops a.tmps)=true) (ty:TypeId) (x:Operand) (ho:op.op=.load ty x)
  (g:Nat) (hx:a.eval x=.pointer (some ⟨g,0,none⟩)) (t:TypeId) (cs:Array Value) (fr:Nat×Nat) (d:TypeDesc) (hg:w.heap[g]?=some (.cells cs t fr))
  (hu:P.underlying ty=some d) (hd:(match d with | .struct _ | .array _ _=>true | _=>false)=true) (hi:(P.info? ty).map (·.size)=some cs.size)
  (h:wpList P ops Q rest (a.put op.dst (.agg cs)) w):wpList P ops Q (op::rest) a w :=
 BigFrame.wpList_want hw fun K hK=>by
  have h2:=hK _ _ h;unfold Oper.wp execOp;simp only [ho,hx,Instr.loadAt,Instr.sureAddr,Sem.run_bind,Sem.run_pure,Result.andThen_ok,run_loadVar_row w g t ty cs fr d hg hu hd hi];exact h2
end
section
open Go.RowKit
end
section
open Go.RowKit
abbrev both (d r:Nat) (D:Dk):List Thing:=[.disk d D,.ref r D]
section
variable {w0 w:World} {A B:List Thing} {d r k:Nat} {D D':Dk}
end
end
section
open Go.RowKit
end
section
open Go.RowKit
end
section
open Go.RowKit
end
section
open Go.RowKit
theorem join_one {w:World} {v:Value} {x:ByteArray} (h:TextsOwn w v [x]) (sep:ByteArray) (hx:x.size<=100000):Calls prog 22 #[v,.string sep] w fun e w'=>e=.returned (.string x)/\Ext w w':=by
 obtain ⟨⟨a,cap,rfl,h1,h2⟩,hg⟩:=h;obtain ⟨g,rfl,hc⟩:=hg a _ cap rfl 0 x rfl
 have hj:(⟨(Lib.join ([x].map (·.data.toList)) sep.data.toList).toArray⟩:ByteArray)=x:=by
  obtain ⟨x⟩:=x;simp [Lib.join]
 have:=Tryz.strings_Join g 0 cap [x] sep w (fun j y hy=>by
  cases j with
  | zero=>cases hy;exact hc
  | succ j=>simp at hy) (lt_of_cell hc) (by simp) h1 (by
   have e:(Lib.join ([x].map (·.data.toList)) sep.data.toList).length=x.size:=by
    have:=congrArg ByteArray.size hj
    simpa [size_mk] using this
   rw [e];omega)
 rw [hj] at this;exact this
end
section
open Go.ChangeShapes Go.WideShapes Go.ChangeAt Go.RowKit
section
variable {H:Type} {enc:TypeId×Value->H} {W:World} {base':Nat} {sp:Nat->Bool} {held:Bool}
theorem trod_rng {t:TypeId} {k:IntKind} {fuel:Nat} {cs:List Value} {x:DataW H×List MemPlace} (ht:prog.underlying t=some (.int k)) (h:DataW.trod enc prog W base' sp held fuel t cs=some x):∃ n,cs=[.int k n]/\k.min<=n/\n<=k.max:=by
 obtain ⟨n,h1,_,h2⟩:=DataW.trod_int ht h;unfold Lit.wf at h2;rw [Bool.and_eq_true,decide_eq_true_eq,decide_eq_true_eq] at h2;exact ⟨n,h1,h2⟩
end
end
end Go.Proofs.YtodickpibbbiiaaGreatDoor
