import Derived.Test.YtodickpibbbiiaaGreatDoorAbF1
import Derived.Test.YtodickpibbbiiaaGreatDoorAbF2
import Derived.Test.YtodickpibbbiiaaGreatDoorAbC3
open Go.Proofs.Tryz
namespace Go.Proofs.YtodickpibbbiiaaGreatDoor
open Go.RowKit
section
theorem wpList_load_row_g {P:Program} {ops:Array Oper} {rest:List Oper} {op:Oper} {a:Act} {w:World} {Q:Exit->Act->World->Prop} (hw:Region.wanted op (yielded ops a.tmps)=true) (ty:TypeId) (x:Operand) (ho:op.op=.load ty x)
  (g:Nat) (hx:a.eval x=.pointer (some ⟨g,0,none⟩)) (t:TypeId) (cs:Array Value) (fr:Nat×Nat) (d:TypeDesc) (hg:w.heap[g]?=some (.cells cs t fr))
  (hu:P.underlying ty=some d) (hd:(match d with | .struct _ | .array _ _=>true | _=>false)=true) (hi:(P.info? ty).map (·.size)=some cs.size)
  (h:wpList P ops Q rest (a.put op.dst (.agg cs)) w):wpList P ops Q (op::rest) a w :=
 BigFrame.wpList_want hw fun K hK=>by
  have h2:=hK _ _ h;unfold Oper.wp execOp;simp only [ho,hx,Instr.loadAt,Instr.sureAddr,Sem.run_bind,Sem.run_pure,Result.andThen_ok,run_loadVar_row w g t ty cs fr d hg hu hd hi];exact h2
end
section
end
section
theorem Things.objb {w0 w w1:World} {A:List Thing} {b:Nat} {o:Obj} (h:Things w0 w A) (x:Ext w w1) (hb:w1.heap[b]?=some o) (hl:w.heap.size<=b):Things w0 w1 (A++[.obj b o]) :=
 h.add (M:=[]) (I:=[b]) x ⟨rfl,rfl,hb⟩ (fun _ hb=>(by cases hb)) fun y hy=>(by rw [List.mem_singleton.1 hy];exact hl)
abbrev both (d r:Nat) (D:Dk):List Thing:=[.disk d D,.ref r D]
section
variable {w0 w:World} {A B:List Thing} {d r k:Nat} {D D':Dk}
end
end
section
end
section
end
section
end
section
theorem join_one {w:World} {v:Value} {x:ByteArray} (h:TextsOwn w v [x]) (sep:ByteArray) (hx:x.size<=100000):Calls prog 22 #[v,.string sep] w fun e w'=>e=.returned (.string x)/\Ext w w':=by
 obtain ⟨⟨a,cap,rfl,h1,h2⟩,hg⟩:=h;obtain ⟨g,rfl,hc⟩:=hg a _ cap rfl 0 x rfl
 have hj:(⟨(Lib.join ([x].map (·.data.toList)) sep.data.toList).toArray⟩:ByteArray)=x:=by
  obtain ⟨x⟩:=x;simp [Lib.join]
 have:=Tryz.strings_Join g 0 cap [x] sep w (fun j y hy=>by
  cases j with
  | zero=>cases hy;exact hc
  | succ j=>simp at hy) (lt_of_cell hc) (by simp) h1 (by
   have e:(Lib.join ([x].map (·.data.toList)) sep.data.toList).length=x.size:=by
    have:=congrArg ByteArray.size hj
    simpa [size_mk] using this
   rw [e];omega)
 rw [hj] at this;exact this
end
end Go.Proofs.YtodickpibbbiiaaGreatDoor
