/- A region that draws its order, walked by hand: loads, builds and moves are taken first, whatever else comes up alone is run. -/
import Derived.Test.YtldppmjjgljinaaGreatDoorBlk
import Derived.Deep.RegionHeld
namespace Go.Proofs.YtldppmjjgljinaaGreatDoor
open Go.RowKit

section
variable {P : Program} {ops : Array Oper} {Q : Exit → Act → World → Prop} {md : Region.Mode} {S : World → Prop} {o : Oper} {a : Act}
theorem yieldsIf_load_row (hgd : o.guard = none) (ty : TypeId) (x : Operand) (ho : o.op = .load ty x) (g : Nat) (hx : a.eval x = .pointer (some ⟨g, 0, none⟩)) (t : TypeId) (cs : Array Value) (fr : Nat × Nat) (d : TypeDesc)
    (hg : ∀ w, S w → w.heap[g]? = some (.cells cs t fr)) (hu : P.underlying ty = some d) (hd : (match d with | .struct _ | .array _ _ => true | _ => false) = true) (hi : (P.info? ty).map (·.size) = some cs.size) : YieldsIf P ops S o (.agg cs) a :=
  .inl ⟨by simp only [Region.wanted, hgd], fun w hw => by
    unfold execOp
    simp only [ho, hx, Instr.loadAt, Instr.sureAddr, Sem.run_bind, Sem.run_pure, Result.andThen_ok, run_loadVar_row w g t ty cs fr d (hg w hw) hu hd hi]⟩
theorem yieldsIf_build (hgd : o.guard = none) (t : TypeId) (parts : Array (Nat × Operand)) (ho : o.op = .build t parts) (cells : Array Value) (hf : P.built t (parts.toList.map fun p => (p.1, a.eval p.2)) = some cells) : YieldsIf P ops S o (.agg cells) a :=
  .inl ⟨by simp only [Region.wanted, hgd], fun w _ => by
    unfold execOp
    simp only [ho, Sem.run_bind, Sem.run_pure, Result.andThen_ok, run_build w t _ cells (by rw [Array.toList_map]; exact hf)]⟩
theorem yieldsIf_move (hgd : o.guard = none) (x : Operand) (ho : o.op = .move x) {v : Value} (hx : a.eval x = v) : YieldsIf P ops S o v a :=
  .inl ⟨by simp only [Region.wanted, hgd], fun w _ => by
    unfold execOp
    simp only [ho, hx]
    rfl⟩
theorem yieldsIf_assign (hgd : o.guard = none) (x : Operand) (ho : o.op = .assign x) {v : Value} (hx : a.eval x = v) : YieldsIf P ops S o v a :=
  .inl ⟨by simp only [Region.wanted, hgd], fun w _ => by
    unfold execOp
    simp only [ho, hx]
    rfl⟩
theorem yieldsIf_run (hgd : o.guard = none) {v : Value} (h : ∀ w, (execOp a.eval o).run P w = .ok (.value v) w) : YieldsIf P ops S o v a := .inl ⟨by simp only [Region.wanted, hgd], fun w _ => h w⟩
theorem drop_get {l : List Oper} {i : Nat} {x : Oper} {rest : List Oper} (h : l.drop i = x :: rest) : l[i]? = some x := by
  have := congrArg (·[0]?) h
  simpa [List.getElem?_drop] using this
theorem ops_get {i : Nat} {rest : List Oper} (h : ops.toList.drop i = o :: rest) : ops[i]? = some o := by
  rw [← Array.getElem?_toList]
  exact drop_get h
/-- An operation that yields in every world that is meant is taken first. -/
theorem wpAnyH_takeL {i : Nat} {v : Value} {fuel : Nat} {listed : Array Bool} {w : World} {rest : List Oper} (hi : ops.toList.drop i = o :: rest)
    (hs : Region.noSelect ops = true) (hf : Region.free md ops listed i = true) (hr : (Region.ready md ops listed).contains i = true)
    (hQ : ∀ c a w, Q (.panic c) (a.put o.dst v) w → Q (.panic c) a w) (hy : YieldsIf P ops S o v a) (hS : S w)
    (h : wpAnyH P md ops Q S fuel (listed.setIfInBounds i true) (a.put o.dst v) w) : wpAnyH P md ops Q S (fuel + 1) listed a w := wpAnyH_take (ops_get hi) hs hf hr hQ hy hS h
/-- One operation alone may come up: it is run. -/
theorem wpAnyH_one {i : Nat} {v : Value} {fuel : Nat} {listed : Array Bool} {w w' : World} {rest : List Oper} (hr : Region.ready md ops listed = [i]) (hi : ops.toList.drop i = o :: rest) (hgd : o.guard = none) (hrun : (execOp a.eval o).run P w = .ok (.value v) w') (hS : S w')
    (h : wpAnyH P md ops Q S fuel (listed.setIfInBounds i true) (a.put o.dst v) w') : wpAnyH P md ops Q S (fuel + 1) listed a w :=
  wpAnyH_all hr (by simp) fun j hj => by
    obtain rfl := List.mem_singleton.1 hj
    unfold wpOp
    simp only [ops_get hi]
    rw [if_pos (by simp only [Region.wanted, hgd])]
    left
    unfold Oper.wp
    rw [hrun]
    exact ⟨hS, h⟩
theorem run_boxOp (t : TypeId) (x : Operand) (ho : o.op = .box t x) (w : World) (cells : Array Value) (hx : (a.eval x).cells = cells) : (execOp a.eval o).run P w = .ok (.value (.pointer (some ⟨w.heap.size, 0, none⟩))) (w.alloc (.cells cells t)) := by
  subst hx
  unfold execOp
  simp only [ho, Sem.run_bind, Instr.box, newVar, newRow, run_newObj_alloc, Sem.run_pure, Result.andThen_ok]
theorem run_convertOp (t u : TypeId) (x : Operand) (ho : o.op = .convert t u x) (w w' : World) (v : Value) (h : (convert t u (a.eval x)).run P w = .ok v w') : (execOp a.eval o).run P w = .ok (.value v) w' := by
  unfold execOp
  simp only [ho, Sem.run_bind, Sem.run_pure, Result.andThen_ok, h]
theorem run_makeOp (t : TypeId) (x y : Operand) (ho : o.op = .makeSlice t x y) (w w' : World) (v : Value) (h : (Instr.makeSlice t (a.eval x) (a.eval y)).run P w = .ok v w') : (execOp a.eval o).run P w = .ok (.value v) w' := by
  unfold execOp
  simp only [ho, Sem.run_bind, Sem.run_pure, Result.andThen_ok, h]
/-- The first n come up in whatever order, S holding behind each of them; then L. -/
def headH (P : Program) (md : Region.Mode) (ops : Array Oper) (Q : Exit → Act → World → Prop) (S : World → Prop) (n : Nat) (L : Array Bool → Act → World → Prop) : Nat → Array Bool → Act → World → Prop
  | 0, listed, a, w => L listed a w
  | f + 1, listed, a, w => Region.ready md ops listed ≠ [] ∧ ∀ i ∈ Region.ready md ops listed, i < n ∧ wpOp P ops Q i (fun a' w' => S w' ∧ headH P md ops Q S n L f (listed.setIfInBounds i true) a' w') a w
theorem wpAny_of_headH {n g : Nat} {L : Array Bool → Act → World → Prop} (hL : ∀ listed a w, L listed a w → wpAny P md ops Q g listed a w) :
    ∀ (f : Nat) (listed : Array Bool) (a : Act) (w : World), headH P md ops Q S n L f listed a w → wpAny P md ops Q (f + g) listed a w
  | 0, listed, a, w, h => by rw [Nat.zero_add]; exact hL _ _ _ h
  | f + 1, listed, a, w, h => by
    rw [show f + 1 + g = (f + g) + 1 from by omega]
    exact ⟨fun h0 => absurd h0 h.1, fun i hi => wpOp_mono (fun a' w' h' => wpAny_of_headH hL f _ a' w' h'.2) (h.2 i hi).2⟩
theorem headH_first {n i : Nat} {oi : Oper} {v : Value} {L : Array Bool → Act → World → Prop} (hi : ops[i]? = some oi) (hsel : ∀ (j : Nat) (o : Oper) cs b, ops[j]? = some o → o.op ≠ .select cs b)
    (hQ : ∀ c a w, Q (.panic c) (a.put oi.dst v) w → Q (.panic c) a w) (hs : Region.sinkB md ops n = true) (hc : Region.chainB md ops n = true) (hn : n < ops.size) (hin : i < n) (hdone : ∀ listed a w, L listed a w → ∀ j ∈ Region.ready md ops listed, n ≤ j)
    (f : Nat) : ∀ (listed : Array Bool) (a : Act) (w : World), HeadInv md ops n listed →
      (∀ j oj, ops[j]? = some oj → j ≠ i → listed.getD j true = false → (∀ e ∈ oj.after, Region.binds md e = true → e.on ≠ i) → oi.apart ops oj = true) →
      i ∈ Region.ready md ops listed → YieldsIf P ops S oi v a → S w → headH P md ops Q S n L f (listed.setIfInBounds i true) (a.put oi.dst v) w → headH P md ops Q S n L (f + 1) listed a w := by
  have head : ∀ listed : Array Bool, HeadInv md ops n listed → i ∈ Region.ready md ops listed → ∀ j ∈ Region.ready md ops listed, j < n := fun listed inv hr j hj => by
    rcases Nat.lt_or_ge j n with h | h
    · exact h
    · exact absurd hj (tail_waits hs hc hn inv _ i rfl hin (mem_ready.1 hr).1 j h)
  induction f with
  | zero =>
    intro listed a w inv _ hr hy hS H
    refine ⟨fun h => (by rw [h] at hr; cases hr), fun j hj => ⟨head listed inv hr j hj, ?_⟩⟩
    by_cases hji : j = i
    · subst hji; exact hy.wpOp hi hS ⟨hS, H⟩
    · have h1 := hdone _ _ _ H j (ready_mono hj hji)
      have h2 := head listed inv hr j hj
      omega
  | succ f ih =>
    intro listed a w inv hfree hr hy hS H
    have hun := (mem_ready.1 hr).1
    refine ⟨fun h => (by rw [h] at hr; cases hr), fun j hj => ⟨head listed inv hr j hj, ?_⟩⟩
    by_cases hji : j = i
    · subst hji; exact hy.wpOp hi hS ⟨hS, H⟩
    · have h1 := (H.2 j (ready_mono hj hji)).2
      obtain ⟨hjun, oj, hoj, hall⟩ := mem_ready.1 hj
      have hnot : ∀ e ∈ oj.after, Region.binds md e = true → e.on ≠ i := fun e he hb heq => by
        have h1 := hall e he hb
        rw [heq, getD_both hun] at h1
        cases h1
      have h2 := wpOp_putIf hoj (hfree j oj hoj hji hjun hnot) (fun cs b => hsel i oi cs b hi) (fun cs b => hsel j oj cs b hoj) hQ hy h1
      refine wpOp_mono (fun a' w' h3 => ⟨h3.2.1, ih (listed.setIfInBounds j true) a' w' (inv.set hj (head listed inv hr j hj)) (fun k ok hk hki hun hno => hfree k ok hk hki ?_ hno) (ready_mono hr (Ne.symm hji)) h3.1 h3.2.1 ?_⟩) h2
      · by_cases hjk : j = k
        · subst hjk; exact hjun
        · rw [getD_set_ne true hjk] at hun; exact hun
      · rw [Array.setIfInBounds_comm _ _ hji]
        exact h3.2.2
/-- A state of the head: its invariant beside it. -/
structure HeadAt (P : Program) (ops : Array Oper) (Q : Exit → Act → World → Prop) (S : World → Prop) (n f : Nat) (listed : Array Bool) (a : Act) (w : World) : Prop where
  go : HeadInv .any ops n listed → headH P .any ops Q S n (fun listed' a' w' => Region.seqB .any ops (ops.size - n) n listed' = true ∧ wpList P ops Q (ops.toList.drop n) a' w') f listed a w
theorem HeadAt.take {n f i : Nat} {v : Value} {listed : Array Bool} {w : World} {rest : List Oper} (hi : ops.toList.drop i = o :: rest) (hs : Region.noSelect ops = true) (hs1 : Region.sinkB .any ops n = true) (hs2 : Region.chainB .any ops n = true) (hn : decide (n < ops.size) = true) (hin : decide (i < n) = true)
    (hf : Region.free .any ops listed i = true) (hr : (Region.ready .any ops listed).contains i = true) (hQ : ∀ c a w, Q (.panic c) (a.put o.dst v) w → Q (.panic c) a w) (hy : YieldsIf P ops S o v a) (hS : S w)
    (h : HeadAt P ops Q S n f (listed.setIfInBounds i true) (a.put o.dst v) w) : HeadAt P ops Q S n (f + 1) listed a w :=
  ⟨fun inv => headH_first (ops_get hi) (Region.noSelect_spec hs) hQ hs1 hs2 (of_decide_eq_true hn) (of_decide_eq_true hin) (fun _ _ _ hL => seqB_ready hL.1) f listed a w inv (Region.free_spec (ops_get hi) hf) (by simpa using hr) hy hS
    (h.go (inv.set (by simpa using hr) (of_decide_eq_true hin)))⟩
/-- One operation alone may come up: it is run. -/
theorem HeadAt.one {n f i : Nat} {v : Value} {listed : Array Bool} {w w' : World} {rest : List Oper} (hin : decide (i < n) = true) (hr : Region.ready .any ops listed = [i]) (hi : ops.toList.drop i = o :: rest) (hw : Region.wanted o (yielded ops a.tmps) = true) (hrun : (execOp a.eval o).run P w = .ok (.value v) w') (hS : S w')
    (h : HeadAt P ops Q S n f (listed.setIfInBounds i true) (a.put o.dst v) w') : HeadAt P ops Q S n (f + 1) listed a w :=
  ⟨fun inv => ⟨by rw [hr]; simp, fun j hj => by
    have hj' := hj
    rw [hr] at hj
    obtain rfl := List.mem_singleton.1 hj
    refine ⟨of_decide_eq_true hin, ?_⟩
    unfold wpOp
    simp only [ops_get hi]
    rw [if_pos hw]
    left
    unfold Oper.wp
    rw [hrun]
    exact ⟨hS, h.go (inv.set hj' (of_decide_eq_true hin))⟩⟩⟩
/-- A call alone may come up. -/
theorem HeadAt.call {n f i : Nat} {F : FuncId} {args : Array Value} {listed : Array Bool} {w : World} {rest : List Oper} (hin : decide (i < n) = true) (hr : Region.ready .any ops listed = [i]) (hi : ops.toList.drop i = o :: rest) (hw : Region.wanted o (yielded ops a.tmps) = true) (hrun : (execOp a.eval o).run P w = .ok (.enter F args) w)
    (h : Calls P F args w fun e w' => ∃ v, e = .returned v ∧ S w' ∧ HeadAt P ops Q S n f (listed.setIfInBounds i true) (a.put o.dst v) w') : HeadAt P ops Q S n (f + 1) listed a w :=
  ⟨fun inv => ⟨by rw [hr]; simp, fun j hj => by
    have hj' := hj
    rw [hr] at hj
    obtain rfl := List.mem_singleton.1 hj
    refine ⟨of_decide_eq_true hin, ?_⟩
    unfold wpOp
    simp only [ops_get hi]
    rw [if_pos hw]
    left
    unfold Oper.wp
    rw [hrun]
    refine h.mono ?_
    rintro e w' ⟨v, rfl, hS, hh⟩
    exact ⟨hS, hh.go (inv.set hj' (of_decide_eq_true hin))⟩⟩⟩
/-- All of the head have come up: the rest in its order. -/
theorem HeadAt.done {n : Nat} {listed : Array Bool} {w : World} (hB : Region.seqB .any ops (ops.size - n) n listed = true) (h : wpList P ops Q (ops.toList.drop n) a w) : HeadAt P ops Q S n 0 listed a w := ⟨fun _ => ⟨hB, h⟩⟩
/-- A region that draws its order: its first n operations in whatever order, the rest forced. -/
theorem wp_region_head {id n : Nat} {w : World} {l : List Oper} (hm : P.follows .mixedOrders = true) (hn : decide (n < l.length) = true)
    (h : HeadAt P l.toArray Q S n n (Array.replicate l.toArray.size false) a w.drew) : (Code.region id l.toArray true).wp P Q a w := by
  have hn' : n < l.length := of_decide_eq_true hn
  have inv0 : HeadInv .any l.toArray n (Array.replicate l.toArray.size false) :=
    ⟨by simp, fun j oj _ hl => (by rw [getD_replicate_false] at hl; cases hl), fun t _ ht => getD_in (by simpa using ht) (getD_replicate_false _ _)⟩
  refine wp_region_any hm ?_
  have := wpAny_of_headH (Q := Q) (g := l.toArray.size - n) (fun listed a' w' hL => by
    have hdl : (l.toArray.toList.drop n).length = l.toArray.size - n := by simp
    have := wpAny_of_seq (P := P) (md := .any) (Q' := Q) (l.toArray.toList.drop n) n listed a' w' (fun j => by simp [List.getElem?_drop]) (by rw [hdl]; exact hL.1) hL.2
    rwa [hdl] at this) _ _ _ _ (h.go inv0)
  rw [show n + (l.toArray.size - n) = l.toArray.size from by simp; omega] at this
  exact this
/-- One operation alone may come up, in a region that is held: it is a call. -/
theorem wpAnyH_call {i : Nat} {F : FuncId} {args : Array Value} {fuel : Nat} {listed : Array Bool} {w : World} {rest : List Oper} (hr : Region.ready md ops listed = [i]) (hi : ops.toList.drop i = o :: rest) (hgd : o.guard = none) (hrun : (execOp a.eval o).run P w = .ok (.enter F args) w)
    (h : Calls P F args w fun e w' => ∃ v, e = .returned v ∧ S w' ∧ wpAnyH P md ops Q S fuel (listed.setIfInBounds i true) (a.put o.dst v) w') : wpAnyH P md ops Q S (fuel + 1) listed a w :=
  wpAnyH_all hr (by simp) fun j hj => by
    obtain rfl := List.mem_singleton.1 hj
    unfold wpOp
    simp only [ops_get hi]
    rw [if_pos (by simp only [Region.wanted, hgd])]
    left
    unfold Oper.wp
    rw [hrun]
    refine h.mono ?_
    rintro e w' ⟨v, rfl, hS, hh⟩
    exact ⟨hS, hh⟩
end
end Go.Proofs.YtldppmjjgljinaaGreatDoor
