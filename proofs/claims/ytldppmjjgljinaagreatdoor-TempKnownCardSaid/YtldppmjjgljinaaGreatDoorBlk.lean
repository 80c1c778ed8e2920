/- A region that draws its order, whose operations read and whose callees leave all that was there as it was (they may make new blocks): one walk of the lexical order serves every order. A region that draws its order, all of whose operations but the last ones read or call quietly in a class of worlds; the last ones come in a forced order and may write. Blocks of cells in a world: what a cell of one holds; a block that a call made. Loading a whole row (a struct) in a region that is walked quietly; a slice of rows at an index. What a call may turn: some blocks that are told, and new ones. -/
import Derived.Test.YtldppmjjgljinaaGreatDoorBase
import Derived.StillTailTactics
import Derived.Laws.Tables
import Derived.Deep.MidRow
namespace Go.Proofs.YtldppmjjgljinaaGreatDoor
open Go.RowKit

/-- A world that has at most new blocks. -/
structure After (w : World) where
  v : World
  x : Ext w v
instance (w : World) : Nonempty (After w) := ⟨⟨w, Ext.refl w⟩⟩

theorem wp_region_after {P : Program} {id : Nat} {Q : Exit → Act → World → Prop} {a : Act} {w : World} {l : List Oper} (hm : P.follows .mixedOrders = true) (hB : Region.lexB .any l.toArray = true)
    (h : wpQuiet P l.toArray (fun w' => ∃ x : After w, w' = x.v) (fun a' => ∀ w', (∃ x : After w, w' = x.v) → Q .normal a' w') l a) : (Code.region id l.toArray true).wp P Q a w :=
  wp_region_quiet (C := fun w' => ∃ x : After w, w' = x.v) hm hB ⟨⟨_, (Ext.refl w).drew⟩, rfl⟩ (by simpa using h)

theorem After.of {P : Program} {f : FuncId} {args : Array Value} {v : Value} {w : World} {x : After w} (h : Calls P f args x.v fun e w' => e = .returned v ∧ Ext x.v w') :
    Calls P f args x.v fun e w'' => e = .returned v ∧ ∃ y : After w, w'' = y.v :=
  h.mono fun _ w'' ⟨he, hx⟩ => ⟨he, ⟨w'', x.x.trans hx⟩, rfl⟩
theorem After.same {P : Program} {f : FuncId} {args : Array Value} {v : Value} {w : World} {x : After w} (h : Calls P f args x.v fun e w' => e = .returned v ∧ w' = x.v) :
    Calls P f args x.v fun e w'' => e = .returned v ∧ ∃ y : After w, w'' = y.v :=
  h.mono fun _ _ ⟨he, hx⟩ => ⟨he, x, hx⟩
theorem After.draws {P : Program} {f : FuncId} {args : Array Value} {v : Value} {w : World} {x : After w} (h : Calls P f args x.v fun e w' => e = .returned v ∧ ∃ n, w' = x.v.drewN n) :
    Calls P f args x.v fun e w'' => e = .returned v ∧ ∃ y : After w, w'' = y.v :=
  h.mono fun _ w'' ⟨he, n, hx⟩ => ⟨he, ⟨w'', hx ▸ x.x.drewN n⟩, rfl⟩
theorem After.cell {w : World} {b o : Nat} {u : Value} (h : w.cell? ⟨b, o, none⟩ = some u) (x : After w) : x.v.cell? ⟨b, o, none⟩ = some u := (x.x.cell (lt_of_cell h)).trans h
end Go.Proofs.YtldppmjjgljinaaGreatDoor

namespace Go.Proofs.YtldppmjjgljinaaGreatDoor
open Go.RowKit

section
variable {P : Program} {ops : Array Oper} {md : Region.Mode} {C : World → Prop}

/-- Whatever order is picked of the first n; then L. -/
def anyHead (P : Program) (md : Region.Mode) (ops : Array Oper) (C : World → Prop) (n : Nat) (L : Array Bool → Act → Prop) : Nat → Array Bool → Act → Prop
  | 0, listed, a => L listed a
  | f + 1, listed, a => Region.ready md ops listed ≠ [] ∧ ∀ i ∈ Region.ready md ops listed, i < n ∧ qOp P ops C i (anyHead P md ops C n L f (listed.setIfInBounds i true)) a

theorem wpAny_of_anyHead {n g : Nat} {L : Array Bool → Act → Prop} {Q : Exit → Act → World → Prop} (hL : ∀ listed a w, C w → L listed a → wpAny P md ops Q g listed a w) :
    ∀ (f : Nat) (listed : Array Bool) (a : Act) (w : World), C w → anyHead P md ops C n L f listed a → wpAny P md ops Q (f + g) listed a w
  | 0, listed, a, w, hw, h => by rw [Nat.zero_add]; exact hL _ _ _ hw h
  | f + 1, listed, a, w, hw, h => by
    rw [show f + 1 + g = (f + g) + 1 from by omega]
    exact ⟨fun h0 => absurd h0 h.1, fun i hi => wpOp_of_qOp hw (fun a' w' hw' h' => wpAny_of_anyHead hL f _ a' w' hw' h') (h.2 i hi).2⟩

/-- An operation of the head that may come up may be taken first. -/
theorem anyHead_first {n i : Nat} {oi : Oper} {v : Value} {L : Array Bool → Act → Prop} (hi : ops[i]? = some oi) (hsel : ∀ (j : Nat) (o : Oper) cs b, ops[j]? = some o → o.op ≠ .select cs b)
    (hs : Region.sinkB md ops n = true) (hc : Region.chainB md ops n = true) (hn : n < ops.size) (hin : i < n) (hdone : ∀ listed a, L listed a → ∀ j ∈ Region.ready md ops listed, n ≤ j)
    (f : Nat) : ∀ (listed : Array Bool) (a : Act), HeadInv md ops n listed →
      (∀ j oj, ops[j]? = some oj → j ≠ i → listed.getD j true = false → (∀ e ∈ oj.after, Region.binds md e = true → e.on ≠ i) → oi.apart ops oj = true) →
      i ∈ Region.ready md ops listed → YieldsIn P ops C oi v a → anyHead P md ops C n L f (listed.setIfInBounds i true) (a.put oi.dst v) → anyHead P md ops C n L (f + 1) listed a := by
  have head : ∀ listed : Array Bool, HeadInv md ops n listed → i ∈ Region.ready md ops listed → ∀ j ∈ Region.ready md ops listed, j < n := fun listed inv hr j hj => by
    rcases Nat.lt_or_ge j n with h | h
    · exact h
    · exact absurd hj (tail_waits hs hc hn inv _ i rfl hin (mem_ready.1 hr).1 j h)
  induction f with
  | zero =>
    intro listed a inv _ hr hy H
    refine ⟨fun h => (by rw [h] at hr; cases hr), fun j hj => ⟨head listed inv hr j hj, ?_⟩⟩
    by_cases hji : j = i
    · subst hji; exact hy.qOp hi H
    · have h1 := hdone _ _ H j (ready_mono hj hji)
      have h2 := head listed inv hr j hj
      omega
  | succ f ih =>
    intro listed a inv hfree hr hy H
    have hun := (mem_ready.1 hr).1
    refine ⟨fun h => (by rw [h] at hr; cases hr), fun j hj => ⟨head listed inv hr j hj, ?_⟩⟩
    by_cases hji : j = i
    · subst hji; exact hy.qOp hi H
    · have h1 := (H.2 j (ready_mono hj hji)).2
      obtain ⟨hjun, oj, hoj, hall⟩ := mem_ready.1 hj
      have hnot : ∀ e ∈ oj.after, Region.binds md e = true → e.on ≠ i := fun e he hb heq => by
        have h1 := hall e he hb
        rw [heq, getD_both hun] at h1
        cases h1
      have h2 := qOp_put hoj (hfree j oj hoj hji hjun hnot) (fun cs b => hsel i oi cs b hi) (fun cs b => hsel j oj cs b hoj) hy h1
      refine qOp_mono (fun a' h3 => ih (listed.setIfInBounds j true) a' (inv.set hj (head listed inv hr j hj)) (fun k ok hk hki hun hno => hfree k ok hk hki ?_ hno) (ready_mono hr (Ne.symm hji)) h3.1 ?_) h2
      · by_cases hjk : j = k
        · subst hjk; exact hjun
        · rw [getD_set_ne true hjk] at hun; exact hun
      · rw [Array.setIfInBounds_comm _ _ hji]
        exact h3.2

theorem anyHead_lex {n g : Nat} {Lq : Act → Prop} (hsel : Region.noSelect ops = true) (hs : Region.sinkB md ops n = true) (hc : Region.chainB md ops n = true) (hn : n < ops.size) :
    ∀ (l : List Oper) (k : Nat) (listed : Array Bool) (a : Act), (∀ j, j < l.length → l[j]? = ops[k + j]?) → k + l.length = n → HeadInv md ops n listed →
    Region.lexHead md ops g l.length k listed = true → wpQuiet P ops C Lq l a →
    anyHead P md ops C n (fun listed' a' => Region.seqB md ops g n listed' = true ∧ Lq a') l.length listed a
  | [], k, listed, a, _, hk, _, hB, h => by
    have : k = n := by simpa using hk
    subst this
    exact ⟨by simpa [Region.lexHead] using hB, h⟩
  | o :: l, k, listed, a, hl, hk, inv, hB, h => by
    have h0 : ops[k]? = some o := by simpa using (hl 0 (by simp)).symm
    simp only [List.length_cons, Region.lexHead, Bool.and_eq_true] at hB
    obtain ⟨⟨hr, hf⟩, hB'⟩ := hB
    have hkn : k < n := by simp only [List.length_cons] at hk; omega
    have hr' : k ∈ Region.ready md ops listed := by simpa using hr
    have hst : qOp P ops C k (wpQuiet P ops C Lq l) a := by unfold qOp; simp only [h0]; exact h
    obtain ⟨v, hy, hK⟩ := yieldsIn_of_qOp h0 hst
    exact anyHead_first h0 (Region.noSelect_spec hsel) hs hc hn hkn (fun listed' a' hL => seqB_ready hL.1) l.length listed a inv (Region.free_spec h0 hf) hr' hy
      (anyHead_lex hsel hs hc hn l (k + 1) _ _ (fun j hj => by have := hl (j + 1) (by simp; omega); simpa [Nat.add_assoc, Nat.add_comm 1 j] using this) (by simp only [List.length_cons] at hk; omega) (inv.set hr' hkn) hB' hK)

/-- One walk of the first n in the order of the text serves every order; then the last ones, as they stand, in every world of the class. -/
theorem wp_region_quiet_tail {id : Nat} {Q : Exit → Act → World → Prop} {a : Act} {w : World} {l : List Oper} (n : Nat) (hm : P.follows .mixedOrders = true) (hB : Region.lexTailB .any l.toArray n = true) (hC : C { w with drawn := w.drawn + 1 })
    (h : wpQuiet P l.toArray C (fun a' => ∀ w', C w' → wpList P l.toArray Q (l.drop n) a' w') (l.take n) a) : (Code.region id l.toArray true).wp P Q a w := by
  simp only [Region.lexTailB, Bool.and_eq_true, decide_eq_true_eq] at hB
  obtain ⟨⟨⟨⟨hsel, hn⟩, hs⟩, hc⟩, hlex⟩ := hB
  have hn' : n < l.length := by simpa using hn
  have htl : (l.take n).length = n := by simp; omega
  have hdl : (l.drop n).length = l.toArray.size - n := by simp
  have inv0 : HeadInv .any l.toArray n (Array.replicate l.toArray.size false) :=
    ⟨by simp, fun j oj _ hl => (by rw [getD_replicate_false] at hl; cases hl), fun t _ ht => getD_in (by simpa using ht) (getD_replicate_false _ _)⟩
  have H := anyHead_lex (md := .any) (g := l.toArray.size - n) hsel hs hc hn (l.take n) 0 _ a (fun j hj => by
    have hj' : j < n := by rw [htl] at hj; exact hj
    simp [hj']) (by simpa using htl) inv0 (by rw [htl]; exact hlex) h
  refine wp_region_any hm ?_
  have := wpAny_of_anyHead (Q := Q) (g := l.toArray.size - n) (fun listed a' w' hw' hL => by
    have := wpAny_of_seq (md := .any) (Q' := Q) (l.drop n) n listed a' w' (fun j => by simp [List.getElem?_drop]) (by rw [hdl]; exact hL.1) (hL.2 w' hw')
    rwa [hdl] at this) _ _ _ _ hC H
  rw [htl, show n + (l.toArray.size - n) = l.toArray.size from by omega] at this
  exact this
end

theorem wp_region_after_tail {P : Program} {id : Nat} {Q : Exit → Act → World → Prop} {a : Act} {w : World} {l : List Oper} (n : Nat) (hm : P.follows .mixedOrders = true) (hB : Region.lexTailB .any l.toArray n = true)
    (h : wpQuiet P l.toArray (fun w' => ∃ x : After w, w' = x.v) (fun a' => ∀ w', (∃ x : After w, w' = x.v) → wpList P l.toArray Q (l.drop n) a' w') (l.take n) a) : (Code.region id l.toArray true).wp P Q a w :=
  wp_region_quiet_tail (C := fun w' => ∃ x : After w, w' = x.v) n hm hB ⟨⟨_, (Ext.refl w).drew⟩, rfl⟩ h
end Go.Proofs.YtldppmjjgljinaaGreatDoor

namespace Go.Proofs.YtldppmjjgljinaaGreatDoor
open Go.RowKit

theorem cellB {w : World} {b k : Nat} {cs : Array Value} {t : TypeId} {m : Nat × Nat} (h : w.heap[b]? = some (.cells cs t m)) : w.cell? ⟨b, k, none⟩ = cs[k]? := by
  unfold World.cell?
  simp [h]
theorem frozenB {w : World} {b k : Nat} {cs : Array Value} {t : TypeId} (h : w.heap[b]? = some (.cells cs t (0, 0))) : w.frozen? ⟨b, k, none⟩ = false := by
  unfold World.frozen?
  simp [h]
theorem ltB {w : World} {b : Nat} {o : Obj} (h : w.heap[b]? = some o) : b < w.heap.size := (Array.getElem?_eq_some_iff.1 h).1
theorem setCellB {w : World} {b k : Nat} {cs : Array Value} {t : TypeId} {m : Nat × Nat} {u : Value} (h : w.heap[b]? = some (.cells cs t m)) : (w.setCell ⟨b, k, none⟩ u).heap[b]? = some (.cells (cs.setIfInBounds k u) t m) := by
  unfold World.setCell
  simp [Array.getElem?_modify, h]
theorem setCellO {w : World} {b b' k : Nat} {u : Value} (h : b' ≠ b) : (w.setCell ⟨b, k, none⟩ u).heap[b']? = w.heap[b']? := by
  unfold World.setCell
  simp [Array.getElem?_modify, Ne.symm h]
/-- A region that draws its order, in a world of a class that was laid ahead of it. -/
theorem wp_region_after0 {P : Program} {id : Nat} {Q : Exit → Act → World → Prop} {a : Act} {w : World} {l : List Oper} (y : After w) (hm : P.follows .mixedOrders = true) (hB : Region.lexB .any l.toArray = true)
    (h : wpQuiet P l.toArray (fun w' => ∃ x : After w, w' = x.v) (fun a' => ∀ w', (∃ x : After w, w' = x.v) → Q .normal a' w') l a) : (Code.region id l.toArray true).wp P Q a y.v :=
  wp_region_quiet (C := fun w' => ∃ x : After w, w' = x.v) hm hB ⟨⟨_, y.x.drew⟩, rfl⟩ (by simpa using h)
theorem wp_region_after_tail0 {P : Program} {id : Nat} {Q : Exit → Act → World → Prop} {a : Act} {w : World} {l : List Oper} (y : After w) (n : Nat) (hm : P.follows .mixedOrders = true) (hB : Region.lexTailB .any l.toArray n = true)
    (h : wpQuiet P l.toArray (fun w' => ∃ x : After w, w' = x.v) (fun a' => ∀ w', (∃ x : After w, w' = x.v) → wpList P l.toArray Q (l.drop n) a' w') (l.take n) a) : (Code.region id l.toArray true).wp P Q a y.v :=
  wp_region_quiet_tail (C := fun w' => ∃ x : After w, w' = x.v) n hm hB ⟨⟨_, y.x.drew⟩, rfl⟩ h
theorem After.at {w : World} {b k : Nat} {cs : Array Value} {t : TypeId} {m : Nat × Nat} (h : w.heap[b]? = some (.cells cs t m)) (v : After w) : v.v.cell? ⟨b, k, none⟩ = cs[k]? := cellB ((v.x.block (ltB h)).trans h)
theorem After.free {w : World} {b k : Nat} {cs : Array Value} {t : TypeId} (h : w.heap[b]? = some (.cells cs t (0, 0))) (v : After w) : v.v.frozen? ⟨b, k, none⟩ = false := frozenB ((v.x.block (ltB h)).trans h)
/-- A value of an array's or struct's type that is built: its cells as given. -/
theorem wpList_buildAs {P : Program} {ops : Array Oper} {rest : List Oper} {o : Oper} {a : Act} {w : World} {Q : Exit → Act → World → Prop} (cells : Array Value) (hg : o.guard = none) (t : TypeId) (parts : Array (Nat × Operand)) (ho : o.op = .build t parts)
    (hf : P.built t (parts.map fun (i, x) => (i, a.eval x)).toList = some cells) (h : wpList P ops Q rest (a.put o.dst (.agg cells)) w) : wpList P ops Q (o :: rest) a w :=
  wpList_build hg t parts ho (by rw [hf]; rfl) (by rw [hf]; exact h)
theorem Ext.setRow {w w' : World} (h : Ext w w') {g : Nat} (hg : w.heap.size ≤ g) (cs : Array Value) : Ext w (w'.setRow g cs) :=
  Below.trans h ⟨rfl, rfl, rfl, by rw [setRow_size]; exact Nat.le_refl _, fun k hk => setRow_other _ _ _ _ (by omega)⟩
end Go.Proofs.YtldppmjjgljinaaGreatDoor

namespace Go.Proofs.YtldppmjjgljinaaGreatDoor
open Go.RowKit

theorem wpQuiet_load_row {P : Program} {ops : Array Oper} {C : World → Prop} {Q : Act → Prop} {a : Act} {o : Oper} {rest : List Oper} (hgd : o.guard = none) (ty : TypeId) (x : Operand) (ho : o.op = .load ty x)
    (g : Nat) (hx : a.eval x = .pointer (some ⟨g, 0, none⟩)) (t : TypeId) (cs : Array Value) (fr : Nat × Nat) (d : TypeDesc) (hg : ∀ w, C w → w.heap[g]? = some (.cells cs t fr))
    (hu : P.underlying ty = some d) (hd : (match d with | .struct _ | .array _ _ => true | _ => false) = true) (hi : (P.info? ty).map (·.size) = some cs.size)
    (h : wpQuiet P ops C Q rest (a.put o.dst (.agg cs))) : wpQuiet P ops C Q (o :: rest) a :=
  wpQuiet_step fun K hK => by
    rw [if_pos (by simp only [Region.wanted, hgd])]
    refine ⟨.agg cs, fun w hw => ?_, hK _ h⟩
    unfold Oper.quietAt execOp
    simp only [ho, hx, Instr.loadAt, Instr.sureAddr, Sem.run_bind, Sem.run_pure, Result.andThen_ok, run_loadVar_row w g t ty cs fr d (hg w hw) hu hd hi]
    exact ⟨rfl, rfl⟩
/-- A struct that lies anywhere in a row. -/
theorem wpList_load_at {P : Program} {ops : Array Oper} {rest : List Oper} {op : Oper} {a : Act} {w : World} {Q : Exit → Act → World → Prop} (hgd : op.guard = none) (ty : TypeId) (x : Operand) (ho : op.op = .load ty x)
    (b o : Nat) (hx : a.eval x = .pointer (some ⟨b, o, none⟩)) (cs : Array Value) (d : TypeDesc) (hc : w.rangeAt b o cs.toList)
    (hu : P.underlying ty = some d) (hd : d.isRow = true) (hi : (P.info? ty).map (·.size) = some cs.size)
    (h : wpList P ops Q rest (a.put op.dst (.agg cs)) w) : wpList P ops Q (op :: rest) a w :=
  wpList_load_mid hgd ty x ho b o hx cs.toList d hc hu hd (by rw [hi]; simp) (by simpa using h)
theorem wpQuiet_load_at {P : Program} {ops : Array Oper} {C : World → Prop} {Q : Act → Prop} {a : Act} {o : Oper} {rest : List Oper} (hgd : o.guard = none) (ty : TypeId) (x : Operand) (ho : o.op = .load ty x)
    (b off : Nat) (hx : a.eval x = .pointer (some ⟨b, off, none⟩)) (cs : Array Value) (d : TypeDesc) (hc : ∀ w, C w → w.rangeAt b off cs.toList)
    (hu : P.underlying ty = some d) (hd : d.isRow = true) (hi : (P.info? ty).map (·.size) = some cs.size)
    (h : wpQuiet P ops C Q rest (a.put o.dst (.agg cs))) : wpQuiet P ops C Q (o :: rest) a :=
  wpQuiet_step fun K hK => by
    rw [if_pos (by simp only [Region.wanted, hgd])]
    refine ⟨.agg cs, fun w hw => ?_, hK _ h⟩
    unfold Oper.quietAt execOp
    simp only [ho, hx, Instr.loadAt, Instr.sureAddr, Sem.run_bind, Sem.run_pure, Result.andThen_ok, run_loadVar_mid w b off ty cs.toList d (hc w hw) hu hd (by rw [hi]; simp)]
    exact ⟨rfl, by simp⟩
end Go.Proofs.YtldppmjjgljinaaGreatDoor

namespace Go.Proofs.YtldppmjjgljinaaGreatDoor
open Go.RowKit

structure Chg (F : List Nat) (w w' : World) : Prop where
  os : w'.os = w.os
  tape : w'.tape = w.tape
  output : w'.output = w.output
  size : w.heap.size ≤ w'.heap.size
  block : ∀ b, b < w.heap.size → b ∉ F → w'.heap[b]? = w.heap[b]?
theorem Chg.refl (F : List Nat) (w : World) : Chg F w w := ⟨rfl, rfl, rfl, Nat.le_refl _, fun _ _ _ => rfl⟩
theorem Ext.chg {w w' : World} (h : Ext w w') (F : List Nat) : Chg F w w' := ⟨Below.os h, Below.tape h, Below.output h, h.size, fun _ hb _ => h.block hb⟩
theorem Chg.trans {F G : List Nat} {a b c : World} (h : Chg F a b) (k : Chg G b c) (hg : ∀ x ∈ G, x ∈ F ∨ a.heap.size ≤ x) : Chg F a c :=
  ⟨k.os.trans h.os, k.tape.trans h.tape, k.output.trans h.output, Nat.le_trans h.size k.size, fun x hx hF =>
    (k.block x (Nat.lt_of_lt_of_le hx h.size) (fun hm => (hg x hm).elim hF fun hge => absurd hx (Nat.not_lt.2 hge))).trans (h.block x hx hF)⟩
theorem Chg.trans_ext {F : List Nat} {a b c : World} (h : Chg F a b) (k : Ext b c) : Chg F a c := h.trans (k.chg []) (fun _ hx => by cases hx)
theorem Chg.mono {F G : List Nat} {w w' : World} (h : Chg F w w') (hs : ∀ x ∈ F, x ∈ G) : Chg G w w' := ⟨h.os, h.tape, h.output, h.size, fun b hb hn => h.block b hb fun hm => hn (hs b hm)⟩
theorem Chg.old {F G : List Nat} {w w' : World} (h : Chg F w w') (hs : ∀ x ∈ F, x ∈ G ∨ w.heap.size ≤ x) : Chg G w w' :=
  ⟨h.os, h.tape, h.output, h.size, fun b hb hn => h.block b hb fun hm => (hs b hm).elim hn fun hge => absurd hb (Nat.not_lt.2 hge)⟩
theorem Chg.ext {F : List Nat} {w0 w w' : World} (x : Ext w0 w) (h : Chg F w w') (hF : ∀ b ∈ F, w0.heap.size ≤ b) : Ext w0 w' :=
  Below.trans x ⟨h.os, h.tape, h.output, h.size, fun k hk => h.block k (Nat.lt_of_lt_of_le hk x.size) fun hm => absurd hk (Nat.not_lt.2 (hF k hm))⟩
theorem Chg.grown {w w' : World} {b : Nat} {F : List Nat} (h : w.grownBy w' (some b)) (hb : b ∈ F) : Chg F w w' :=
  ⟨h.os, h.tape, h.output, h.size, fun x hx hn => h.block x hx fun e => hn (by rw [Option.some.inj e]; exact hb)⟩
theorem Chg.grownO {w w' : World} {r : Option Nat} {F : List Nat} (h : w.grownBy w' r) (hb : ∀ b, r = some b → b ∈ F ∨ w.heap.size ≤ b) : Chg F w w' :=
  ⟨h.os, h.tape, h.output, h.size, fun x hx hn => h.block x hx fun e => (hb x e.symm).elim hn fun hge => absurd hx (Nat.not_lt.2 hge)⟩
theorem Chg.setCell (w : World) (p : Addr) (v : Value) {F : List Nat} (hb : p.block ∈ F) : Chg F w (w.setCell p v) := by
  obtain ⟨b, o, s⟩ := p
  refine ⟨rfl, rfl, rfl, by simp, fun x _ hn => ?_⟩
  have : x ≠ b := fun e => hn (by rw [e]; exact hb)
  unfold World.setCell
  simp [Array.getElem?_modify, Ne.symm this]
theorem Chg.alloc {F : List Nat} {w w' : World} (h : Chg F w w') (o : Obj) : Chg F w (w'.alloc o) := h.trans_ext ((Ext.refl _).alloc o)
theorem Chg.cell {F : List Nat} {w w' : World} (h : Chg F w w') {b o : Nat} (hb : b < w.heap.size) (hn : b ∉ F) : w'.cell? ⟨b, o, none⟩ = w.cell? ⟨b, o, none⟩ := World.cell?_of_block (h.block b hb hn)
theorem block_alloc_old {w : World} {o : Obj} {b : Nat} (h : b < w.heap.size) : (w.alloc o).heap[b]? = w.heap[b]? := ((Ext.refl w).alloc o).block h
theorem block_alloc_new (w : World) (o : Obj) : (w.alloc o).heap[w.heap.size]? = some o := by
  show (w.heap.push o)[w.heap.size]? = _
  rw [Array.getElem?_push_size]
theorem size_alloc (w : World) (o : Obj) : (w.alloc o).heap.size = w.heap.size + 1 := by
  show (w.heap.push o).size = _
  rw [Array.size_push]
end Go.Proofs.YtldppmjjgljinaaGreatDoor
