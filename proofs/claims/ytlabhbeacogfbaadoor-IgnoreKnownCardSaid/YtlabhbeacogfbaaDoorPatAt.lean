/- A pattern in memory: its block, its elements' row; what an append of one element does to it. -/
import Derived.Test.YtlabhbeacogfbaaDoorGlobF
import Derived.Test.YtlabhbeacogfbaaDoorGlobM
namespace Go.Proofs.YtlabhbeacogfbaaDoor
open Go.RowKit

theorem elE : ElemK Tryd.prog 79 86 (.agg #[.nilFunc, .bool false]) 2 16 := ⟨by kernel_rfl, by kernel_rfl, rfl, by decide, by decide⟩

/-- The cells of elements. -/
def flatE (l : List (GE × Value)) : List Value := l.flatMap fun x => [x.2, .bool x.1.many]
theorem flatE_snoc (l : List (GE × Value)) (x : GE × Value) : flatE (l ++ [x]) = flatE l ++ [x.2, .bool x.1.many] := by simp [flatE]
theorem flatE_at : ∀ (l : List (GE × Value)) (j : Nat) (x : GE × Value), l[j]? = some x → (flatE l)[2 * j]? = some x.2 ∧ (flatE l)[2 * j + 1]? = some (.bool x.1.many)
  | [], _, _, h => by cases h
  | y :: l, 0, x, h => by cases h; exact ⟨rfl, rfl⟩
  | y :: l, j + 1, x, h => by
    have := flatE_at l j x h
    rw [show 2 * (j + 1) = 2 * j + 1 + 1 from by omega]
    exact this

/-- Elements in memory: a row of two cells each; all that they stand on is far. -/
structure EltsAt (w : World) (bp : Nat) (Far : Nat → Prop) (v : Value) (l : List (GE × Value)) : Prop where
  row : ∃ a cap, v = .slice a l.length cap ∧ l.length ≤ cap ∧ cap ≤ maxLen ∧ ∀ (j : Nat) x, l[j]? = some x → ∃ g, a = some ⟨g, 0, none⟩ ∧ Far g ∧ w.cell? ⟨g, 2 * j, none⟩ = some x.2 ∧ w.cell? ⟨g, 2 * j + 1, none⟩ = some (.bool x.1.many)
  fns : ∀ x ∈ l, GFn w bp Far x.1 x.2

theorem EltsAt.keeps {w w' : World} {bp : Nat} {Far : Nat → Prop} {v : Value} {l : List (GE × Value)} (h : EltsAt w bp Far v l) (k : Keeps Far w w') : EltsAt w' bp Far v l := by
  obtain ⟨a, cap, h1, h2, h3, h4⟩ := h.row
  refine ⟨⟨a, cap, h1, h2, h3, fun j x hj => ?_⟩, fun x hx => (h.fns x hx).keeps k⟩
  obtain ⟨g, h5, h6, h7, h8⟩ := h4 j x hj
  exact ⟨g, h5, h6, k.at_ h6 h7, k.at_ h6 h8⟩
theorem EltsAt.far {w : World} {bp : Nat} {Far Far' : Nat → Prop} {v : Value} {l : List (GE × Value)} (h : EltsAt w bp Far v l) (k : ∀ b, b < w.heap.size → Far b → Far' b) : EltsAt w bp Far' v l := by
  obtain ⟨a, cap, h1, h2, h3, h4⟩ := h.row
  refine ⟨⟨a, cap, h1, h2, h3, fun j x hj => ?_⟩, fun x hx => (h.fns x hx).far k⟩
  obtain ⟨g, h5, h6, h7, h8⟩ := h4 j x hj
  exact ⟨g, h5, k _ (lt_of_cell h7) h6, h7, h8⟩

/-- The pattern that lies in block bp. -/
structure PatAt (w : World) (Far : Nat → Prop) (bp : Nat) (t : ByteArray) (p : Pat) : Prop where
  far : Far bp
  blk : ∃ v l, w.heap[bp]? = some (.cells (patCells (.string t) p.marks p.rooted v) 81 (0, 0)) ∧ EltsAt w bp Far v l ∧ l.map (·.1) = p.es

/-- What is far stays, block by block. -/
structure Stays (Far : Nat → Prop) (w w' : World) : Prop where
  size : w.heap.size ≤ w'.heap.size
  block : ∀ b, Far b → b < w.heap.size → w'.heap[b]? = w.heap[b]?
theorem Stays.keeps {Far : Nat → Prop} {w w' : World} (h : Stays Far w w') : Keeps Far w w' := ⟨h.size, fun b _ hb hl => World.cell?_of_block (h.block b hb hl)⟩
theorem Stays.refl (Far : Nat → Prop) (w : World) : Stays Far w w := ⟨Nat.le_refl _, fun _ _ _ => rfl⟩
theorem Stays.trans {Far : Nat → Prop} {a b c : World} (h : Stays Far a b) (k : Stays Far b c) : Stays Far a c :=
  ⟨Nat.le_trans h.size k.size, fun x hx hl => (k.block x hx (Nat.lt_of_lt_of_le hl h.size)).trans (h.block x hx hl)⟩
theorem Ext.stays {w w' : World} (h : Ext w w') (Far : Nat → Prop) : Stays Far w w' := ⟨h.size, fun _ _ hb => h.block hb⟩
theorem Stays.setCell {Far : Nat → Prop} (w : World) {b o : Nat} (hb : ¬ Far b) (u : Value) : Stays Far w (w.setCell ⟨b, o, none⟩ u) :=
  ⟨by simp, fun x hx _ => heap_setCell_other _ _ _ _ (fun e => hb (by have e' : x = b := e; rwa [e'] at hx))⟩
theorem Stays.grown {Far : Nat → Prop} {w w' : World} {row : Option Nat} (h : w.grownBy w' row) (hr : ∀ k, row = some k → ¬ Far k) : Stays Far w w' :=
  ⟨h.size, fun x hx hl => h.block x hl (fun e => hr x e.symm hx)⟩
theorem Stays.weaken {Far Far' : Nat → Prop} {w w' : World} (h : Stays Far w w') (k : ∀ b, b < w.heap.size → Far' b → Far b) : Stays Far' w w' :=
  ⟨h.size, fun b hb hl => h.block b (k b hl hb) hl⟩

theorem PatAt.stays {w w' : World} {Far : Nat → Prop} {bp : Nat} {t : ByteArray} {p : Pat} (h : PatAt w Far bp t p) (k : Stays Far w w') : PatAt w' Far bp t p := by
  obtain ⟨v, l, h1, h2, h3⟩ := h.blk
  exact ⟨h.far, v, l, (k.block bp h.far (lt_of_block h1)).trans h1, h2.keeps k.keeps, h3⟩
theorem PatAt.farther {w : World} {Far Far' : Nat → Prop} {bp : Nat} {t : ByteArray} {p : Pat} (h : PatAt w Far bp t p) (k : ∀ b, b < w.heap.size → Far b → Far' b) : PatAt w Far' bp t p := by
  obtain ⟨v, l, h1, h2, h3⟩ := h.blk
  exact ⟨k _ (lt_of_block h1) h.far, v, l, h1, h2.far k, h3⟩
theorem PatAt.ext {w w' : World} {Far : Nat → Prop} {bp : Nat} {t : ByteArray} {p : Pat} (h : PatAt w Far bp t p) (k : Ext w w') : PatAt w' Far bp t p := h.stays (k.stays Far)

/-- Memory while elements are appended to the pattern in block bp. -/
structure ParInv (w : World) (bp : Nat) (t : ByteArray) (m : Marks) (r : Bool) (wr : World) (v : Value) (l : List (GE × Value)) : Prop where
  ext : Ext w wr
  ge : w.heap.size ≤ bp
  blk : wr.heap[bp]? = some (.cells (patCells (.string t) m r v) 81 (0, 0))
  own : wr.ownsRow (bp + 1) 86 2 v l.length (flatE l)
  fns : ∀ x ∈ l, GFn wr bp (fun b => bp < b ∧ some b ≠ v.ownBlock) x.1 x.2

theorem patCells_el (t el u : Value) (m : Marks) (r : Bool) : (patCells t m r el).setIfInBounds 5 u = patCells t m r u := rfl

/-- One element more: first memory is made, then the row is appended to, then the field is stored. -/
theorem ParInv.push {w wr w1 w2 : World} {bp : Nat} {t : ByteArray} {m : Marks} {r : Bool} {v v' : Value} {l : List (GE × Value)} {x : GE × Value} (I : ParInv w bp t m r wr v l) (h1 : Ext wr w1)
    (hx : GFn w1 bp (fun b => wr.heap.size ≤ b) x.1 x.2) (hown : w2.ownsRow (bp + 1) 86 2 v' (l.length + 1) (flatE l ++ [x.2, .bool x.1.many])) (hg : w1.grownBy w2 v.ownBlock)
    (hw : v'.ownBlock = v.ownBlock ∨ v'.ownBlock = some w1.heap.size) : ParInv w bp t m r (w2.setCell ⟨bp, 5, none⟩ v') v' (l ++ [x]) := by
  have hlt := lt_of_block I.blk
  have hge := own_block_ge_k I.own
  have hlo := fun k hk => (I.own.lt k hk).2
  have hS : Stays (fun b => bp < b ∧ some b ≠ v.ownBlock) w1 (w2.setCell ⟨bp, 5, none⟩ v') :=
    (Stays.grown hg (fun k hk hf => hf.2 hk.symm)).trans (Stays.setCell _ (fun hf => Nat.lt_irrefl _ hf.1) _)
  have hb2 : w2.heap[bp]? = some (.cells (patCells (.string t) m r v) 81 (0, 0)) := by
    rw [hg.block bp (Nat.lt_of_lt_of_le hlt h1.size) (fun e => by have := hge bp e.symm; omega), h1.block hlt]; exact I.blk
  have farv : ∀ b, b < w1.heap.size → (bp < b ∧ some b ≠ v.ownBlock) → (bp < b ∧ some b ≠ v'.ownBlock) := fun b hb hf => by
    refine ⟨hf.1, fun e => ?_⟩
    rcases hw with h | h
    · exact hf.2 (e.trans h)
    · have := Option.some.inj (e.trans h); omega
  refine ⟨?_, I.ge, ?_, ?_, ?_⟩
  · exact ((I.ext.trans h1).grown hg (Nat.le_trans I.ext.size h1.size) (fun k hk => by have := hge k hk; have := I.ge; omega)).setCell (by simp; have := I.ge; omega) _
  · have := heap_setCell_same w2 bp 5 _ _ v' hb2
    rwa [patCells_el] at this
  · rw [List.length_append, flatE_snoc]
    exact owns_setCell hown (by omega)
  · intro y hy
    have key : GFn w1 bp (fun b => bp < b ∧ some b ≠ v.ownBlock) y.1 y.2 := by
      rcases List.mem_append.1 hy with h | h
      · exact (I.fns y h).keeps (h1.keeps _)
      · obtain rfl := List.mem_singleton.1 h
        exact hx.far (fun b _ hb => ⟨by omega, fun e => by have := hlo b e.symm; omega⟩)
    have key2 : GFn w1 bp (fun b => (bp < b ∧ some b ≠ v.ownBlock) ∧ some b ≠ v'.ownBlock) y.1 y.2 := key.far fun b hb hf => ⟨hf, (farv b hb hf).2⟩
    exact (key2.keeps (hS.weaken fun b _ hf => hf.1).keeps).far fun b _ hf => ⟨hf.1.1, hf.2⟩

end Go.Proofs.YtlabhbeacogfbaaDoor
