/- Memory while caravan/ignore's Parse reads files. -/
import Derived.Test.YtlabhbeacogfbaaDoorIgnD
import Derived.Test.YtlabhbeacogfbaaDoorMaps
import Derived.Test.YtlabhbeacogfbaaDoorPathC
import Derived.Shelf.Strings.SlTrimAscii
import Derived.Maps.Range
namespace Go.Proofs.YtlabhbeacogfbaaDoor
open Go.RowKit

/-- strings.Trim at blanks and tabs. -/
theorem trim_any (s : ByteArray) (w : World) (hs : s.size ≤ 9223372036854775807) :
    Calls Tryd.prog 23 #[.string s, .string ⟨#[32, 9]⟩] w fun e w' => e = .returned (.string (bsL (trimT s.toList))) ∧ Ext w w' := by
  refine (Any.strings_Trim_laid Tryd.lays160 (by kernel_rfl) s ⟨#[32, 9]⟩ w hs (by decide) (fun j b hb => ?_)).mono fun e w' ⟨h1, h2⟩ => ⟨?_, h2⟩
  · match j, hb with
    | 0, hb => cases hb; decide
    | 1, hb => cases hb; decide
  · rw [h1, Lib.toList_data]; rfl

/-- strings.Split at newlines. -/
theorem splitNewline (s : ByteArray) (w : World) (hs : s.size < 4294967281) (E : Env w) :
    Calls Tryd.prog 27 #[.string s, .string ⟨#[10]⟩] w fun e w' =>
      e = .returned (.slice (some ⟨w.heap.size, 0, none⟩) (nlOf s).length (nlOf s).length) ∧ w' = w.alloc (.cells ((nlOf s).map Value.string).toArray 9) := by
  obtain ⟨m, hm⟩ := E.maxlen
  have h := Lib.splitB_all ⟨#[10]⟩ (by decide) 0 _ s rfl
  have h2 := Tryd.strings_Split s ⟨#[10]⟩ m _ hs hm (by decide)
  rw [show (nlOf s).length = Lib.countB s ⟨#[10]⟩ + 1 from h]
  exact h2
theorem nlOf_len (s : ByteArray) : (nlOf s).length ≤ s.size + 1 := by
  have h : (nlOf s).length = Lib.countB s ⟨#[10]⟩ + 1 := Lib.splitB_all ⟨#[10]⟩ (by decide) 0 _ s rfl
  have := Lib.countB_le ⟨#[10]⟩ (by decide) s.size s (Nat.le_refl _)
  omega
theorem nlOf_sizes (s x : ByteArray) (h : x ∈ nlOf s) : x.size ≤ s.size := splitB_sizes _ _ _ _ h

/-- The first file of a name, by texts. -/
def findB : List (ByteArray × ByteArray) → ByteArray → Option (ByteArray × ByteArray)
  | [], _ => none
  | f :: fs, n => if f.1 = n then some f else findB fs n
theorem findB_list (fs : List (ByteArray × ByteArray)) (n : ByteArray) : findL (fsL fs) n.toList = (findB fs n).map fun f => f.2.toList := by
  induction fs with
  | nil => rfl
  | cons f fs ih =>
    show (if f.1.toList == n.toList then some f.2.toList else findL (fsL fs) n.toList) = _
    by_cases h : f.1 = n
    · rw [findB, if_pos h, h]; simp
    · rw [findB, if_neg h, ← ih, if_neg (by simpa using fun e => h (ba_ext e))]
theorem findB_name {fs : List (ByteArray × ByteArray)} {n : ByteArray} {f : ByteArray × ByteArray} (h : findB fs n = some f) : f ∈ fs := by
  induction fs with
  | nil => cases h
  | cons g fs ih =>
    unfold findB at h
    split at h
    · cases h; exact List.mem_cons_self
    · exact List.mem_cons_of_mem _ (ih h)
def textV (f : ByteArray × ByteArray) : Value := .agg #[.string f.1, .string f.2]

/-- What is far: the blocks made since the reading began, but for the row of patterns. -/
def FarV (s1 : Nat) (v : Value) (b : Nat) : Prop := s1 + 7 ≤ b ∧ some b ≠ v.ownBlock

/-- Memory while files are read. The blocks: s0 the map of files, s0 + 1 its variable; s1 the list, s1 + 1 its variable, s1 + 2 the map of open files, s1 + 3 its variable, s1 + 4 how many lines have included a file, s1 + 5 and s1 + 6 the two functions. -/
structure IgInv (w0 : World) (s0 s1 : Nat) (fs : List (ByteArray × ByteArray)) (wi : List ByteArray) (v : Value) (ps : List (ByteArray × Pat × Nat)) (inc n : Nat) (w : World) : Prop where
  ext : Ext w0 w
  env : Env w0
  ord : w0.heap.size ≤ s0 ∧ s0 + 2 ≤ s1
  ct : w.cell? ⟨s0 + 1, 0, none⟩ = some (.map (some s0))
  texts : ∃ k, MapAt w s0 k fun x => (findB fs x).map textV
  co : w.cell? ⟨s1 + 3, 0, none⟩ = some (.map (some (s1 + 2)))
  opens : ∃ f, MapAt w (s1 + 2) n f ∧ ∀ x, x.size ≤ maxLen → (f x).getD (.int .i64 0) = .int .i64 (if (wi.map (·.toList)).contains x.toList then 1 else 0)
  ci : w.heap[s1 + 4]? = some (.cells #[.int .i64 inc] 3 (0, 0))
  cr : w.cell? ⟨s1 + 5, 0, none⟩ = some (.func (.func 26) #[] #[.pointer (some ⟨s0 + 1, 0, none⟩), .pointer (some ⟨s1 + 3, 0, none⟩), .pointer (some ⟨s1 + 4, 0, none⟩), .pointer (some ⟨s1 + 6, 0, none⟩)])
  cn : w.cell? ⟨s1 + 6, 0, none⟩ = some (.func (.func 22) #[] #[.pointer (some ⟨s1 + 4, 0, none⟩), .pointer (some ⟨s1 + 5, 0, none⟩), .pointer (some ⟨s1 + 1, 0, none⟩)])
  cl : w.cell? ⟨s1 + 1, 0, none⟩ = some (.pointer (some ⟨s1, 0, none⟩))
  blk : w.heap[s1]? = some (.cells #[v] 52 (0, 0))
  size : s1 + 7 ≤ w.heap.size
  own : w.ownsRow (s1 + 7) 57 1 v ps.length (ps.map fun x => Value.pointer (some ⟨x.2.2, 0, none⟩))
  pats : ∀ x ∈ ps, PatAt w (FarV s1 v) x.2.2 x.1 x.2.1 ∧ patL x.1.toList = .ok x.2.1

theorem Env.of_ext {w w' : World} (h : Env w) (k : Ext w w') : Env w' := h.ext k

/-- A step that leaves the nine blocks and what is far. -/
theorem IgInv.on {w0 w w1 : World} {s0 s1 : Nat} {fs : List (ByteArray × ByteArray)} {wi : List ByteArray} {v : Value} {ps : List (ByteArray × Pat × Nat)} {inc n : Nat} (I : IgInv w0 s0 s1 fs wi v ps inc n w) (x : Ext w w1) : IgInv w0 s0 s1 fs wi v ps inc n w1 := by
  obtain ⟨k, hk⟩ := I.texts
  obtain ⟨f, hf, hf2⟩ := I.opens
  refine ⟨I.ext.trans x, I.env, I.ord, (x.cell (lt_of_cell I.ct)).trans I.ct, ⟨k, hk.ext x⟩, (x.cell (lt_of_cell I.co)).trans I.co, ⟨f, hf.ext x, hf2⟩, (x.block (lt_of_block I.ci)).trans I.ci, (x.cell (lt_of_cell I.cr)).trans I.cr, (x.cell (lt_of_cell I.cn)).trans I.cn,
    (x.cell (lt_of_cell I.cl)).trans I.cl, (x.block (lt_of_block I.blk)).trans I.blk, Nat.le_trans I.size x.size, owns_ext I.own x, fun y hy => ⟨(I.pats y hy).1.ext x, (I.pats y hy).2⟩⟩

/-- One of the small blocks is stored into. -/
theorem IgInv.ext_set {w0 w w1 : World} {s0 s1 : Nat} {fs : List (ByteArray × ByteArray)} {wi : List ByteArray} {v : Value} {ps : List (ByteArray × Pat × Nat)} {inc n : Nat} (I : IgInv w0 s0 s1 fs wi v ps inc n w) {b : Nat} (hb : s1 ≤ b) (hg : w.grownBy w1 (some b)) : Ext w0 w1 :=
  I.ext.grown hg I.ext.size (fun k hk => by cases hk; have := I.ord; omega)
theorem IgInv.included {w0 w : World} {s0 s1 : Nat} {fs : List (ByteArray × ByteArray)} {wi : List ByteArray} {v : Value} {ps : List (ByteArray × Pat × Nat)} {inc n : Nat} (I : IgInv w0 s0 s1 fs wi v ps inc n w) (j : Nat) :
    IgInv w0 s0 s1 fs wi v ps j n (w.setCell ⟨s1 + 4, 0, none⟩ (.int .i64 j)) := by
  obtain ⟨k, hk⟩ := I.texts
  obtain ⟨f, hf, hf2⟩ := I.opens
  have ho := I.ord
  have oth : ∀ b, b ≠ s1 + 4 → (w.setCell ⟨s1 + 4, 0, none⟩ (.int .i64 j)).heap[b]? = w.heap[b]? := fun b hb => heap_setCell_other _ _ _ _ hb
  have cel : ∀ b, b ≠ s1 + 4 → (w.setCell ⟨s1 + 4, 0, none⟩ (.int .i64 j)).cell? ⟨b, 0, none⟩ = w.cell? ⟨b, 0, none⟩ := fun b hb => World.cell?_of_block (oth b hb)
  refine ⟨I.ext.setCell (by show w0.heap.size ≤ s1 + 4; omega) _, I.env, I.ord, (cel _ (by omega)).trans I.ct, ⟨k, hk.kept (oth _ (by omega))⟩, (cel _ (by omega)).trans I.co, ⟨f, hf.kept (oth _ (by omega)), hf2⟩, ?_, (cel _ (by omega)).trans I.cr, (cel _ (by omega)).trans I.cn,
    (cel _ (by omega)).trans I.cl, (oth _ (by omega)).trans I.blk, by simpa using I.size, owns_setCell I.own (by omega), fun y hy => ⟨(I.pats y hy).1.stays (Stays.setCell w (fun h => by have := h.1; omega) _), (I.pats y hy).2⟩⟩
  · exact heap_setCell_same w (s1 + 4) 0 _ _ (.int .i64 j) I.ci

/-- The map of open files is stored into. -/
theorem IgInv.mapped {w0 w w1 : World} {s0 s1 : Nat} {fs : List (ByteArray × ByteArray)} {wi wi' : List ByteArray} {v : Value} {ps : List (ByteArray × Pat × Nat)} {inc n n' : Nat} (I : IgInv w0 s0 s1 fs wi v ps inc n w) (hg : w.grownBy w1 (some (s1 + 2)))
    (hM : ∃ f, MapAt w1 (s1 + 2) n' f ∧ ∀ x, x.size ≤ maxLen → (f x).getD (.int .i64 0) = .int .i64 (if (wi'.map (·.toList)).contains x.toList then 1 else 0)) :
    IgInv w0 s0 s1 fs wi' v ps inc n' w1 := by
  obtain ⟨k, hk⟩ := I.texts
  have ho := I.ord
  have hs := I.size
  have oth : ∀ b, b < w.heap.size → b ≠ s1 + 2 → w1.heap[b]? = w.heap[b]? := fun b hl hb => hg.block b hl (fun e => hb (Option.some.inj e))
  have cel : ∀ b, b < w.heap.size → b ≠ s1 + 2 → w1.cell? ⟨b, 0, none⟩ = w.cell? ⟨b, 0, none⟩ := fun b hl hb => World.cell?_of_block (oth b hl hb)
  refine ⟨I.ext_set (by omega) hg, I.env, I.ord, (cel _ (by omega) (by omega)).trans I.ct, ⟨k, hk.kept (oth _ (by omega) (by omega))⟩, (cel _ (by omega) (by omega)).trans I.co, hM, (oth _ (by omega) (by omega)).trans I.ci, (cel _ (by omega) (by omega)).trans I.cr, (cel _ (by omega) (by omega)).trans I.cn,
    (cel _ (by omega) (by omega)).trans I.cl, (oth _ (by omega) (by omega)).trans I.blk, Nat.le_trans hs hg.size, I.own.kept hg (.inr (fun e => ?_)), fun y hy => ⟨(I.pats y hy).1.stays (Stays.grown hg (fun k hk h => by cases hk; have := h.1; omega)), (I.pats y hy).2⟩⟩
  have := (I.own.lt _ e).1
  omega

/-- What a step may do to what is far. -/
structure IgStep (s1 : Nat) (v v' : Value) (w w' : World) : Prop where
  stays : Stays (FarV s1 v) w w'
  far : ∀ b, b < w.heap.size → FarV s1 v b → FarV s1 v' b
theorem IgStep.refl (s1 : Nat) (v : Value) (w : World) : IgStep s1 v v w w := ⟨Stays.refl _ _, fun _ _ h => h⟩
theorem IgStep.trans {s1 : Nat} {v v' v'' : Value} {a b c : World} (h : IgStep s1 v v' a b) (k : IgStep s1 v' v'' b c) : IgStep s1 v v'' a c :=
  ⟨⟨Nat.le_trans h.stays.size k.stays.size, fun x hx hl => (k.stays.block x (h.far x hl hx) (Nat.lt_of_lt_of_le hl h.stays.size)).trans (h.stays.block x hx hl)⟩,
    fun x hl hx => k.far x (Nat.lt_of_lt_of_le hl h.stays.size) (h.far x hl hx)⟩
theorem IgStep.of_ext {s1 : Nat} {v : Value} {w w' : World} (x : Ext w w') : IgStep s1 v v w w' := ⟨x.stays _, fun _ _ h => h⟩
theorem IgStep.of_set {s1 b : Nat} {v u : Value} {w : World} (hb : b < s1 + 7) : IgStep s1 v v w (w.setCell ⟨b, 0, none⟩ u) := ⟨Stays.setCell w (fun h => by have := h.1; omega) u, fun _ _ h => h⟩
theorem IgStep.of_map {s1 : Nat} {v : Value} {w w' : World} (hg : w.grownBy w' (some (s1 + 2))) : IgStep s1 v v w w' := ⟨Stays.grown hg (fun k hk h => by cases hk; have := h.1; omega), fun _ _ h => h⟩

/-- A pattern more. -/
theorem IgInv.pushed {w0 w w1 w2 : World} {s0 s1 : Nat} {fs : List (ByteArray × ByteArray)} {wi : List ByteArray} {v v' : Value} {ps : List (ByteArray × Pat × Nat)} {inc n bp : Nat} {t : ByteArray} {p : Pat} (I : IgInv w0 s0 s1 fs wi v ps inc n w) (x1 : Ext w w1)
    (hp : PatAt w1 (fun b => w.heap.size ≤ b) bp t p) (ht : patL t.toList = .ok p)
    (hown : w2.ownsRow (s1 + 7) 57 1 v' (ps.length + 1) ((ps.map fun x => Value.pointer (some ⟨x.2.2, 0, none⟩)) ++ [.pointer (some ⟨bp, 0, none⟩)])) (hg : w1.grownBy w2 v.ownBlock)
    (hw : v'.ownBlock = v.ownBlock ∨ v'.ownBlock = some w1.heap.size) :
    IgInv w0 s0 s1 fs wi v' (ps ++ [(t, p, bp)]) inc n (w2.setCell ⟨s1, 0, none⟩ v') ∧ IgStep s1 v v' w (w2.setCell ⟨s1, 0, none⟩ v') := by
  have I1 := I.on x1
  obtain ⟨k, hk⟩ := I1.texts
  obtain ⟨f, hf, hf2⟩ := I1.opens
  have ho := I.ord
  have hs := I1.size
  have hs0 := I.size
  have hge := own_block_ge_k I1.own
  have hlo := fun k hk => (I.own.lt k hk).2
  have oth : ∀ b, b < s1 + 7 → b ≠ s1 → (w2.setCell ⟨s1, 0, none⟩ v').heap[b]? = w1.heap[b]? := fun b hl hb => by
    rw [heap_setCell_other _ _ _ _ hb, hg.block b (by omega) (fun e => by have := hge b e.symm; omega)]
  have cel : ∀ b, b < s1 + 7 → b ≠ s1 → (w2.setCell ⟨s1, 0, none⟩ v').cell? ⟨b, 0, none⟩ = w1.cell? ⟨b, 0, none⟩ := fun b hl hb => World.cell?_of_block (oth b hl hb)
  have hS : Stays (FarV s1 v) w1 (w2.setCell ⟨s1, 0, none⟩ v') := (Stays.grown hg (fun k hk hf => hf.2 hk.symm)).trans (Stays.setCell _ (fun hf => by have := hf.1; omega) _)
  have farv : ∀ b, b < w1.heap.size → FarV s1 v b → FarV s1 v' b := fun b hb hf => ⟨hf.1, fun e => by
    rcases hw with h | h
    · exact hf.2 (e.trans h)
    · have := Option.some.inj (e.trans h); omega⟩
  refine ⟨⟨?_, I.env, I.ord, (cel _ (by omega) (by omega)).trans I1.ct, ⟨k, hk.kept (oth _ (by omega) (by omega))⟩, (cel _ (by omega) (by omega)).trans I1.co, ⟨f, hf.kept (oth _ (by omega) (by omega)), hf2⟩, (oth _ (by omega) (by omega)).trans I1.ci,
    (cel _ (by omega) (by omega)).trans I1.cr, (cel _ (by omega) (by omega)).trans I1.cn, (cel _ (by omega) (by omega)).trans I1.cl, ?_, ?_, ?_, fun y hy => ?_⟩, ⟨?_, ?_⟩⟩
  · exact (I1.ext.grown hg I1.ext.size (fun k hk => by have := hge k hk; omega)).setCell (by show w0.heap.size ≤ s1; omega) _
  · exact heap_setCell_same w2 s1 0 _ _ v' ((hg.block s1 (by omega) (fun e => by have := hge s1 e.symm; omega)).trans I1.blk)
  · have := hg.size; simp; omega
  · rw [List.length_append, List.map_append]
    exact owns_setCell hown (by omega)
  · have key : PatAt w1 (FarV s1 v) y.2.2 y.1 y.2.1 ∧ patL y.1.toList = .ok y.2.1 := by
      rcases List.mem_append.1 hy with h | h
      · exact I1.pats y h
      · obtain rfl := List.mem_singleton.1 h
        exact ⟨hp.farther (fun b _ hb => ⟨by omega, fun e => by have := hlo b e.symm; omega⟩), ht⟩
    have key2 : PatAt w1 (fun b => FarV s1 v b ∧ FarV s1 v' b) y.2.2 y.1 y.2.1 := key.1.farther fun b hb hf => ⟨hf, farv b hb hf⟩
    exact ⟨(key2.stays (hS.weaken fun b _ hf => hf.1)).farther fun b _ hf => hf.2, key.2⟩
  · exact ⟨Nat.le_trans x1.size hS.size, fun b hb hl => (hS.block b hb (Nat.lt_of_lt_of_le hl x1.size)).trans (x1.block hl)⟩
  · exact fun b hl hb => farv b (Nat.lt_of_lt_of_le hl x1.size) hb

/-- What the two functions answer. -/
def IgPost (w0 : World) (s0 s1 : Nat) (fs : List (ByteArray × ByteArray)) (wi : List ByteArray) (v : Value) (inc n slack : Nat) (w : World) (R : Except Nat RSt) (e : Ending) (w' : World) : Prop := match R with
  | .error k => k ≠ 0 ∧ e = .returned (.int .i64 (k : Nat)) ∧ Ext w0 w'
  | .ok st => ∃ v' ps' n', e = .returned (.int .i64 0) ∧ (ps'.map fun x => x.1.toList) = st.pats ∧ IgInv w0 s0 s1 fs wi v' ps' st.inc n' w' ∧ n' + 2 * inc ≤ n + slack + 2 * st.inc ∧ IgStep s1 v v' w w'
theorem IgPost.err {w0 w w' : World} {s0 s1 : Nat} {fs : List (ByteArray × ByteArray)} {wi : List ByteArray} {v : Value} {inc n slack k : Nat} {R : Except Nat RSt} (h : R = .error k) (hk : k ≠ 0) (x : Ext w0 w') :
    IgPost w0 s0 s1 fs wi v inc n slack w R (.returned (.int .i64 (k : Nat))) w' := by unfold IgPost; rw [h]; exact ⟨hk, rfl, x⟩
theorem IgPost.ok {w0 w w' : World} {s0 s1 : Nat} {fs : List (ByteArray × ByteArray)} {wi : List ByteArray} {v v' : Value} {inc n n' slack inc' : Nat} {R : Except Nat RSt} {ps' : List (ByteArray × Pat × Nat)} (h : R = .ok ⟨ps'.map fun x => x.1.toList, inc'⟩)
    (I : IgInv w0 s0 s1 fs wi v' ps' inc' n' w') (hn : n' + 2 * inc ≤ n + slack + 2 * inc') (S : IgStep s1 v v' w w') : IgPost w0 s0 s1 fs wi v inc n slack w R (.returned (.int .i64 0)) w' := by
  unfold IgPost; rw [h]; exact ⟨v', ps', n', rfl, rfl, I, hn, S⟩
end Go.Proofs.YtlabhbeacogfbaaDoor
