/- Contracts of caravanref08's Read and Parse. Printed by gen_ignc.py. -/
import Derived.Test.YtlabhbeacogfbaaDoorIgnB
import Derived.Laws.AppendOwnNone
import Derived.Maps.Range
namespace Go.Proofs.YtlabhbeacogfbaaDoor
open Go.RowKit

/-- The rows of two slice values lie apart. -/
def Avoid (v u : Value) : Prop := ∀ g, u.ownBlock = some g → v.ownBlock ≠ some g
theorem Ext.grownBy {w w' : World} (h : Ext w w') (row : Option Nat) : w.grownBy w' row := ⟨h.os, h.tape, h.output, h.size, fun _ hk _ => h.block hk⟩
theorem CellsAt.grown {w w' : World} {v u : Value} {xs : List Value} (h : CellsAt w u xs) (hg : w.grownBy w' v.ownBlock) (ha : Avoid v u) : CellsAt w' u xs := by
  rcases h with h | ⟨g, cap, h1, h2, h3, h4, h5⟩
  · exact .inl h
  · have hne : some g ≠ v.ownBlock := fun e => ha g (by rw [h1]; rfl) e.symm
    exact .inr ⟨g, cap, h1, Nat.lt_of_lt_of_le h2 hg.size, h3, h4, fun j u hj => (World.cell?_of_block (hg.block g h2 hne)).trans (h5 j u hj)⟩
theorem CellsAt.lt {w : World} {u : Value} {xs : List Value} (h : CellsAt w u xs) : ∀ g, u.ownBlock = some g → g < w.heap.size := by
  intro g hg
  rcases h with ⟨h1, _⟩ | ⟨g', cap, h1, h2, _⟩
  · subst h1; simp [Value.ownBlock] at hg
  · subst h1; simp [Value.ownBlock] at hg; omega
theorem CellsAt.shape {w : World} {u : Value} {xs : List Value} (h : CellsAt w u xs) : ∃ a cap, u = .slice a xs.length cap ∧ xs.length ≤ cap ∧ cap ≤ maxLen ∧ ∀ (j : Nat) x, xs[j]? = some x → ∃ g, a = some ⟨g, 0, none⟩ ∧ w.cell? ⟨g, j, none⟩ = some x := by
  rcases h with ⟨h1, h2⟩ | ⟨g, cap, h1, h2, h3, h4, h5⟩
  · subst h2; exact ⟨none, 0, h1, Nat.le_refl _, by unfold maxLen; omega, fun j x hj => by cases hj⟩
  · exact ⟨_, cap, h1, h3, h4, fun j x hj => ⟨g, rfl, h5 j x hj⟩⟩

theorem patL_err {s : Txt} {k : Nat} (h : patL s = .error k) : k = 3 ∨ k = 4 := by
  unfold patL at h
  split at h
  · cases h; exact .inl rfl
  · split at h
    · cases h; exact .inr rfl
    · split at h
      · cases h; exact .inr rfl
      · split at h
        · cases h; exact .inr rfl
        · cases h

theorem ones_str (l : List ByteArray) : ∀ x ∈ l.map Value.string, x.oneCell' = true := by
  intro x hx
  obtain ⟨y, _, rfl⟩ := List.mem_map.1 hx
  rfl

theorem elS : ElemK Tryd.prog 28 9 (.string ByteArray.empty) 1 16 := ⟨by kernel_rfl, by kernel_rfl, rfl, by decide, by decide⟩
theorem new1 {w : World} {v : Value} {t : TypeId} {g : Nat} (h : g = w.heap.size) : ∀ (j : Nat) u, [v][j]? = some u → (w.alloc (.cells #[v] t)).cell? ⟨g, j, none⟩ = some u := by
  intro j u hj
  rw [cell_alloc_new h, ← hj]; simp
theorem one1 (x : ByteArray) : ∀ u ∈ [Value.string x], u.oneCell' = true := by
  intro u hu
  obtain rfl := List.mem_singleton.1 hu
  rfl

/-- Append of what a slice holds to nothing. -/
theorem append_copy {P : Program} {ops : Array Oper} {rest : List Oper} {o : Oper} {a : Act} {Q : Exit → Act → World → Prop} {w : World} {t e : TypeId} {z : Value} {bytes : Nat} (el : Elem P t e z bytes)
    (u : Value) (xs : List Value) (hu : CellsAt w u xs) (h1 : ∀ x ∈ xs, x.oneCell' = true) (s x : Operand)
    (hgd : o.guard = none) (ho : o.op = .call { callee := .builtin .append, args := #[s, x], argTypes := #[t, t] })
    (hs : a.eval s = .slice none 0 0) (hx : a.eval x = u) (hn : xs.length ≤ 68719476736)
    (h : ∀ v' w', w'.ownsRow w.heap.size e 1 v' xs.length xs → Ext w w' → wpList P ops Q rest (a.put o.dst v') w') : wpList P ops Q (o :: rest) a w := by
  obtain ⟨i, hi, hz, hsz, hby⟩ := info_parts el.info
  have hf := el.few
  rcases hu with ⟨rfl, rfl⟩ | ⟨g, cap, rfl, hg, hc, hm, hcells⟩
  · exact wpList_append_own_none hgd s x t ho w.heap.size e i 1 el.ut hi _ 0 [] hs (World.ownsRow_nil _ _ _ _) hx (h _ _ (World.ownsRow_nil _ _ _ _) (Ext.refl _))
  · refine wpList_append_own w hgd s x t ho w.heap.size e i z 1 bytes el.ut hi hz hsz hby el.one (by decide) _ 0 [] hs (World.ownsRow_nil _ _ _ _) ⟨g, 0, none⟩ xs.length cap xs hx (by simp) (fun j y hj => ?_) h1 ?_ ?_ (Nat.le_refl _) ?_
    · rw [show (⟨g, 0, none⟩ : Addr).add j = ⟨g, 0 + j, none⟩ from append_kw.add_off, Nat.zero_add]; exact hcells j y hj
    · unfold maxLen; omega
    · have : (0 + xs.length) * bytes ≤ (0 + xs.length) * 1024 := Nat.mul_le_mul_left _ hf
      omega
    · intro v' w' hown hgr _
      exact h v' w' (by simpa using hown) ((Ext.refl w).grown hgr (Nat.le_refl _) (fun k hk => by cases hk))

/-- What 'Read' answers. -/
def RdPost (w : World) (base : Nat) (vl : Value) (R : Except Nat RSt) (e : Ending) (w' : World) : Prop := w.grownBy w' vl.ownBlock ∧ (match R with
  | .error k => k ≠ 0 ∧ ∃ (v : Value) (i : Int), e = .returned (.tuple #[v, .int .i64 i, .int .i64 (k : Nat)])
  | .ok st => ∃ (v : Value) (pats : List ByteArray), e = .returned (.tuple #[v, .int .i64 (st.inc : Nat), .int .i64 0]) ∧ pats.map (·.toList) = st.pats ∧ w'.ownsRow base 9 1 v pats.length (pats.map Value.string) ∧
      (v.ownBlock = vl.ownBlock ∨ ∃ g, v.ownBlock = some g ∧ w.heap.size ≤ g))
theorem RdPost.err {w w' : World} {base : Nat} {vl v : Value} {R : Except Nat RSt} {i : Int} {k : Nat} (h : R = .error k) (hk : k ≠ 0) (x : w.grownBy w' vl.ownBlock) : RdPost w base vl R (.returned (.tuple #[v, .int .i64 i, .int .i64 (k : Nat)])) w' :=
  ⟨x, by rw [h]; exact ⟨hk, v, i, rfl⟩⟩

/-- Memory within the loop of 'Read'. -/
structure RdInv (w0 w wr : World) (vl v vd vs : Value) (dp ls pats : List ByteArray) : Prop where
  grown : w.grownBy wr vl.ownBlock
  ext : Ext w0 wr
  own : wr.ownsRow w0.heap.size 9 1 v pats.length (pats.map Value.string)
  at_ : v.ownBlock = vl.ownBlock ∨ ∃ g, v.ownBlock = some g ∧ w.heap.size ≤ g
  cd : CellsAt wr vd (dp.map Value.string)
  cs : CellsAt wr vs (ls.map Value.string)
  ad : Avoid v vd
  as_ : Avoid v vs
theorem RdInv.step {w0 w wr w1 : World} {vl v v' vd vs : Value} {dp ls pats pats' : List ByteArray} (I : RdInv w0 w wr vl v vd vs dp ls pats) (_hb : w0.heap.size ≤ w.heap.size) (hg : wr.grownBy w1 v.ownBlock) (hx : Ext w0 w1)
    (ho : w1.ownsRow w0.heap.size 9 1 v' pats'.length (pats'.map Value.string)) (ha : v'.ownBlock = v.ownBlock ∨ ∃ g, v'.ownBlock = some g ∧ wr.heap.size ≤ g) : RdInv w0 w w1 vl v' vd vs dp ls pats' := by
  have av : ∀ u : Value, (∀ g, u.ownBlock = some g → g < wr.heap.size) → Avoid v u → Avoid v' u := fun u hu h g hgu e => by
    rcases ha with q | ⟨g', q1, q2⟩
    · exact h g hgu (q ▸ e)
    · rw [q1] at e; have := Option.some.inj e; have := hu g hgu; omega
  refine ⟨I.grown.andThen hg (fun j hj => ?_), hx, ho, ?_, I.cd.grown hg I.ad, I.cs.grown hg I.as_, av vd I.cd.lt I.ad, av vs I.cs.lt I.as_⟩
  · rcases I.at_ with q | ⟨g, q1, q2⟩
    · exact .inr (q ▸ hj)
    · rw [q1] at hj; cases hj; exact .inl q2
  · rcases ha with q | ⟨g, q1, q2⟩
    · rw [q]; exact I.at_
    · exact .inr ⟨g, q1, Nat.le_trans I.grown.size q2⟩
theorem RdInv.grownTo {w0 w wr w1 : World} {vl v vd vs : Value} {dp ls pats : List ByteArray} (I : RdInv w0 w wr vl v vd vs dp ls pats) (hg : wr.grownBy w1 v.ownBlock) : w.grownBy w1 vl.ownBlock :=
  I.grown.andThen hg (fun j hj => by
    rcases I.at_ with q | ⟨g, q1, q2⟩
    · exact .inr (q ▸ hj)
    · rw [q1] at hj; cases hj; exact .inl q2)
theorem RdInv.quiet {w0 w wr w1 : World} {vl v vd vs : Value} {dp ls pats : List ByteArray} (I : RdInv w0 w wr vl v vd vs dp ls pats) (hb : w0.heap.size ≤ w.heap.size) (hx : Ext wr w1) : RdInv w0 w w1 vl v vd vs dp ls pats :=
  I.step hb (hx.grownBy _) (I.ext.trans hx) (owns_ext I.own hx) (.inl rfl)
theorem own_ext {w0 w w1 : World} {base : Nat} {v : Value} {n : Nat} {xs : List Value} (x : Ext w0 w) (hb : base = w0.heap.size) (ho : w.ownsRow base 9 1 v n xs) (hg : w.grownBy w1 v.ownBlock) : Ext w0 w1 :=
  x.grown hg x.size (fun k hk => by have := own_block_ge ho k hk; omega)

theorem lineL_skip {rd : Txt → RSt → Except Nat RSt} {st : RSt} {s : Txt} (h : (s.isEmpty || Lib.hasPrefix s [47, 47]) = true) : lineL rd st s = .ok st := by unfold lineL; rw [if_pos h]
theorem lineL_incl {rd : Txt → RSt → Except Nat RSt} {st : RSt} {s : Txt} (h : (s.isEmpty || Lib.hasPrefix s [47, 47]) = false) (h2 : Lib.hasPrefix s inclT = true) : lineL rd st s = rd (s.drop 9) ⟨st.pats, st.inc + 1⟩ := by
  unfold lineL; rw [h, if_neg (by decide), if_pos h2]
theorem lineL_full {rd : Txt → RSt → Except Nat RSt} {st : RSt} {s : Txt} (h : (s.isEmpty || Lib.hasPrefix s [47, 47]) = false) (h2 : Lib.hasPrefix s inclT = false) (h3 : st.pats.length = 64) : lineL rd st s = .error 3 := by
  unfold lineL; rw [h, if_neg (by decide), h2, if_neg (by decide), if_pos (by simpa using h3)]
theorem lineL_bad {rd : Txt → RSt → Except Nat RSt} {st : RSt} {s : Txt} {k : Nat} (h : (s.isEmpty || Lib.hasPrefix s [47, 47]) = false) (h2 : Lib.hasPrefix s inclT = false) (h3 : st.pats.length ≠ 64) (h4 : patL s = .error k) : lineL rd st s = .error k := by
  unfold lineL; rw [h, if_neg (by decide), h2, if_neg (by decide), if_neg (by simpa using h3), h4]
theorem lineL_pat {rd : Txt → RSt → Except Nat RSt} {st : RSt} {s : Txt} {p : Pat} (h : (s.isEmpty || Lib.hasPrefix s [47, 47]) = false) (h2 : Lib.hasPrefix s inclT = false) (h3 : st.pats.length ≠ 64) (h4 : patL s = .ok p) : lineL rd st s = .ok ⟨st.pats ++ [s], st.inc⟩ := by
  unfold lineL; rw [h, if_neg (by decide), h2, if_neg (by decide), if_neg (by simpa using h3), h4]
theorem foldL_ok {f : RSt → Txt → Except Nat RSt} {st st' : RSt} {s : Txt} {l : List Txt} (h : f st s = .ok st') : foldL f st (s :: l) = foldL f st' l := by rw [foldL, h]
theorem foldL_err {f : RSt → Txt → Except Nat RSt} {st : RSt} {s : Txt} {l : List Txt} {k : Nat} (h : f st s = .error k) : foldL f st (s :: l) = .error k := by rw [foldL, h]

theorem foldL_small {f : RSt → Txt → Except Nat RSt} (hf : ∀ st s st', st.inc ≤ 64 ∧ st.pats.length ≤ 64 → f st s = .ok st' → st'.inc ≤ 64 ∧ st'.pats.length ≤ 64) : ∀ (l : List Txt) (st st' : RSt), st.inc ≤ 64 ∧ st.pats.length ≤ 64 → foldL f st l = .ok st' → st'.inc ≤ 64 ∧ st'.pats.length ≤ 64
  | [], st, st', h, e => by cases e; exact h
  | s :: l, st, st', h, e => by
    unfold foldL at e
    split at e
    · cases e
    · rename_i st1 h1
      exact foldL_small hf l st1 st' (hf _ _ _ h h1) e
theorem readL_small (fs : List (Txt × Txt)) : ∀ (n : Nat) (name : Txt) (within : List Txt) (st st' : RSt), st.pats.length ≤ 64 → readL fs n name within st = .ok st' → st'.inc ≤ 64 ∧ st'.pats.length ≤ 64
  | 0, _, _, _, _, _, e => by cases e
  | n + 1, name, within, st, st', h1, e => by
    unfold readL at e
    split at e
    · cases e
    · split at e
      · cases e
      · split at e
        · cases e
        · rename_i hi
          refine foldL_small (fun st s st' hs e => ?_) _ _ _ ⟨by simp at hi; omega, h1⟩ e
          unfold lineL at e
          split at e
          · cases e; exact hs
          · split at e
            · exact readL_small fs n _ _ ⟨st.pats, st.inc + 1⟩ st' hs.2 e
            · split at e
              · cases e
              · rename_i h64
                split at e
                · cases e
                · cases e
                  have : st.pats.length ≠ 64 := by simpa using h64
                  exact ⟨hs.1, by simp; omega⟩
theorem trimT_le (l : Txt) : (trimT l).length ≤ l.length := by
  unfold trimT Lib.trimS Lib.trimLeftS Lib.trimRightS
  have h1 := (List.dropWhile_sublist (l := (l.reverse.dropWhile fun x => [32, 9].contains x).reverse) fun x => [(32 : UInt8), 9].contains x).length_le
  have h2 := (List.dropWhile_sublist (l := l.reverse) fun x => [(32 : UInt8), 9].contains x).length_le
  rw [List.length_reverse] at h1 h2
  omega
theorem splitNl_le : ∀ (l cur x : Txt), x ∈ splitNl cur l → x.length ≤ cur.length + l.length
  | [], cur, x, h => by
    simp [splitNl] at h
    subst h; simp
  | c :: cs, cur, x, h => by
    unfold splitNl at h
    split at h
    · rcases List.mem_cons.1 h with h | h
      · subst h; simp
      · have := splitNl_le cs [] x h
        simp at this ⊢; omega
    · have := splitNl_le cs _ x h
      simp at this ⊢; omega
theorem linesL_le (t x : Txt) (h : x ∈ linesL t) : x.length ≤ t.length := by
  obtain ⟨y, hy, rfl⟩ := List.mem_map.1 h
  have := splitNl_le t [] y hy
  have h2 := trimT_le y
  simp at this
  omega

theorem readL_none {fs : List (Txt × Txt)} {n : Nat} {name : Txt} {within : List Txt} {st : RSt} (h : findL fs name = none) : readL fs (n + 1) name within st = .error 5 := by rw [readL, h]
theorem readL_busy {fs : List (Txt × Txt)} {n : Nat} {name t : Txt} {within : List Txt} {st : RSt} (h : findL fs name = some t) (h2 : within.contains name = true) : readL fs (n + 1) name within st = .error 22 := by
  rw [readL, h]; simp only [h2, if_true]
theorem readL_long {fs : List (Txt × Txt)} {n : Nat} {name t : Txt} {within : List Txt} {st : RSt} (h : findL fs name = some t) (h2 : within.contains name = false) (h3 : 4 < within.length + 1 ∨ 64 < st.inc) : readL fs (n + 1) name within st = .error 3 := by
  rw [readL, h]; simp only [h2]
  rw [if_neg (by decide), if_pos (by simpa using h3)]
theorem readL_go {fs : List (Txt × Txt)} {n : Nat} {name t : Txt} {within : List Txt} {st : RSt} (h : findL fs name = some t) (h2 : within.contains name = false) (h3 : within.length ≤ 3) (h4 : st.inc ≤ 64) :
    readL fs (n + 1) name within st = foldL (lineL fun nm st => readL fs n nm (within ++ [name]) st) st (linesL t) := by
  rw [readL, h]; simp only [h2]
  rw [if_neg (by decide), if_neg (by simp; omega)]
theorem contains_none {l : List ByteArray} {n : Txt} (h : ∀ (j : Nat) x, l[j]? = some x → (x.toList == n) = false) : (l.map (·.toList)).contains n = false := by
  rw [Bool.eq_false_iff]
  intro hc
  rw [List.contains_iff_mem] at hc
  obtain ⟨x, hx, e⟩ := List.mem_map.1 hc
  obtain ⟨j, hj, e2⟩ := List.mem_iff_getElem.1 hx
  have := h j x (by rw [List.getElem?_eq_getElem hj, e2])
  rw [e] at this
  simp at this
theorem contains_at {l : List ByteArray} {n : Txt} {j : Nat} {x : ByteArray} (h : l[j]? = some x) (e : (x.toList == n) = true) : (l.map (·.toList)).contains n = true := by
  rw [List.contains_iff_mem]
  exact List.mem_map.2 ⟨x, List.mem_of_getElem? h, by simpa using e⟩


theorem findL_mem {fs : List (ByteArray × ByteArray)} {n t : Txt} (h : findL (fsL fs) n = some t) : ∃ f ∈ fs, f.2 = bsL t := by
  induction fs with
  | nil => cases h
  | cons f fs ih =>
    rw [show findL (fsL (f :: fs)) n = if f.1.toList == n then some f.2.toList else findL (fsL fs) n from rfl] at h
    split at h
    · cases h; exact ⟨f, List.mem_cons_self, eq_bsL f.2⟩
    · obtain ⟨g, h1, h2⟩ := ih h; exact ⟨g, List.mem_cons_of_mem _ h1, h2⟩

set_option maxHeartbeats 8000000 in
set_option maxRecDepth 100000 in
theorem rread_any (w0 : World) (v0 : Value) (fs : List (ByteArray × ByteArray)) (hT : TextsAt w0 v0 fs) (hfs : ∀ f ∈ fs, f.2.size ≤ 4096) : ∀ (n : Nat) (name : ByteArray) (wi pats : List ByteArray) (inc : Nat) (vw vl : Value) (w : World),
    1 ≤ n → wi.length + n = 5 → Ext w0 w → CellsAt w vw (wi.map Value.string) → w.ownsRow w0.heap.size 9 1 vl pats.length (pats.map Value.string) → Avoid vl vw → pats.length ≤ 64 → inc ≤ 100 →
    Calls Tryd.prog 28 #[v0, .string name, vw, vl, .int .i64 inc] w (RdPost w w0.heap.size vl (readL (fsL fs) n name.toList (wi.map (·.toList)) ⟨pats.map (·.toList), inc⟩)) := by
  intro n
  induction n with
  | zero =>
    intro name wi pats inc vw vl w h0
    exact absurd h0 (by decide)
  | succ n ih =>
    intro name wi pats inc vw vl w _ hn hx hcw ho hav hp hi
    have IH := Lib.hid ih
    clear ih
    have HF0 := fun w hx => Lib.hid (find_any v0 fs name w (hT.ext (w' := w) hx))
    have HLn := fun s w hs => Lib.hid (lines_any s w hs)
    have HPa := fun s w hs => Lib.hid (rparse_any s w hs)
    have HBg := fun s p w => Lib.hid (begins08_any s p w)
    have HX := Lib.hid hx
    have HO := Lib.hid ho
    have HCW := Lib.hid hcw
    have HAV := Lib.hid hav
    obtain ⟨aw, cw, rfl, hw1, hw2, hw3⟩ := hcw.shape
    rw [List.length_map] at hw1
    unfold maxLen at hw2
    have HW3 := Lib.hid hw3
    have hov : vl.ownBlock = vl.ownBlock ∨ ∃ g, vl.ownBlock = some g ∧ w.heap.size ≤ g := .inl rfl
    have HFS := Lib.hid hfs
    clear hx ho hcw hav hw3 hov hfs
    rw [List.length_map]
    go_enter Tryd.func28, Tryd.ntmps28
    go_wp2_with fail
    refine ((HF0 w HX.out).out).mono ?_
    rintro e w1 ⟨rfl, hw1⟩
    obtain rfl := hw1.symm
    cases hf : findL (fsL fs) name.toList with
    | none =>
      have HF := Lib.hid (readL_none (n := n) (within := wi.map (·.toList)) (st := ⟨pats.map (·.toList), inc⟩) hf)
      rw [show findS none = (⟨#[]⟩, false) from rfl]
      clear hf HF0 HLn HPa HBg IH
      go_wp2_with fail
      go_ret3
      exact RdPost.err HF.out (by decide) ((Ext.refl _).grownBy _)
    | some t =>
      rw [show findS (some t) = (bsL t, true) from rfl]
      have HFD := Lib.hid hf
      have htz : (bsL t).size ≤ 4096 := by
        obtain ⟨f, hf1, hf2⟩ := findL_mem hf
        rw [← hf2]; exact HFS.out f hf1
      have htl : (bsL t).toList = t := bsL_toList t
      have HTL := Lib.hid htl
      clear hf HF0 htl
      generalize bsL t = tb at *
      go_wp2_with fail
      go_loop [15] (fun iv => ∃ k : Nat, k ≤ wi.length ∧ iv = .int .i64 k ∧ Hid (∀ (j : Nat) x, j < k → wi[j]? = some x → (x.toList == name.toList) = false)) (fun iv => wi.length - (intOf iv).toNat)
      case atStart => exact ⟨0, Nat.zero_le _, rfl, fun j x hj => absurd hj (Nat.not_lt_zero _)⟩
      case round =>
        obtain ⟨k, hk, rfl, HNo⟩ := hrel
        by_cases hlt : k < wi.length
        · obtain ⟨x, hx⟩ : ∃ x, wi[k]? = some x := ⟨_, List.getElem?_eq_getElem hlt⟩
          obtain ⟨g, rfl, c1⟩ := HW3.out k (.string x) (by rw [List.getElem?_map, hx]; rfl)
          cases hq : (x.toList == name.toList) with
          | true =>
            have HF := Lib.hid (readL_busy (n := n) (st := ⟨pats.map (·.toList), inc⟩) HFD.out (contains_at hx hq))
            clear hx HLn HPa HBg IH
            go_wp2_with fail
            go_ret3
            exact RdPost.err HF.out (by decide) ((Ext.refl _).grownBy _)
          | false =>
            have HN := Lib.hid (show ∀ (j : Nat) y, j < k + 1 → wi[j]? = some y → (y.toList == name.toList) = false from fun j y hj hy => by
              rcases Nat.lt_or_ge j k with h | h
              · exact HNo.out j y h hy
              · obtain rfl : j = k := by omega
                rw [hx] at hy; cases hy; exact hq)
            clear hx
            go_wp2_with fail
            go_round
            case rel => exact ⟨k + 1, by omega, by go_num, HN.out⟩
            case measure => simp [intOf] <;> omega
        · obtain rfl : k = wi.length := by omega
          have HNC := Lib.hid (contains_none (l := wi) (n := name.toList) fun j x hj => HNo.out j x (List.getElem?_eq_some_iff.1 hj).1 hj)
          have nlt : decide ((wi.length : Int) < (wi.length : Int)) = false := by simp
          by_cases hlong : 4 < wi.length + 1 ∨ 64 < inc
          · have HF := Lib.hid (readL_long (n := n) (st := ⟨pats.map (·.toList), inc⟩) HFD.out HNC.out (by simpa using hlong))
            clear HLn HPa HBg IH
            by_cases h4 : 4 < wi.length + 1
            · have d4 : decide ((4 : Int) < (wi.length : Int) + 1) = true := by rw [decide_eq_true_eq]; omega
              go_wp2_with fail
              go_ret3
              exact RdPost.err HF.out (by decide) ((Ext.refl _).grownBy _)
            · have d4 : decide ((4 : Int) < (wi.length : Int) + 1) = false := by rw [decide_eq_false_iff_not]; omega
              have d5 : decide ((64 : Int) < (inc : Int)) = true := by rw [decide_eq_true_eq]; omega
              go_wp2_with fail
              go_ret3
              exact RdPost.err HF.out (by decide) ((Ext.refl _).grownBy _)
          · have HF := Lib.hid (readL_go (n := n) (st := ⟨pats.map (·.toList), inc⟩) HFD.out HNC.out (by simp; omega) (by show inc ≤ 64; omega))
            have d4 : decide ((4 : Int) < (wi.length : Int) + 1) = false := by rw [decide_eq_false_iff_not]; omega
            have d5 : decide ((64 : Int) < (inc : Int)) = false := by rw [decide_eq_false_iff_not]; omega
            have hi2 : inc ≤ 64 := by omega
            have hw4 : wi.length ≤ 3 := by omega
            clear hlong HNo HFD HNC
            have HCW2 := Lib.hid (show CellsAt w (.slice aw wi.length cw) (wi.map Value.string) from by have h := HCW.out; rwa [List.length_map] at h)
            have HWL := Lib.hid (show (wi.map Value.string).length ≤ 68719476736 from by rw [List.length_map]; omega)
            go_wp2_with (at_builtin; refine append_copy el_string (.slice aw wi.length cw) (wi.map Value.string) ?qa ?qb (.tmp 59) (.tmp 60) ?qc ?qd ?qe ?qf ?qg ?_)
            case qa => exact HCW2.out
            case qb => intro _ _; rfl
            case qc => rfl
            case qd => rfl
            case qg => omega
            intro v1 w1 ho1 hx1
            have HO1 := Lib.hid ho1
            have HX1 := Lib.hid hx1
            clear ho1 hx1
            go_wp2_with (at_builtin; refine append_one el_string w.heap.size v1 wi.length (wi.map Value.string) ?r1 w1.heap.size (.string name) (.tmp 62) (.tmp 64) ?r2 ?r3 ?r4 ?r5 ?r6 ?r7 ?r8 ?r9 ?_)
            case r1 => exact HO1.out.alloc _
            case r2 => rfl
            case r3 => rfl
            case r4 => rfl
            case r5 => rfl
            case r6 => rw [cell_alloc_new rfl]; rfl
            case r7 => rfl
            case r8 => omega
            case r9 => have := HX1.out.size; simp; omega
            intro vd w2 ho2 hg2 hv2
            have HD := Lib.hid (CellsAt.of_owns (base := w.heap.size) (e := 9) (xs := (wi ++ [name]).map Value.string) (by simpa using ho2))
            have HX2 := Lib.hid (show Ext w w2 from ((HX1.out.alloc _).grown hg2 (by have := HX1.out.size; simp; omega) (own_block_ge HO1.out)))
            have HDG := Lib.hid (own_block_ge ho2)
            clear ho2 hg2 hv2
            go_wp2_with fail
            refine ((HLn tb _ htz).out).mono ?_
            rintro e w3 ⟨vs, ls, rfl, hls, hcs, hvs, hx3⟩
            rw [HTL.out] at hls
            have HLS := Lib.hid hls
            have HLZ := Lib.hid (show ∀ x ∈ ls, x.size ≤ 4096 from fun x hx => by
              have h1 : x.toList ∈ linesL t := by rw [← hls]; exact List.mem_map.2 ⟨x, hx, rfl⟩
              have h2 := linesL_le t _ h1
              rw [len_toList] at h2
              rw [← HTL.out, len_toList] at h2
              omega)
            have hsz3 : w.heap.size ≤ w3.heap.size := Nat.le_trans HX2.out.size hx3.size
            obtain ⟨as_, cs, rfl, hs1, hs2, _⟩ := hcs.shape
            rw [List.length_map] at hs1
            have HI0 := Lib.hid (show RdInv w0 w w3 vl vl vd (.slice as_ ls.length cs) (wi ++ [name]) ls pats from by
              have hcs' := hcs
              rw [List.length_map] at hcs'
              refine ⟨(HX2.out.trans hx3).grownBy _, HX.out.trans (HX2.out.trans hx3), owns_ext HO.out (HX2.out.trans hx3), .inl rfl, HD.out.ext hx3, hcs', ?_, ?_⟩
              · intro g hg e
                have h1 := HDG.out g hg
                have h2 := (HO.out.lt g e).2
                omega
              · intro g hg e
                have h2 := (HO.out.lt g e).2
                have h3 := hvs g (by rw [List.length_map]; exact hg)
                have h4 := HX2.out.size
                omega)
            rw [List.length_map]
            unfold maxLen at hs2
            clear hls hcs hvs hx3 HX1 HX2 HD HDG HO1
            have IH1 := Lib.hid (fun nm pp ii v w => IH.out nm (wi ++ [name]) pp ii vd v w (by omega) (by simp; omega))
            clear IH
            obtain ⟨rd, hrd⟩ : ∃ rd : Txt → RSt → Except Nat RSt, rd = fun nm st => readL (fsL fs) n nm ((wi ++ [name]).map (·.toList)) st := ⟨_, rfl⟩
            have HRd := Lib.hid hrd
            have HF1 := Lib.hid (show readL (fsL fs) (n + 1) name.toList (wi.map (·.toList)) ⟨pats.map (·.toList), inc⟩ = foldL (lineL rd) ⟨pats.map (·.toList), inc⟩ (ls.map (·.toList)) from by rw [HF.out, hrd, HLS.out, List.map_append]; rfl)
            clear hrd HF HLS
            obtain ⟨RR, hRR0⟩ : ∃ RR, RR = readL (fsL fs) (n + 1) name.toList (wi.map (·.toList)) ⟨pats.map (·.toList), inc⟩ := ⟨_, rfl⟩
            rw [← hRR0] at HF1
            have HEQ := Lib.hid hRR0.symm
            clear hRR0
            go_wp2_with fail
            go_loopw [3, 4, 18] (fun lv nv iv wr => Hid (∃ (k : Nat) (ps : List ByteArray) (ic : Nat), k ≤ ls.length ∧ iv = .int .i64 k ∧ nv = .int .i64 ic ∧ RR = foldL (lineL rd) ⟨ps.map (·.toList), ic⟩ ((ls.drop k).map (·.toList)) ∧ ps.length ≤ 64 ∧ ic ≤ 64 ∧ RdInv w0 w wr vl lv vd (.slice as_ ls.length cs) (wi ++ [name]) ls ps)) (fun _ _ iv _ => ls.length - (intOf iv).toNat)
            case atStart => exact ⟨0, pats, inc, Nat.zero_le _, rfl, rfl, HF1.out, hp, hi2, HI0.out⟩
            case round =>
              obtain ⟨k, ps, ic, hk, rfl, rfl, hR, hps, hic, I⟩ := hrel.out
              clear hrel HI0 HF1
              have HRR := Lib.hid hR
              have HI := Lib.hid I
              clear hR I
              by_cases hlt : k < ls.length
              · obtain ⟨x, hx⟩ : ∃ x, ls[k]? = some x := ⟨_, List.getElem?_eq_getElem hlt⟩
                have hdr : ls.drop k = x :: ls.drop (k + 1) := by
                  obtain ⟨h1, h2⟩ := List.getElem?_eq_some_iff.1 hx
                  rw [List.drop_eq_getElem_cons h1, h2]
                rw [hdr, List.map_cons] at HRR
                have hxz := HLZ.out x (List.mem_of_getElem? hx)
                have c1 : ∃ g, as_ = some ⟨g, 0, none⟩ ∧ wr.cell? ⟨g, k, none⟩ = some (.string x) := by
                  obtain ⟨a1, c1, q1, _, _, q4⟩ := HI.out.cs.shape
                  obtain ⟨g, q5, q6⟩ := q4 k (.string x) (by rw [List.getElem?_map, hx]; rfl)
                  rw [List.length_map] at q1
                  cases q1
                  exact ⟨g, q5, q6⟩
                obtain ⟨g, rfl, c1⟩ := c1
                have HB1 := fun w => HBg x ⟨#[47, 47]⟩ w
                have HB2 := fun w => HBg x ⟨#[35, 105, 110, 99, 108, 117, 100, 101, 32]⟩ w
                rw [show (⟨#[47, 47]⟩ : ByteArray).toList = [47, 47] from by rw [Lib.toList_data]] at HB1
                rw [show (⟨#[35, 105, 110, 99, 108, 117, 100, 101, 32]⟩ : ByteArray).toList = inclT from by rw [Lib.toList_data]; rfl] at HB2
                have kinc := @lineL_incl rd ⟨ps.map (·.toList), ic⟩ x.toList
                clear hx hdr
                have hsk : (x.toList.isEmpty || Lib.hasPrefix x.toList [47, 47]) = true ∨ (x.toList.isEmpty || Lib.hasPrefix x.toList [47, 47]) = false := by cases (x.toList.isEmpty || Lib.hasPrefix x.toList [47, 47]) <;> simp
                rcases hsk with hsk | hsk
                · have HN := Lib.hid (HRR.out.trans (foldL_ok (lineL_skip hsk)))
                  clear HRR kinc
                  cases he : x.toList.isEmpty with
                  | true =>
                    have he2 : x.toList = [] := List.isEmpty_iff.1 he
                    clear hsk HB1 HB2
                    go_wp2_with fail
                    go_roundw
                    case rel => exact ⟨k + 1, ps, ic, by omega, by go_num, rfl, HN.out, hps, hic, HI.out⟩
                    case measure => simp [intOf] <;> omega
                  | false =>
                    rw [he, Bool.false_or] at hsk
                    rw [hsk] at HB1
                    clear hsk HB2
                    go_wp2_with fail
                    refine ((HB1 _).out).mono ?_
                    rintro e w1 ⟨rfl, hw1⟩
                    obtain rfl := hw1.symm
                    go_wp2_with fail
                    go_roundw
                    case rel => exact ⟨k + 1, ps, ic, by omega, by go_num, rfl, HN.out, hps, hic, HI.out⟩
                    case measure => simp [intOf] <;> omega
                · have he : x.toList.isEmpty = false := (Bool.or_eq_false_iff.1 hsk).1
                  have hb1 := (Bool.or_eq_false_iff.1 hsk).2
                  rw [hb1] at HB1
                  have HSK := Lib.hid hsk
                  clear hb1 hsk
                  cases hq : Lib.hasPrefix x.toList inclT with
                  | true =>
                    rw [hq] at HB2
                    have h9 : 9 ≤ x.size := by
                      have := (List.isPrefixOf_iff_prefix.1 hq).length_le
                      rw [len_toList] at this
                      exact this
                    have HE := Lib.hid (kinc HSK.out hq)
                    clear kinc hq
                    go_wp2_with fail
                    refine ((HB1 _).out).mono ?_
                    rintro e w1 ⟨rfl, hw1⟩
                    obtain rfl := hw1.symm
                    go_wp2_with fail
                    refine ((HB2 _).out).mono ?_
                    rintro e w1 ⟨rfl, hw1⟩
                    obtain rfl := hw1.symm
                    go_wp2_with fail
                    refine ((IH1.out (x.extract 9 x.size) ps (ic + 1) _ wr HI.out.ext HI.out.cd HI.out.own HI.out.ad hps (by omega))).mono ?_
                    rintro e w2 ⟨hg2, hres⟩
                    have hx2 := own_ext HI.out.ext rfl HI.out.own hg2
                    rw [ext_toList] at hres
                    have hre : readL (fsL fs) n (x.toList.drop 9) ((wi ++ [name]).map (·.toList)) ⟨ps.map (·.toList), ic + 1⟩ = lineL rd ⟨ps.map (·.toList), ic⟩ x.toList := by rw [HE.out, HRd.out]
                    rw [hre] at hres
                    clear hre
                    cases hl : lineL rd ⟨ps.map (·.toList), ic⟩ x.toList with
                    | error ke =>
                      rw [hl] at hres
                      obtain ⟨hk0, v2, i2, rfl⟩ := hres
                      have HF2 := Lib.hid (HRR.out.trans (foldL_err hl))
                      have HG := Lib.hid (HI.out.grownTo hg2)
                      have n0 : ((ke : Int) != 0) = true := by rw [bne, beq_eq_false_iff_ne.2 (by omega)]; rfl
                      have HK0 := Lib.hid hk0
                      clear hl HRR hg2 hx2 hk0 HE
                      go_wp2_with fail
                      go_ret3
                      exact RdPost.err (HEQ.out.trans HF2.out) HK0.out HG.out
                    | ok st =>
                      rw [hl] at hres
                      obtain ⟨v2, ps2, rfl, hp2, ho2, ha2⟩ := hres
                      have hfine := readL_small _ _ _ _ _ _ (by show (ps.map (·.toList)).length ≤ 64; rw [List.length_map]; exact hps) (show readL (fsL fs) n (x.toList.drop 9) ((wi ++ [name]).map (·.toList)) ⟨ps.map (·.toList), ic + 1⟩ = .ok st from by rw [← hl, HE.out, HRd.out])
                      have HN := Lib.hid (show RR = foldL (lineL rd) ⟨ps2.map (·.toList), st.inc⟩ ((ls.drop (k + 1)).map (·.toList)) from by rw [HRR.out, foldL_ok hl, hp2])
                      have HI2 := Lib.hid (HI.out.step HX.out.size hg2 hx2 ho2 ha2)
                      have hps2 : ps2.length ≤ 64 := by rw [← List.length_map (f := (·.toList)), hp2]; exact hfine.2
                      have hic2 := hfine.1
                      clear hl HRR hg2 hx2 hp2 ho2 ha2 HE hfine
                      obtain ⟨si, hsi⟩ : ∃ si, si = st.inc := ⟨_, rfl⟩
                      rw [← hsi] at HN hic2 ⊢
                      clear hsi
                      go_wp2_with fail
                      go_roundw
                      case rel => exact ⟨k + 1, ps2, si, by omega, by go_num, rfl, HN.out, hps2, hic2, HI2.out⟩
                      case measure => simp [intOf] <;> omega
                  | false =>
                    rw [hq] at HB2
                    obtain ⟨av, cv, rfl, hv1, hv2, _⟩ := (CellsAt.of_owns (base := w0.heap.size) (e := 9) (by rw [List.length_map]; exact HI.out.own)).shape
                    rw [List.length_map] at hv1
                    rw [List.length_map] at HI ⊢
                    unfold maxLen at hv2
                    by_cases h64 : ps.length = 64
                    · have HF2 := Lib.hid (HRR.out.trans (foldL_err (lineL_full HSK.out hq (by simpa using h64))))
                      have n64 : ((ps.length : Int) == 64) = true := by rw [h64]; rfl
                      have HG := Lib.hid HI.out.grown
                      clear hq HRR kinc h64
                      go_wp2_with fail
                      refine ((HB1 _).out).mono ?_
                      rintro e w1 ⟨rfl, hw1⟩
                      obtain rfl := hw1.symm
                      go_wp2_with fail
                      refine ((HB2 _).out).mono ?_
                      rintro e w1 ⟨rfl, hw1⟩
                      obtain rfl := hw1.symm
                      go_wp2_with fail
                      go_ret3
                      exact RdPost.err (HEQ.out.trans HF2.out) (by decide) HG.out
                    · have n64 : ((ps.length : Int) == 64) = false := beq_eq_false_iff_ne.2 (by omega)
                      go_wp2_with fail
                      refine ((HB1 _).out).mono ?_
                      rintro e w1 ⟨rfl, hw1⟩
                      obtain rfl := hw1.symm
                      go_wp2_with fail
                      refine ((HB2 _).out).mono ?_
                      rintro e w1 ⟨rfl, hw1⟩
                      obtain rfl := hw1.symm
                      go_wp2_with fail
                      refine ((HPa x _ (by unfold maxLen; omega)).out).mono ?_
                      rintro e w2 ⟨⟨mm, rr, pa, pn, pc, pk, rfl, hres⟩, x2⟩
                      cases hpl : patL x.toList with
                      | error ke =>
                        rw [hpl] at hres
                        obtain ⟨rfl, hk0⟩ := hres
                        have HF2 := Lib.hid (HRR.out.trans (foldL_err (lineL_bad HSK.out hq (by simpa using h64) hpl)))
                        have HG := fun o => Lib.hid ((HI.out.quiet HX.out.size x2).quiet HX.out.size ((Ext.refl _).alloc o)).grown
                        have n0 : ((pk : Int) != 0) = true := by rw [bne, beq_eq_false_iff_ne.2 (by omega)]; rfl
                        have HK0 := Lib.hid hk0
                        clear hpl HRR hq x2 hk0 kinc
                        go_wp2_with fail
                        go_ret3
                        exact RdPost.err (HEQ.out.trans HF2.out) HK0.out (HG _).out
                      | ok p =>
                        rw [hpl] at hres
                        obtain ⟨rfl, _⟩ := hres
                        have HN := Lib.hid (show RR = foldL (lineL rd) ⟨(ps ++ [x]).map (·.toList), ic⟩ ((ls.drop (k + 1)).map (·.toList)) from by rw [HRR.out, foldL_ok (lineL_pat HSK.out hq (by simpa using h64) hpl), List.map_append]; rfl)
                        have HI2 := Lib.hid (HI.out.quiet HX.out.size x2)
                        clear hpl HRR hq x2 kinc
                        go_wp2_with (at_builtin; refine append_kw elS w0.heap.size _ ps.length (ps.map Value.string) ((HI2.out.own.alloc _).alloc _) (w2.heap.size + 1) [.string x] rfl (.tmp 120) (.tmp 122) rfl rfl rfl rfl (new1 ?n1) (one1 x) (by omega) ?n2 ?_)
                        case n1 => simp
                        case n2 => have := HI2.out.ext.size; simp; omega
                        intro v' w3 hown3 hgr3 hv3 hwh3
                        have HG3 := Lib.hid (show w2.grownBy w3 (Value.slice av ps.length cv).ownBlock from ((((Ext.refl w2).alloc _).alloc _).grownBy _).andThen hgr3 (fun j hj => .inr hj))
                        have HI3 := Lib.hid (HI2.out.step HX.out.size HG3.out (own_ext HI2.out.ext rfl HI2.out.own HG3.out) (v' := v') (pats' := ps ++ [x]) (by simpa using hown3) (by
                          rcases hwh3 with q | q
                          · exact .inl q
                          · exact .inr ⟨_, q, by first | omega | (simp; omega)⟩))
                        clear hwh3
                        clear hown3 hgr3 hv3
                        go_wp2_with fail
                        go_roundw
                        case rel => exact ⟨k + 1, ps ++ [x], ic, by omega, by go_num, rfl, HN.out, by simp; omega, hic, HI3.out⟩
                        case measure => simp [intOf] <;> omega
              · obtain rfl : k = ls.length := by omega
                have HF2 := Lib.hid (show RR = .ok ⟨ps.map (·.toList), ic⟩ from by rw [HRR.out, List.drop_length]; rfl)
                have nlt : decide ((ls.length : Int) < (ls.length : Int)) = false := by simp
                clear HRR
                go_wp2_with fail
                go_ret3
                refine ⟨HI.out.grown, ?_⟩
                rw [HEQ.out, HF2.out]
                exact ⟨_, ps, rfl, rfl, HI.out.own, HI.out.at_⟩
end Go.Proofs.YtlabhbeacogfbaaDoor
