/- Contracts of caravanref07's element and Parse. Printed by gen_refd.py. -/
import Derived.Test.YtlabhbeacogfbaaDoorRefC
namespace Go.Proofs.YtlabhbeacogfbaaDoor
open Go.RowKit

set_option maxHeartbeats 4000000 in
set_option maxRecDepth 100000 in
theorem relement_any (s : ByteArray) (w : World) (h0 : 0 < s.size) (hs : s.size ≤ 1024) :
    Calls Tryd.prog 59 #[.string s] w (REltPost w (elementL s.toList)) := by
  have HP := fun w => Lib.hid (begins07_any s ⟨#[42, 42]⟩ w)
  have HO := fun w => Lib.hid (written_ext s w (by unfold maxLen; omega))
  have HC := fun w => Lib.hid (rclass_any (s.extract 1 s.size) w (by simp; omega))
  have H1 := Lib.hid (wr_cases s)
  rw [show Lib.hasPrefix s.toList (⟨#[42, 42]⟩ : ByteArray).toList = Lib.hasPrefix s.data.toList [42, 42] from by rw [Lib.toList_data, Lib.toList_data]] at HP
  rcases element_cases s h0 with ⟨hp, hz, he⟩ | ⟨hp, hc, he⟩ | ⟨hp, hc, he⟩ | ⟨hp, hc, he⟩ | ⟨hp, hc, he⟩ | ⟨hp, n1, n2, n3, n4, he⟩
  · have HE := Lib.hid he
    rw [hp] at HP
    clear he hp HO HC H1 
    go_enter Tryd.func59, Tryd.ntmps59
    go_wp2_with fail
    refine ((HP _).out).mono ?_
    rintro e w1 ⟨rfl, hw1⟩
    obtain rfl := hw1.symm
    go_wp2_with fail
    go_region
    all_goals
      go_wp2_with fail
      refine bodyPost_ret (results_row2 rfl _ _ w.heap.size 96 _ (0, 0) _ rfl (by first | exact heap_new_drew rfl | exact heap_alloc_new _ _) Tryd.underlying96 rfl (by kernel_rfl)) rfl ?_
      exact REltPost.of_some (x := .all) HE.out (by rw [ext_toList]) rfl (((Ext.refl w).alloc _).drew)
  · have HE := Lib.hid he
    rw [hp] at HP
    have q0 : ((s[0].toNat : Int) == 42) = true := by rw [hc]; rfl
    clear he hp HO HC H1 hc
    go_enter Tryd.func59, Tryd.ntmps59
    go_wp2_with fail
    refine ((HP _).out).mono ?_
    rintro e w1 ⟨rfl, hw1⟩
    obtain rfl := hw1.symm
    go_wp2_with fail
    go_region
    all_goals
      go_wp2_with fail
      refine bodyPost_ret (results_row2 rfl _ _ w.heap.size 96 _ (0, 0) _ rfl (by first | exact heap_new_drew rfl | exact heap_alloc_new _ _) Tryd.underlying96 rfl (by kernel_rfl)) rfl ?_
      exact REltPost.of_some (x := .some) HE.out (by rw [ext_toList]) rfl (((Ext.refl w).alloc _).drew)
  · have HE := Lib.hid he
    rw [hp] at HP
    have q0 : ((s[0].toNat : Int) == 42) = false := by rw [hc]; rfl
    have q1 : ((s[0].toNat : Int) == 63) = true := by rw [hc]; rfl
    clear he hp HO HC H1 hc
    go_enter Tryd.func59, Tryd.ntmps59
    go_wp2_with fail
    refine ((HP _).out).mono ?_
    rintro e w1 ⟨rfl, hw1⟩
    obtain rfl := hw1.symm
    go_wp2_with fail
    go_region
    all_goals
      go_wp2_with fail
      refine bodyPost_ret (results_row2 rfl _ _ w.heap.size 96 _ (0, 0) _ rfl (by first | exact heap_new_drew rfl | exact heap_alloc_new _ _) Tryd.underlying96 rfl (by kernel_rfl)) rfl ?_
      exact REltPost.of_some (x := .any) HE.out (by rw [ext_toList]) rfl (((Ext.refl w).alloc _).drew)
  · have HE := Lib.hid he
    rw [hp] at HP
    have q0 : ((s[0].toNat : Int) == 42) = false := by rw [hc]; rfl
    have q1 : ((s[0].toNat : Int) == 63) = false := by rw [hc]; rfl
    have q2 : ((s[0].toNat : Int) == 91) = false := by rw [hc]; rfl
    have q3 : ((s[0].toNat : Int) == 47) = true := by rw [hc]; rfl
    clear he hp HO HC H1 hc
    go_enter Tryd.func59, Tryd.ntmps59
    go_wp2_with fail
    refine ((HP _).out).mono ?_
    rintro e w1 ⟨rfl, hw1⟩
    obtain rfl := hw1.symm
    go_wp2_with fail
    go_region
    all_goals
      go_wp2_with fail
      refine bodyPost_ret (results_row2 rfl _ _ w.heap.size 96 _ (0, 0) _ rfl (by first | exact heap_new_drew rfl | exact heap_alloc_new _ _) Tryd.underlying96 rfl (by kernel_rfl)) rfl ?_
      exact REltPost.of_some (x := (.byt 47)) HE.out (by rw [ext_toList]) rfl (((Ext.refl w).alloc _).drew)
  · have HE := Lib.hid he
    rw [hp] at HP
    have q0 : ((s[0].toNat : Int) == 42) = false := by rw [hc]; rfl
    have q1 : ((s[0].toNat : Int) == 63) = false := by rw [hc]; rfl
    have q2 : ((s[0].toNat : Int) == 91) = true := by rw [hc]; rfl
    clear he hp HO H1 hc
    go_enter Tryd.func59, Tryd.ntmps59
    go_wp2_with fail
    refine ((HP _).out).mono ?_
    rintro e w1 ⟨rfl, hw1⟩
    obtain rfl := hw1.symm
    go_wp2_with fail
    refine ((HC _).out).mono ?_
    rintro e w1 ⟨⟨cs, r, ok, rfl, ⟨k, b, nn, a, n, c, rfl⟩, hcl⟩, x1⟩
    rw [ext_toList] at hcl
    have hb := first_block x1
    obtain ⟨⟨p0, p1, p2, p3⟩, pf0, pf1, pf2, pf3⟩ := quad hb
    have HB := Lib.hid hb
    have HX := Lib.hid (((Ext.refl w).alloc _).trans x1)
    have HCL := Lib.hid hcl
    clear hb x1 hcl
    go_wp2_with fail
    refine bodyPost_ret (results_row2 rfl _ _ w.heap.size 96 _ (0, 0) _ rfl (by exact set4 HB.out _ _ _ _) Tryd.underlying96 rfl (by kernel_rfl)) rfl ?_
    rw [HE.out]
    have hcl := HCL.out
    cases hq : classL (s.toList.drop 1) with
    | none =>
      rw [hq] at hcl
      obtain rfl : ok = false := hcl
      exact REltPost.of_none rfl (ext4 HX.out _ _ _ _)
    | some y =>
      rw [hq] at hcl
      obtain ⟨rfl, h2, h3⟩ := hcl
      exact REltPost.of_some rfl h2 ((h3.keeps (keep4 (by simp) _ _ _ _)).far (fun b' _ hb' => Nat.le_trans (Nat.le_succ _) (by simpa using hb'))) (ext4 HX.out _ _ _ _)
  · have q0 : ((s[0].toNat : Int) == 42) = false := toNat_ne n1
    have q1 : ((s[0].toNat : Int) == 63) = false := toNat_ne n2
    have q2 : ((s[0].toNat : Int) == 47) = false := toNat_ne n3
    have q3 : ((s[0].toNat : Int) == 91) = false := toNat_ne n4
    rw [hp] at HP
    have key : ∃ c r ok, wrS s = (c, r, ok) ∧ ((ok = false ∧ elementL s.toList = none) ∨ (ok = true ∧ elementL s.toList = some (.byt c, r.toList))) := by
      rcases H1.out with ⟨h1, h2⟩ | ⟨c, r, h1, h2, h3⟩
      · exact ⟨_, _, _, h1, .inl ⟨rfl, by rw [he, h2]⟩⟩
      · exact ⟨_, _, _, h1, .inr ⟨rfl, by rw [he, h2]⟩⟩
    obtain ⟨c, r, ok, hck, HE⟩ := key
    have HE := Lib.hid HE
    rw [hck] at HO
    clear he hp HC H1 n1 n2 n3 n4 hck
    simp only at HO
    go_enter Tryd.func59, Tryd.ntmps59
    go_wp2_with fail
    refine ((HP _).out).mono ?_
    rintro e w1 ⟨rfl, hw1⟩
    obtain rfl := hw1.symm
    go_wp2_with fail
    refine ((HO _).out).mono ?_
    rintro e w1 ⟨rfl, x1⟩
    have hb := first_block x1
    obtain ⟨⟨p0, p1, p2, p3⟩, pf0, pf1, pf2, pf3⟩ := quad hb
    have HB := Lib.hid hb
    have HX := Lib.hid (((Ext.refl w).alloc _).trans x1)
    clear hb x1
    go_wp2_with fail
    refine bodyPost_ret (results_row2 rfl _ _ w.heap.size 96 _ (0, 0) _ rfl (by exact set4 HB.out _ _ _ _) Tryd.underlying96 rfl (by kernel_rfl)) rfl ?_
    rcases HE.out with ⟨rfl, hn⟩ | ⟨rfl, hn⟩
    · exact REltPost.of_none hn (ext4 HX.out _ _ _ _)
    · exact REltPost.of_some hn rfl rfl (ext4 HX.out _ _ _ _)

theorem elC : ElemK Tryd.prog 64 96 (.agg #[.int .i64 0, .int .u8 0, .bool false, .slice none 0 0]) 4 40 := ⟨by kernel_rfl, by kernel_rfl, rfl, by decide, by decide⟩

def flatC (l : List (GE × Array Value)) : List Value := l.flatMap fun x => x.2.toList
theorem flatC_snoc (l : List (GE × Array Value)) (x : GE × Array Value) : flatC (l ++ [x]) = flatC l ++ x.2.toList := by simp [flatC]
theorem flatC_at : ∀ (l : List (GE × Array Value)), (∀ x ∈ l, RShape x.2) → ∀ (j : Nat) (x : GE × Array Value), l[j]? = some x → ∀ (i : Nat) u, x.2[i]? = some u → (flatC l)[4 * j + i]? = some u
  | [], _, _, _, h => by cases h
  | y :: l, _, 0, x, h => by
    cases h
    intro i u hu
    show (y.2.toList ++ flatC l)[4 * 0 + i]? = some u
    rw [Nat.mul_zero, Nat.zero_add, List.getElem?_append_left (by
      have := (Array.getElem?_eq_some_iff.1 hu).1
      simpa using this)]
    simpa using hu
  | y :: l, hs, j + 1, x, h => by
    intro i u hu
    have := flatC_at l (fun z hz => hs z (List.mem_cons_of_mem _ hz)) j x h i u hu
    obtain ⟨k, b, nn, a, n, c, hy⟩ := hs y List.mem_cons_self
    show (y.2.toList ++ flatC l)[4 * (j + 1) + i]? = some u
    rw [List.getElem?_append_right (by rw [hy]; simp; omega), hy]
    rw [show 4 * (j + 1) + i - (List.length (Array.toList #[Value.int .i64 k, .int .u8 b, .bool nn, .slice a n c])) = 4 * j + i from by simp; omega]
    exact this

/-- Elements in memory: a row of four cells each. -/
structure REltsAt (w : World) (Far : Nat → Prop) (v : Value) (l : List (GE × Array Value)) : Prop where
  row : ∃ a cap, v = .slice a l.length cap ∧ l.length ≤ cap ∧ cap ≤ maxLen ∧ ∀ (j : Nat) x, l[j]? = some x → ∃ g, a = some ⟨g, 0, none⟩ ∧ Far g ∧ ∀ (i : Nat) u, x.2[i]? = some u → w.cell? ⟨g, 4 * j + i, none⟩ = some u
  elts : ∀ x ∈ l, RElt w Far x.1 x.2 ∧ RShape x.2
theorem REltsAt.keeps {w w' : World} {Far : Nat → Prop} {v : Value} {l : List (GE × Array Value)} (h : REltsAt w Far v l) (k : Keeps Far w w') : REltsAt w' Far v l := by
  obtain ⟨a, cap, h1, h2, h3, h4⟩ := h.row
  refine ⟨⟨a, cap, h1, h2, h3, fun j x hj => ?_⟩, fun x hx => ⟨(h.elts x hx).1.keeps k, (h.elts x hx).2⟩⟩
  obtain ⟨g, h5, h6, h7⟩ := h4 j x hj
  exact ⟨g, h5, h6, fun i u hu => k.at_ h6 (h7 i u hu)⟩
theorem REltsAt.ext {w w' : World} {Far : Nat → Prop} {v : Value} {l : List (GE × Array Value)} (h : REltsAt w Far v l) (k : Ext w w') : REltsAt w' Far v l := h.keeps (k.keeps Far)

theorem REltsAt.far {w : World} {Far Far' : Nat → Prop} {v : Value} {l : List (GE × Array Value)} (h : REltsAt w Far v l) (k : ∀ b, b < w.heap.size → Far b → Far' b) : REltsAt w Far' v l := by
  obtain ⟨a, cap, h1, h2, h3, h4⟩ := h.row
  refine ⟨⟨a, cap, h1, h2, h3, fun j x hj => ?_⟩, fun x hx => ⟨(h.elts x hx).1.far k, (h.elts x hx).2⟩⟩
  obtain ⟨g, h5, h6, h7⟩ := h4 j x hj
  obtain ⟨k1, b1, nn, a1, n1, c1, hy⟩ := (h.elts x (List.mem_of_getElem? hj)).2
  exact ⟨g, h5, k _ (lt_of_cell (h7 0 (.int .i64 k1) (by rw [hy]; rfl))) h6, h7⟩

/-- Memory within the second loop of 'Parse'. -/
structure RParInv (w : World) (m : Marks) (r : Bool) (wr : World) (v : Value) (l : List (GE × Array Value)) : Prop where
  ext : Ext w wr
  res : wr.heap[w.heap.size]? = some (.cells #[.bool false, .bool false, .bool false, .bool false, .slice none 0 0] 66 (0, 0))
  p : wr.heap[w.heap.size + 1]? = some (.cells #[.bool m.neg, .bool m.fold, .bool m.del, .bool r, v] 66 (0, 0))
  own : wr.ownsRow (w.heap.size + 2) 96 4 v l.length (flatC l)
  elts : ∀ x ∈ l, RElt wr (fun b => w.heap.size + 2 ≤ b ∧ some b ≠ v.ownBlock) x.1 x.2 ∧ RShape x.2

theorem RParInv.push {w wr w1 w2 : World} {m : Marks} {r : Bool} {v v' : Value} {l : List (GE × Array Value)} {x : GE × Array Value} (I : RParInv w m r wr v l) (h1 : Ext wr w1)
    (hx : RElt w1 (fun b => wr.heap.size ≤ b) x.1 x.2) (hs : RShape x.2) (hown : w2.ownsRow (w.heap.size + 2) 96 4 v' (l.length + 1) (flatC l ++ x.2.toList)) (hg : w1.grownBy w2 v.ownBlock)
    (hw : v'.ownBlock = v.ownBlock ∨ v'.ownBlock = some w1.heap.size) : RParInv w m r (w2.setCell ⟨w.heap.size + 1, 4, none⟩ v') v' (l ++ [x]) := by
  have hlt := lt_of_block I.p
  have hge := own_block_ge_k I.own
  have hlo := fun k hk => (I.own.lt k hk).2
  have hS : Stays (fun b => w.heap.size + 2 ≤ b ∧ some b ≠ v.ownBlock) w1 (w2.setCell ⟨w.heap.size + 1, 4, none⟩ v') :=
    (Stays.grown hg (fun k hk hf => hf.2 hk.symm)).trans (Stays.setCell _ (fun hf => by have := hf.1; omega) _)
  have hbl : ∀ i, i < w.heap.size + 2 → w2.heap[i]? = wr.heap[i]? := fun i hi => by
    rw [hg.block i (by have := h1.size; omega) (fun e => by have := hge i e.symm; omega), h1.block (by omega)]
  have farv : ∀ b, b < w1.heap.size → (w.heap.size + 2 ≤ b ∧ some b ≠ v.ownBlock) → (w.heap.size + 2 ≤ b ∧ some b ≠ v'.ownBlock) := fun b hb hf => by
    refine ⟨hf.1, fun e => ?_⟩
    rcases hw with h | h
    · exact hf.2 (e.trans h)
    · have := Option.some.inj (e.trans h); omega
  refine ⟨?_, ?_, ?_, ?_, ?_⟩
  · exact ((I.ext.trans h1).grown hg (Nat.le_trans I.ext.size h1.size) (fun k hk => by have := hge k hk; omega)).setCell (by simp) _
  · rw [heap_setCell_other _ _ _ _ (by simp), hbl _ (by omega)]; exact I.res
  · exact heap_setCell_same w2 _ 4 _ _ v' ((hbl _ (by omega)).trans I.p)
  · rw [List.length_append, flatC_snoc]
    exact owns_setCell hown (by omega)
  · intro y hy
    have key : RElt w1 (fun b => w.heap.size + 2 ≤ b ∧ some b ≠ v.ownBlock) y.1 y.2 ∧ RShape y.2 := by
      rcases List.mem_append.1 hy with h | h
      · exact ⟨(I.elts y h).1.keeps (h1.keeps _), (I.elts y h).2⟩
      · obtain rfl := List.mem_singleton.1 h
        exact ⟨hx.far (fun b _ hb => ⟨by omega, fun e => by have := hlo b e.symm; omega⟩), hs⟩
    have key2 : RElt w1 (fun b => (w.heap.size + 2 ≤ b ∧ some b ≠ v.ownBlock) ∧ some b ≠ v'.ownBlock) y.1 y.2 := key.1.far fun b hb hf => ⟨hf, (farv b hb hf).2⟩
    exact ⟨(key2.keeps (hS.weaken fun b _ hf => hf.1).keeps).far fun b _ hf => ⟨hf.1.1, hf.2⟩, key.2⟩

theorem RParInv.done {w wr : World} {m : Marks} {r : Bool} {v : Value} {l : List (GE × Array Value)} (I : RParInv w m r wr v l) : REltsAt wr (fun b => w.heap.size + 2 ≤ b) v l := by
  refine ⟨?_, fun x hx => ⟨(I.elts x hx).1.far fun b _ hb => hb.1, (I.elts x hx).2⟩⟩
  rcases I.own.2 with ⟨h1, h2⟩ | ⟨g, cap, cur, hv, hb, hh, hc, hm, hs, ht⟩
  · exact ⟨none, 0, by rw [h1, h2], by omega, by unfold maxLen; omega, fun j x hj => by rw [List.length_eq_zero_iff.1 h2] at hj; cases hj⟩
  · refine ⟨_, cap, hv, hc, hm, fun j x hj => ⟨g, rfl, hb, fun i u hu => ?_⟩⟩
    have own := I.own
    rw [hv] at own
    have hj' : j < l.length := (List.getElem?_eq_some_iff.1 hj).1
    have hi : i < 4 := by
      obtain ⟨k, b, nn, a, n, c, hy⟩ := (I.elts x (List.mem_of_getElem? hj)).2
      have := (Array.getElem?_eq_some_iff.1 hu).1
      rw [hy] at this
      simpa using this
    rw [own.cellAt (4 * j + i) (by omega)]
    exact flatC_at l (fun x hx => (I.elts x hx).2) j x hj i u hu

/-- What 'Parse' answers. -/
def RParPost (w : World) (s : ByteArray) (e : Ending) (w' : World) : Prop := (∃ (m : Marks) (r : Bool) (a : Option Addr) (n c : Nat) (k : Nat), e = .returned (.tuple #[.agg #[.bool m.neg, .bool m.fold, .bool m.del, .bool r, .slice a n c], .int .i64 k]) ∧
    (match patL s.toList with
    | .error k' => k = k' ∧ k ≠ 0
    | .ok p => k = 0 ∧ p.marks = m ∧ p.rooted = r ∧ ∃ l, l.map (·.1) = p.es ∧ REltsAt w' (fun b => w.heap.size ≤ b) (.slice a n c) l)) ∧ Ext w w'
theorem RParPost.err {w w' : World} {s : ByteArray} {k : Nat} (h : patL s.toList = .error k) (hk : k ≠ 0) (x : Ext w w') :
    RParPost w s (.returned (.tuple #[.agg #[.bool false, .bool false, .bool false, .bool false, .slice none 0 0], .int .i64 k])) w' :=
  ⟨⟨⟨false, false, false⟩, false, none, 0, 0, k, rfl, by rw [h]; exact ⟨rfl, hk⟩⟩, x⟩
theorem ext5 {w wr : World} (x : Ext w wr) (c0 c1 c2 c3 c4 : Value) : Ext w (((((wr.setCell ⟨w.heap.size, 0, none⟩ c0).setCell ⟨w.heap.size, 1, none⟩ c1).setCell ⟨w.heap.size, 2, none⟩ c2).setCell ⟨w.heap.size, 3, none⟩ c3).setCell ⟨w.heap.size, 4, none⟩ c4) :=
  (ext4 x _ _ _ _).setCell (Nat.le_refl _) _
theorem set5 {w : World} {b : Nat} {a0 a1 a2 a3 a4 : Value} {t : TypeId} (h : w.heap[b]? = some (.cells #[a0, a1, a2, a3, a4] t (0, 0))) (c0 c1 c2 c3 c4 : Value) :
    (((((w.setCell ⟨b, 0, none⟩ c0).setCell ⟨b, 1, none⟩ c1).setCell ⟨b, 2, none⟩ c2).setCell ⟨b, 3, none⟩ c3).setCell ⟨b, 4, none⟩ c4).heap[b]? = some (.cells #[c0, c1, c2, c3, c4] t (0, 0)) :=
  heap_setCell_same _ _ _ _ _ _ (heap_setCell_same _ _ _ _ _ _ (heap_setCell_same _ _ _ _ _ _ (heap_setCell_same _ _ _ _ _ _ (heap_setCell_same _ _ _ _ _ _ h))))
theorem keep5 {Far : Nat → Prop} {wr : World} {b : Nat} (hb : ¬ Far b) (c0 c1 c2 c3 c4 : Value) : Keeps Far wr (((((wr.setCell ⟨b, 0, none⟩ c0).setCell ⟨b, 1, none⟩ c1).setCell ⟨b, 2, none⟩ c2).setCell ⟨b, 3, none⟩ c3).setCell ⟨b, 4, none⟩ c4) :=
  (keep4 hb _ _ _ _).trans (Stays.setCell _ hb _).keeps
theorem quint {w : World} {b : Nat} {a0 a1 a2 a3 a4 : Value} {t : TypeId} (h : w.heap[b]? = some (.cells #[a0, a1, a2, a3, a4] t (0, 0))) :
    (w.cell? ⟨b, 0, none⟩ = some a0 ∧ w.cell? ⟨b, 1, none⟩ = some a1 ∧ w.cell? ⟨b, 2, none⟩ = some a2 ∧ w.cell? ⟨b, 3, none⟩ = some a3 ∧ w.cell? ⟨b, 4, none⟩ = some a4) ∧
    (w.frozen? ⟨b, 0, none⟩ = false ∧ w.frozen? ⟨b, 1, none⟩ = false ∧ w.frozen? ⟨b, 2, none⟩ = false ∧ w.frozen? ⟨b, 3, none⟩ = false ∧ w.frozen? ⟨b, 4, none⟩ = false) :=
  ⟨⟨cell_of_block h, cell_of_block h, cell_of_block h, cell_of_block h, cell_of_block h⟩, frozen_of_block h, frozen_of_block h, frozen_of_block h, frozen_of_block h, frozen_of_block h⟩

theorem markL_of (u : ByteArray) : markL u.toList = if Lib.hasPrefix u.toList (⟨#[33]⟩ : ByteArray).toList then some (1, 1) else if Lib.hasPrefix u.toList (⟨#[40, 63, 105, 41]⟩ : ByteArray).toList then some (3, 4) else if Lib.hasPrefix u.toList (⟨#[40, 63, 100, 41]⟩ : ByteArray).toList then some (2, 4) else none := by
  rw [Lib.toList_data (⟨#[33]⟩ : ByteArray), Lib.toList_data (⟨#[40, 63, 105, 41]⟩ : ByteArray), Lib.toList_data (⟨#[40, 63, 100, 41]⟩ : ByteArray)]; rfl
theorem pre_le {u p : ByteArray} (h : Lib.hasPrefix u.toList p.toList = true) : p.size ≤ u.size := by
  have := (List.isPrefixOf_iff_prefix.1 h).length_le
  rwa [len_toList, len_toList] at this

def patOf (m : Marks) (r : Bool) : Option (List GE) → Except Nat Pat
  | none => .error 4
  | some es => .ok ⟨m, r, es⟩
theorem patL_of {s : ByteArray} {m : Marks} {r q : List UInt8} {b : Bool} (h : s.size ≤ 128) (hm : marksL (s.size + 1) ⟨false, false, false⟩ s.toList = some (m, r)) (hr : rootL r = (b, q)) (he : 0 < q.length) :
    patL s.toList = patOf m b (elementsL (s.size + 1) [] q) := by
  rw [patL_some h hm (by rw [hr]; exact he), hr]
  simp only
  cases elementsL (s.size + 1) [] q <;> rfl

/-- The pattern's block within the first loop. -/
structure RMkInv (w : World) (m : Marks) (wr : World) : Prop where
  ext : Ext w wr
  res : wr.heap[w.heap.size]? = some (.cells #[.bool false, .bool false, .bool false, .bool false, .slice none 0 0] 66 (0, 0))
  p : wr.heap[w.heap.size + 1]? = some (.cells #[.bool m.neg, .bool m.fold, .bool m.del, .bool false, .slice none 0 0] 66 (0, 0))
theorem RMkInv.start (w : World) : RMkInv w ⟨false, false, false⟩ ((w.alloc (.cells #[.bool false, .bool false, .bool false, .bool false, .slice none 0 0] 66)).alloc (.cells #[.bool false, .bool false, .bool false, .bool false, .slice none 0 0] 66)) := by
  refine ⟨((Ext.refl w).alloc _).alloc _, ?_, ?_⟩
  · rw [((Ext.refl _).alloc _).block (by simp)]; exact heap_alloc_new _ _
  · have := heap_alloc_new (w.alloc (.cells #[.bool false, .bool false, .bool false, .bool false, .slice none 0 0] 66)) (.cells #[.bool false, .bool false, .bool false, .bool false, .slice none 0 0] 66)
    rwa [show (w.alloc (.cells #[.bool false, .bool false, .bool false, .bool false, .slice none 0 0] 66)).heap.size = w.heap.size + 1 from by simp] at this
theorem RMkInv.set {w wr : World} {m m' : Marks} (I : RMkInv w m wr) (o : Nat) (h : (#[.bool m.neg, .bool m.fold, .bool m.del, .bool false, .slice none 0 0] : Array Value).setIfInBounds o (.bool true) = #[.bool m'.neg, .bool m'.fold, .bool m'.del, .bool false, .slice none 0 0]) :
    RMkInv w m' (wr.setCell ⟨w.heap.size + 1, o, none⟩ (.bool true)) := by
  refine ⟨I.ext.setCell (by simp) _, ?_, ?_⟩
  · rw [heap_setCell_other _ _ _ _ (by simp)]; exact I.res
  · rw [← h]; exact heap_setCell_same _ _ _ _ _ _ I.p
theorem RMkInv.par {w wr : World} {m : Marks} (I : RMkInv w m wr) : RParInv w m false wr (.slice none 0 0) [] := ⟨I.ext, I.res, I.p, World.ownsRow_nil _ _ _ _, fun x hx => by cases hx⟩
theorem RMkInv.root {w wr : World} {m : Marks} (I : RMkInv w m wr) : RParInv w m true (wr.setCell ⟨w.heap.size + 1, 3, none⟩ (.bool true)) (.slice none 0 0) [] :=
  ⟨I.ext.setCell (by simp) _, by rw [heap_setCell_other _ _ _ _ (by simp)]; exact I.res, heap_setCell_same _ _ _ _ _ _ I.p, World.ownsRow_nil _ _ _ _, fun x hx => by cases hx⟩

set_option maxHeartbeats 8000000 in
set_option maxRecDepth 100000 in
theorem rparse_any (s : ByteArray) (w : World) (hs : s.size ≤ maxLen) :
    Calls Tryd.prog 34 #[.string s] w (RParPost w s) := by
  unfold maxLen at hs
  by_cases h128 : 128 < s.size
  · have HF := Lib.hid (patL_long h128)
    go_enter Tryd.func34, Tryd.ntmps34
    go_wp2_with fail
    refine bodyPost_ret (results_row1 rfl _ _ w.heap.size 66 _ (0, 0) _ rfl (heap_alloc_new _ _) Tryd.underlying66 rfl (by kernel_rfl)) rfl ?_
    exact RParPost.err HF.out (by decide) ((Ext.refl w).alloc _)
  · have hs1 : s.size ≤ 128 := by omega
    have HB := fun u p w => Lib.hid (begins07_any u p w)
    have HE := fun u w h1 h2 => Lib.hid (relement_any u w h1 h2)
    obtain ⟨R, hR⟩ : ∃ R, R = marksL (s.size + 1) ⟨false, false, false⟩ s.toList := ⟨_, rfl⟩
    have HR0 := Lib.hid hR
    clear hR
    go_enter Tryd.func34, Tryd.ntmps34
    go_wp2_with fail
    go_loopw [0] (fun sv wr => Hid (∃ (u : ByteArray) (m : Marks) (f : Nat), sv = .string u ∧ u.size < f ∧ u.size ≤ s.size ∧ marksL f m u.toList = R ∧ RMkInv w m wr)) (fun sv _ => match sv with | .string u => u.size | _ => 0)
    case atStart => exact ⟨s, _, s.size + 1, rfl, by omega, by omega, HR0.out.symm, RMkInv.start w⟩
    case round =>
      obtain ⟨u, m, f, rfl, hf, hu, hRR, I⟩ := hrel.out
      clear hrel
      obtain ⟨f, rfl⟩ : ∃ g, f = g + 1 := ⟨f - 1, by omega⟩
      have HRR := Lib.hid hRR
      have HI := Lib.hid I
      clear hRR I
      obtain ⟨⟨p0, p1, p2, p3, p4⟩, pf0, pf1, pf2, pf3, pf4⟩ := quint HI.out.res
      obtain ⟨⟨x0, x1, x2, x3, x4⟩, xf0, xf1, xf2, xf3, xf4⟩ := quint HI.out.p
      have rlt : w.heap.size + 1 < _ := lt_of_block HI.out.p
      have hml := markL_of u
      have H1 := fun w => HB u ⟨#[33]⟩ w
      have H2 := fun w => HB u ⟨#[40, 63, 105, 41]⟩ w
      have H3 := fun w => HB u ⟨#[40, 63, 100, 41]⟩ w
      obtain ⟨b1, hb1⟩ : ∃ b, b = Lib.hasPrefix u.toList (⟨#[33]⟩ : ByteArray).toList := ⟨_, rfl⟩
      obtain ⟨b2, hb2⟩ : ∃ b, b = Lib.hasPrefix u.toList (⟨#[40, 63, 105, 41]⟩ : ByteArray).toList := ⟨_, rfl⟩
      obtain ⟨b3, hb3⟩ : ∃ b, b = Lib.hasPrefix u.toList (⟨#[40, 63, 100, 41]⟩ : ByteArray).toList := ⟨_, rfl⟩
      rw [← hb1, ← hb2, ← hb3] at hml
      rw [← hb1] at H1
      rw [← hb2] at H2
      rw [← hb3] at H3
      cases b1 with
      | true =>
        have PRE := hb1
        clear hb1 hb2 hb3 HB HE
        have hk : markL u.toList = some (1, 1) := by rw [hml]; rfl
        have HK := Lib.hid (show R = if m.get 1 then none else marksL f (m.put 1) (u.toList.drop 1) from by rw [← HRR.out, marksL, hk])
        have hle : 1 ≤ u.size := pre_le PRE.symm
        cases hg : m.neg with
        | false =>
          rw [show m.get 1 = false from hg] at HK
          rw [hg] at x0
          clear hk hml hg PRE
          go_wp2_with fail
          refine ((H1 _).out).mono ?_
          rintro e w1 ⟨rfl, hw1⟩
          obtain rfl := hw1.symm
          go_wp2_with fail
          refine ((H1 _).out).mono ?_
          rintro e w1 ⟨rfl, hw1⟩
          obtain rfl := hw1.symm
          go_wp2_with fail
          go_roundw
          case rel => exact ⟨u.extract 1 u.size, m.put 1, f, rfl, by simp; omega, by simp; omega, by rw [ext_toList]; exact HK.out.symm, HI.out.set 0 rfl⟩
          case measure => simp <;> omega
        | true =>
          rw [show m.get 1 = true from hg] at HK
          rw [hg] at x0
          have HF := Lib.hid (show patL s.toList = .error 4 from patL_marks hs1 (by rw [← HR0.out, HK.out]; rfl))
          have HI2 := Lib.hid (HI.out.set (m' := m.put 1) 0 rfl)
          clear hk hml hg PRE
          go_wp2_with fail
          refine ((H1 _).out).mono ?_
          rintro e w1 ⟨rfl, hw1⟩
          obtain rfl := hw1.symm
          go_wp2_with fail
          refine ((H1 _).out).mono ?_
          rintro e w1 ⟨rfl, hw1⟩
          obtain rfl := hw1.symm
          go_wp2_with fail
          refine bodyPost_ret (results_row1 rfl _ _ w.heap.size 66 _ (0, 0) _ rfl (by exact set5 HI2.out.res _ _ _ _ _) Tryd.underlying66 rfl (by kernel_rfl)) rfl ?_
          exact RParPost.err HF.out (by decide) (ext5 HI2.out.ext _ _ _ _ _)
      | false =>
        cases b2 with
        | true =>
          have PRE := hb2
          clear hb1 hb2 hb3 HB HE
          have hk : markL u.toList = some (3, 4) := by rw [hml]; rfl
          have HK := Lib.hid (show R = if m.get 3 then none else marksL f (m.put 3) (u.toList.drop 4) from by rw [← HRR.out, marksL, hk])
          have hle : 4 ≤ u.size := pre_le PRE.symm
          cases hg : m.fold with
          | false =>
            rw [show m.get 3 = false from hg] at HK
            rw [hg] at x1
            clear hk hml hg PRE
            go_wp2_with fail
            refine ((H1 _).out).mono ?_
            rintro e w1 ⟨rfl, hw1⟩
            obtain rfl := hw1.symm
            go_wp2_with fail
            refine ((H2 _).out).mono ?_
            rintro e w1 ⟨rfl, hw1⟩
            obtain rfl := hw1.symm
            go_wp2_with fail
            refine ((H1 _).out).mono ?_
            rintro e w1 ⟨rfl, hw1⟩
            obtain rfl := hw1.symm
            go_wp2_with fail
            refine ((H2 _).out).mono ?_
            rintro e w1 ⟨rfl, hw1⟩
            obtain rfl := hw1.symm
            go_wp2_with fail
            go_roundw
            case rel => exact ⟨u.extract 4 u.size, m.put 3, f, rfl, by simp; omega, by simp; omega, by rw [ext_toList]; exact HK.out.symm, HI.out.set 1 rfl⟩
            case measure => simp <;> omega
          | true =>
            rw [show m.get 3 = true from hg] at HK
            rw [hg] at x1
            have HF := Lib.hid (show patL s.toList = .error 4 from patL_marks hs1 (by rw [← HR0.out, HK.out]; rfl))
            have HI2 := Lib.hid (HI.out.set (m' := m.put 3) 1 rfl)
            clear hk hml hg PRE
            go_wp2_with fail
            refine ((H1 _).out).mono ?_
            rintro e w1 ⟨rfl, hw1⟩
            obtain rfl := hw1.symm
            go_wp2_with fail
            refine ((H2 _).out).mono ?_
            rintro e w1 ⟨rfl, hw1⟩
            obtain rfl := hw1.symm
            go_wp2_with fail
            refine ((H1 _).out).mono ?_
            rintro e w1 ⟨rfl, hw1⟩
            obtain rfl := hw1.symm
            go_wp2_with fail
            refine ((H2 _).out).mono ?_
            rintro e w1 ⟨rfl, hw1⟩
            obtain rfl := hw1.symm
            go_wp2_with fail
            refine bodyPost_ret (results_row1 rfl _ _ w.heap.size 66 _ (0, 0) _ rfl (by exact set5 HI2.out.res _ _ _ _ _) Tryd.underlying66 rfl (by kernel_rfl)) rfl ?_
            exact RParPost.err HF.out (by decide) (ext5 HI2.out.ext _ _ _ _ _)
        | false =>
          cases b3 with
          | true =>
            have PRE := hb3
            clear hb1 hb2 hb3 HB HE
            have hk : markL u.toList = some (2, 4) := by rw [hml]; rfl
            have HK := Lib.hid (show R = if m.get 2 then none else marksL f (m.put 2) (u.toList.drop 4) from by rw [← HRR.out, marksL, hk])
            have hle : 4 ≤ u.size := pre_le PRE.symm
            cases hg : m.del with
            | false =>
              rw [show m.get 2 = false from hg] at HK
              rw [hg] at x2
              clear hk hml hg PRE
              go_wp2_with fail
              refine ((H1 _).out).mono ?_
              rintro e w1 ⟨rfl, hw1⟩
              obtain rfl := hw1.symm
              go_wp2_with fail
              refine ((H2 _).out).mono ?_
              rintro e w1 ⟨rfl, hw1⟩
              obtain rfl := hw1.symm
              go_wp2_with fail
              refine ((H3 _).out).mono ?_
              rintro e w1 ⟨rfl, hw1⟩
              obtain rfl := hw1.symm
              go_wp2_with fail
              refine ((H1 _).out).mono ?_
              rintro e w1 ⟨rfl, hw1⟩
              obtain rfl := hw1.symm
              go_wp2_with fail
              refine ((H2 _).out).mono ?_
              rintro e w1 ⟨rfl, hw1⟩
              obtain rfl := hw1.symm
              go_wp2_with fail
              go_roundw
              case rel => exact ⟨u.extract 4 u.size, m.put 2, f, rfl, by simp; omega, by simp; omega, by rw [ext_toList]; exact HK.out.symm, HI.out.set 2 rfl⟩
              case measure => simp <;> omega
            | true =>
              rw [show m.get 2 = true from hg] at HK
              rw [hg] at x2
              have HF := Lib.hid (show patL s.toList = .error 4 from patL_marks hs1 (by rw [← HR0.out, HK.out]; rfl))
              have HI2 := Lib.hid (HI.out.set (m' := m.put 2) 2 rfl)
              clear hk hml hg PRE
              go_wp2_with fail
              refine ((H1 _).out).mono ?_
              rintro e w1 ⟨rfl, hw1⟩
              obtain rfl := hw1.symm
              go_wp2_with fail
              refine ((H2 _).out).mono ?_
              rintro e w1 ⟨rfl, hw1⟩
              obtain rfl := hw1.symm
              go_wp2_with fail
              refine ((H3 _).out).mono ?_
              rintro e w1 ⟨rfl, hw1⟩
              obtain rfl := hw1.symm
              go_wp2_with fail
              refine ((H1 _).out).mono ?_
              rintro e w1 ⟨rfl, hw1⟩
              obtain rfl := hw1.symm
              go_wp2_with fail
              refine ((H2 _).out).mono ?_
              rintro e w1 ⟨rfl, hw1⟩
              obtain rfl := hw1.symm
              go_wp2_with fail
              refine bodyPost_ret (results_row1 rfl _ _ w.heap.size 66 _ (0, 0) _ rfl (by exact set5 HI2.out.res _ _ _ _ _) Tryd.underlying66 rfl (by kernel_rfl)) rfl ?_
              exact RParPost.err HF.out (by decide) (ext5 HI2.out.ext _ _ _ _ _)
          | false =>
            have hk : markL u.toList = none := by rw [hml]; rfl
            have hRm : R = some (m, u.toList) := by rw [← HRR.out, marksL, hk]
            have hrt := rootL_eq u
            have H4 := fun w => HB u ⟨#[47]⟩ w
            rw [show Lib.hasPrefix u.toList (⟨#[47]⟩ : ByteArray).toList = Lib.hasPrefix u.data.toList [47] from by rw [Lib.toList_data, Lib.toList_data]] at H4
            have hm' : marksL (s.size + 1) ⟨false, false, false⟩ s.toList = some (m, u.toList) := by rw [← HR0.out]; exact hRm
            cases hr : Lib.hasPrefix u.data.toList [47] with
            | false =>
              have hrr : rootL u.toList = (false, u.toList) := by rw [hrt, hr, Lib.trimPrefix, hr, ← Lib.toList_data]; rfl
              rw [hr] at H4
              by_cases hu0 : u.size = 0
              · have HF := Lib.hid (patL_empty hs1 hm' (by rw [hrr, len_toList]; exact hu0))
                have n0 : ((u.size : Int) == 0) = true := by rw [hu0]; rfl
                clear hb1 hb2 hb3 HB HE hk hRm hrt hm' hr hrr hml
                go_wp2_with fail
                refine ((H1 _).out).mono ?_
                rintro e w1 ⟨rfl, hw1⟩
                obtain rfl := hw1.symm
                go_wp2_with fail
                refine ((H2 _).out).mono ?_
                rintro e w1 ⟨rfl, hw1⟩
                obtain rfl := hw1.symm
                go_wp2_with fail
                refine ((H3 _).out).mono ?_
                rintro e w1 ⟨rfl, hw1⟩
                obtain rfl := hw1.symm
                go_wp2_with fail
                refine ((H4 _).out).mono ?_
                rintro e w1 ⟨rfl, hw1⟩
                obtain rfl := hw1.symm
                go_wp2_with fail
                refine bodyPost_ret (results_row1 rfl _ _ w.heap.size 66 _ (0, 0) _ rfl (by exact set5 HI.out.res _ _ _ _ _) Tryd.underlying66 rfl (by kernel_rfl)) rfl ?_
                exact RParPost.err HF.out (by decide) (ext5 HI.out.ext _ _ _ _ _)
              · obtain ⟨R2, hR2⟩ : ∃ R2, R2 = elementsL (s.size + 1) [] u.toList := ⟨_, rfl⟩
                have HFin := Lib.hid (show patL s.toList = patOf m false R2 from by rw [patL_of hs1 hm' hrr (by rw [len_toList]; omega), hR2])
                have HR2 := Lib.hid hR2
                have n0 : ((u.size : Int) == 0) = false := beq_eq_false_iff_ne.2 (by omega)
                have HPI := Lib.hid HI.out.par
                clear hb1 hb2 hb3 HB hk hRm hrt hm' hr hrr hml hR2
                go_wp2_with fail
                refine ((H1 _).out).mono ?_
                rintro e w1 ⟨rfl, hw1⟩
                obtain rfl := hw1.symm
                go_wp2_with fail
                refine ((H2 _).out).mono ?_
                rintro e w1 ⟨rfl, hw1⟩
                obtain rfl := hw1.symm
                go_wp2_with fail
                refine ((H3 _).out).mono ?_
                rintro e w1 ⟨rfl, hw1⟩
                obtain rfl := hw1.symm
                go_wp2_with fail
                refine ((H4 _).out).mono ?_
                rintro e w1 ⟨rfl, hw1⟩
                obtain rfl := hw1.symm
                clear H1 H2 H3 H4 HRR HI HR0
                obtain ⟨wo, rfl⟩ : ∃ wo : World, wo = wr := ⟨_, rfl⟩
                obtain ⟨u0, rfl⟩ : ∃ u0 : ByteArray, u0 = u := ⟨_, rfl⟩
                have hu0 := hu
                go_wp2_with fail
                go_loopw [0] (fun sv wr => Hid (∃ (u : ByteArray) (f : Nat) (v : Value) (l : List (GE × Array Value)), sv = .string u ∧ u.size < f ∧ u.size ≤ s.size ∧ l.length + u.size ≤ s.size ∧ elementsL f (l.map (·.1)) u.toList = R2 ∧ RParInv w m false wr v l)) (fun sv _ => match sv with | .string u => u.size | _ => 0)
                case atStart => exact ⟨u0, s.size + 1, _, [], rfl, by omega, hu0, by simpa using hu0, HR2.out.symm, HPI.out⟩
                case round =>
                  obtain ⟨u, f, v, l, rfl, hf, hu, hl, hRR, I⟩ := hrel.out
                  clear hrel HPI HR2 hu0
                  obtain ⟨f, rfl⟩ : ∃ g, f = g + 1 := ⟨f - 1, by omega⟩
                  obtain ⟨va, vc, rfl, _⟩ := I.done.row
                  have HI := Lib.hid I
                  have HRR := Lib.hid hRR
                  clear I hRR
                  obtain ⟨⟨p0, p1, p2, p3, p4⟩, pf0, pf1, pf2, pf3, pf4⟩ := quint HI.out.res
                  obtain ⟨⟨x0, x1, x2, x3, x4⟩, xf0, xf1, xf2, xf3, xf4⟩ := quint HI.out.p
                  have rlt : w.heap.size + 1 < _ := lt_of_block HI.out.p
                  by_cases hu1 : 0 < u.size
                  · have n0 : decide ((0 : Int) < u.size) = true := by simpa using hu1
                    go_wp2_with fail
                    refine ((HE u _ hu1 (by omega)).out).mono ?_
                    rintro e w2 ⟨⟨cs, r, ok, rfl, ⟨k, b, nn, a, n, c, rfl⟩, hcl⟩, hx2⟩
                    have hres := (hx2.block (lt_of_block HI.out.res)).trans HI.out.res
                    have hpp := (hx2.block (lt_of_block HI.out.p)).trans HI.out.p
                    clear p0 p1 p2 p3 p4 pf0 pf1 pf2 pf3 pf4 x0 x1 x2 x3 x4 xf0 xf1 xf2 xf3 xf4 rlt
                    obtain ⟨⟨p0, p1, p2, p3, p4⟩, pf0, pf1, pf2, pf3, pf4⟩ := quint hres
                    obtain ⟨⟨x0, x1, x2, x3, x4⟩, xf0, xf1, xf2, xf3, xf4⟩ := quint hpp
                    have rlt : w.heap.size + 1 < w2.heap.size := lt_of_block hpp
                    have rlt0 : w.heap.size < w2.heap.size := lt_of_block hres
                    have HRES := Lib.hid hres
                    have HPP := Lib.hid hpp
                    clear hres hpp
                    cases hq : elementL u.toList with
                    | none =>
                      rw [hq] at hcl
                      obtain rfl : ok = false := hcl
                      have HF := Lib.hid (show patL s.toList = .error 4 from by rw [HFin.out, ← HRR.out, elementsL_none hu1 hq]; rfl)
                      have HX := Lib.hid (HI.out.ext.trans hx2)
                      clear hq hx2 HRR HFin HE
                      go_wp2_with fail
                      refine bodyPost_ret (results_row1 rfl _ _ w.heap.size 66 _ (0, 0) _ rfl (by exact (((Ext.refl _).alloc _).block (by simpa using Nat.lt_of_succ_lt rlt)).trans (set5 HRES.out _ _ _ _ _)) Tryd.underlying66 rfl (by kernel_rfl)) rfl ?_
                      exact RParPost.err HF.out (by decide) ((ext5 HX.out _ _ _ _ _).alloc _)
                    | some y =>
                      obtain ⟨x, r'⟩ := y
                      rw [hq] at hcl
                      obtain ⟨rfl, hr, hel⟩ := hcl
                      have hlt2 := elementL_lt hq
                      rw [len_toList, ← hr, len_toList] at hlt2
                      have HN := Lib.hid (HRR.out.symm.trans (elementsL_some hu1 hq))
                      have HR' := Lib.hid hr
                      have HEL := Lib.hid hel
                      have HX := Lib.hid hx2
                      have HO := Lib.hid (owns_ext HI.out.own hx2)
                      clear hq hx2 hel hr HRR HFin HE
                      go_wp2_with (at_builtin; refine append_kw elC (w.heap.size + 2) _ l.length (flatC l) ((HO.out.alloc _).alloc _) (w2.heap.size + 1) [.int .i64 k, .int .u8 b, .bool nn, .slice a n c] rfl (.tmp 66) (.tmp 68) rfl rfl rfl rfl ?_ ?_ (by omega) (by simp; omega) ?_)
                      · intro j u' hj
                        rw [cell_alloc_new (by simp), ← hj]; simp
                      · intro u' hu'
                        simp at hu'
                        rcases hu' with rfl | rfl | rfl | rfl <;> rfl
                      intro v' w3 hown3 hgr3 hv3 hwh3
                      obtain ⟨g3, cap3, rfl, _⟩ := hv3
                      have I3 := Lib.hid (RParInv.push (x := (x, #[.int .i64 k, .int .u8 b, .bool nn, .slice a n c])) HI.out ((HX.out.alloc _).alloc _) (HEL.out.keeps ((((Ext.refl w2).alloc _).alloc _).keeps _)) ⟨_, _, _, _, _, _, rfl⟩ hown3 hgr3 (by simpa using hwh3))
                      have hb3 : w3.heap[w.heap.size + 1]? = _ := (hgr3.block _ (by simp; omega) (fun e => by have := own_block_ge_k HO.out _ e.symm; omega)).trans (((((Ext.refl w2).alloc _).alloc _).block rlt).trans HPP.out)
                      clear p0 p1 p2 p3 p4 pf0 pf1 pf2 pf3 pf4 x0 x1 x2 x3 x4 xf0 xf1 xf2 xf3 xf4
                      obtain ⟨⟨x0, x1, x2, x3, x4⟩, xf0, xf1, xf2, xf3, xf4⟩ := quint hb3
                      clear hb3 hown3 hgr3 hwh3
                      go_wp2_with fail
                      go_roundw
                      case rel => exact ⟨r, f, _, l ++ [(x, #[.int .i64 k, .int .u8 b, .bool nn, .slice a n c])], rfl, by omega, by omega, by simp; omega, by rw [HR'.out, List.map_append]; exact HN.out.symm, I3.out⟩
                      case measure => simp <;> omega
                  · have hu2 : u.size = 0 := by omega
                    have HN := Lib.hid (show patL s.toList = .ok ⟨m, false, l.map (·.1)⟩ from by rw [HFin.out, ← HRR.out, elementsL_end hu2]; rfl)
                    have n0 : decide ((0 : Int) < u.size) = false := by simpa using hu1
                    clear HRR HFin HE
                    go_wp2_with fail
                    refine bodyPost_ret (results_row1 rfl _ _ w.heap.size 66 _ (0, 0) _ rfl (by exact set5 HI.out.res _ _ _ _ _) Tryd.underlying66 rfl (by kernel_rfl)) rfl ?_
                    refine ⟨⟨m, false, _, _, _, 0, rfl, ?_⟩, ext5 HI.out.ext _ _ _ _ _⟩
                    rw [HN.out]
                    refine ⟨rfl, rfl, rfl, l, rfl, ?_⟩
                    exact (HI.out.done.keeps (keep5 (by simp) _ _ _ _ _)).far (fun b _ hb => by omega)
            | true =>
              have hle : 1 ≤ u.size := by
                have := (List.isPrefixOf_iff_prefix.1 hr).length_le
                rw [← Lib.toList_data, len_toList] at this
                simpa using this
              have hrr : rootL u.toList = (true, (u.extract 1 u.size).toList) := by rw [hrt, hr, Lib.trimPrefix, hr, ← Lib.toList_data, ext_toList]; rfl
              rw [hr] at H4
              by_cases hu0 : u.size = 1
              · have HF := Lib.hid (patL_empty hs1 hm' (by rw [hrr, len_toList]; simp [hu0]))
                have n0 : ((↑(u.size - 1) : Int) == 0) = true := by rw [hu0]; rfl
                have HPI := Lib.hid HI.out.root
                clear hb1 hb2 hb3 HB HE hk hRm hrt hm' hr hrr hml
                go_wp2_with fail
                refine ((H1 _).out).mono ?_
                rintro e w1 ⟨rfl, hw1⟩
                obtain rfl := hw1.symm
                go_wp2_with fail
                refine ((H2 _).out).mono ?_
                rintro e w1 ⟨rfl, hw1⟩
                obtain rfl := hw1.symm
                go_wp2_with fail
                refine ((H3 _).out).mono ?_
                rintro e w1 ⟨rfl, hw1⟩
                obtain rfl := hw1.symm
                go_wp2_with fail
                refine ((H4 _).out).mono ?_
                rintro e w1 ⟨rfl, hw1⟩
                obtain rfl := hw1.symm
                go_wp2_with fail
                refine bodyPost_ret (results_row1 rfl _ _ w.heap.size 66 _ (0, 0) _ rfl (by exact set5 HPI.out.res _ _ _ _ _) Tryd.underlying66 rfl (by kernel_rfl)) rfl ?_
                exact RParPost.err HF.out (by decide) (ext5 HPI.out.ext _ _ _ _ _)
              · obtain ⟨R2, hR2⟩ : ∃ R2, R2 = elementsL (s.size + 1) [] (u.extract 1 u.size).toList := ⟨_, rfl⟩
                have HFin := Lib.hid (show patL s.toList = patOf m true R2 from by rw [patL_of hs1 hm' hrr (by rw [len_toList]; simp; omega), hR2])
                have HR2 := Lib.hid hR2
                have n0 : ((↑(u.size - 1) : Int) == 0) = false := beq_eq_false_iff_ne.2 (by omega)
                have HPI := Lib.hid HI.out.root
                clear hb1 hb2 hb3 HB hk hRm hrt hm' hr hrr hml hR2
                go_wp2_with fail
                refine ((H1 _).out).mono ?_
                rintro e w1 ⟨rfl, hw1⟩
                obtain rfl := hw1.symm
                go_wp2_with fail
                refine ((H2 _).out).mono ?_
                rintro e w1 ⟨rfl, hw1⟩
                obtain rfl := hw1.symm
                go_wp2_with fail
                refine ((H3 _).out).mono ?_
                rintro e w1 ⟨rfl, hw1⟩
                obtain rfl := hw1.symm
                go_wp2_with fail
                refine ((H4 _).out).mono ?_
                rintro e w1 ⟨rfl, hw1⟩
                obtain rfl := hw1.symm
                clear H1 H2 H3 H4 HRR HI HR0
                obtain ⟨wo, rfl⟩ : ∃ wo : World, wo = wr := ⟨_, rfl⟩
                have hu0 : (u.extract 1 u.size).size ≤ s.size := by simp; omega
                go_wp2_with fail
                go_loopw [0] (fun sv wr => Hid (∃ (u : ByteArray) (f : Nat) (v : Value) (l : List (GE × Array Value)), sv = .string u ∧ u.size < f ∧ u.size ≤ s.size ∧ l.length + u.size ≤ s.size ∧ elementsL f (l.map (·.1)) u.toList = R2 ∧ RParInv w m true wr v l)) (fun sv _ => match sv with | .string u => u.size | _ => 0)
                case atStart => exact ⟨u.extract 1 u.size, s.size + 1, _, [], rfl, by omega, hu0, by simpa using hu0, HR2.out.symm, HPI.out⟩
                case round =>
                  obtain ⟨u, f, v, l, rfl, hf, hu, hl, hRR, I⟩ := hrel.out
                  clear hrel HPI HR2 hu0
                  obtain ⟨f, rfl⟩ : ∃ g, f = g + 1 := ⟨f - 1, by omega⟩
                  obtain ⟨va, vc, rfl, _⟩ := I.done.row
                  have HI := Lib.hid I
                  have HRR := Lib.hid hRR
                  clear I hRR
                  obtain ⟨⟨p0, p1, p2, p3, p4⟩, pf0, pf1, pf2, pf3, pf4⟩ := quint HI.out.res
                  obtain ⟨⟨x0, x1, x2, x3, x4⟩, xf0, xf1, xf2, xf3, xf4⟩ := quint HI.out.p
                  have rlt : w.heap.size + 1 < _ := lt_of_block HI.out.p
                  by_cases hu1 : 0 < u.size
                  · have n0 : decide ((0 : Int) < u.size) = true := by simpa using hu1
                    go_wp2_with fail
                    refine ((HE u _ hu1 (by omega)).out).mono ?_
                    rintro e w2 ⟨⟨cs, r, ok, rfl, ⟨k, b, nn, a, n, c, rfl⟩, hcl⟩, hx2⟩
                    have hres := (hx2.block (lt_of_block HI.out.res)).trans HI.out.res
                    have hpp := (hx2.block (lt_of_block HI.out.p)).trans HI.out.p
                    clear p0 p1 p2 p3 p4 pf0 pf1 pf2 pf3 pf4 x0 x1 x2 x3 x4 xf0 xf1 xf2 xf3 xf4 rlt
                    obtain ⟨⟨p0, p1, p2, p3, p4⟩, pf0, pf1, pf2, pf3, pf4⟩ := quint hres
                    obtain ⟨⟨x0, x1, x2, x3, x4⟩, xf0, xf1, xf2, xf3, xf4⟩ := quint hpp
                    have rlt : w.heap.size + 1 < w2.heap.size := lt_of_block hpp
                    have rlt0 : w.heap.size < w2.heap.size := lt_of_block hres
                    have HRES := Lib.hid hres
                    have HPP := Lib.hid hpp
                    clear hres hpp
                    cases hq : elementL u.toList with
                    | none =>
                      rw [hq] at hcl
                      obtain rfl : ok = false := hcl
                      have HF := Lib.hid (show patL s.toList = .error 4 from by rw [HFin.out, ← HRR.out, elementsL_none hu1 hq]; rfl)
                      have HX := Lib.hid (HI.out.ext.trans hx2)
                      clear hq hx2 HRR HFin HE
                      go_wp2_with fail
                      refine bodyPost_ret (results_row1 rfl _ _ w.heap.size 66 _ (0, 0) _ rfl (by exact (((Ext.refl _).alloc _).block (by simpa using Nat.lt_of_succ_lt rlt)).trans (set5 HRES.out _ _ _ _ _)) Tryd.underlying66 rfl (by kernel_rfl)) rfl ?_
                      exact RParPost.err HF.out (by decide) ((ext5 HX.out _ _ _ _ _).alloc _)
                    | some y =>
                      obtain ⟨x, r'⟩ := y
                      rw [hq] at hcl
                      obtain ⟨rfl, hr, hel⟩ := hcl
                      have hlt2 := elementL_lt hq
                      rw [len_toList, ← hr, len_toList] at hlt2
                      have HN := Lib.hid (HRR.out.symm.trans (elementsL_some hu1 hq))
                      have HR' := Lib.hid hr
                      have HEL := Lib.hid hel
                      have HX := Lib.hid hx2
                      have HO := Lib.hid (owns_ext HI.out.own hx2)
                      clear hq hx2 hel hr HRR HFin HE
                      go_wp2_with (at_builtin; refine append_kw elC (w.heap.size + 2) _ l.length (flatC l) ((HO.out.alloc _).alloc _) (w2.heap.size + 1) [.int .i64 k, .int .u8 b, .bool nn, .slice a n c] rfl (.tmp 66) (.tmp 68) rfl rfl rfl rfl ?_ ?_ (by omega) (by simp; omega) ?_)
                      · intro j u' hj
                        rw [cell_alloc_new (by simp), ← hj]; simp
                      · intro u' hu'
                        simp at hu'
                        rcases hu' with rfl | rfl | rfl | rfl <;> rfl
                      intro v' w3 hown3 hgr3 hv3 hwh3
                      obtain ⟨g3, cap3, rfl, _⟩ := hv3
                      have I3 := Lib.hid (RParInv.push (x := (x, #[.int .i64 k, .int .u8 b, .bool nn, .slice a n c])) HI.out ((HX.out.alloc _).alloc _) (HEL.out.keeps ((((Ext.refl w2).alloc _).alloc _).keeps _)) ⟨_, _, _, _, _, _, rfl⟩ hown3 hgr3 (by simpa using hwh3))
                      have hb3 : w3.heap[w.heap.size + 1]? = _ := (hgr3.block _ (by simp; omega) (fun e => by have := own_block_ge_k HO.out _ e.symm; omega)).trans (((((Ext.refl w2).alloc _).alloc _).block rlt).trans HPP.out)
                      clear p0 p1 p2 p3 p4 pf0 pf1 pf2 pf3 pf4 x0 x1 x2 x3 x4 xf0 xf1 xf2 xf3 xf4
                      obtain ⟨⟨x0, x1, x2, x3, x4⟩, xf0, xf1, xf2, xf3, xf4⟩ := quint hb3
                      clear hb3 hown3 hgr3 hwh3
                      go_wp2_with fail
                      go_roundw
                      case rel => exact ⟨r, f, _, l ++ [(x, #[.int .i64 k, .int .u8 b, .bool nn, .slice a n c])], rfl, by omega, by omega, by simp; omega, by rw [HR'.out, List.map_append]; exact HN.out.symm, I3.out⟩
                      case measure => simp <;> omega
                  · have hu2 : u.size = 0 := by omega
                    have HN := Lib.hid (show patL s.toList = .ok ⟨m, true, l.map (·.1)⟩ from by rw [HFin.out, ← HRR.out, elementsL_end hu2]; rfl)
                    have n0 : decide ((0 : Int) < u.size) = false := by simpa using hu1
                    clear HRR HFin HE
                    go_wp2_with fail
                    refine bodyPost_ret (results_row1 rfl _ _ w.heap.size 66 _ (0, 0) _ rfl (by exact set5 HI.out.res _ _ _ _ _) Tryd.underlying66 rfl (by kernel_rfl)) rfl ?_
                    refine ⟨⟨m, true, _, _, _, 0, rfl, ?_⟩, ext5 HI.out.ext _ _ _ _ _⟩
                    rw [HN.out]
                    refine ⟨rfl, rfl, rfl, l, rfl, ?_⟩
                    exact (HI.out.done.keeps (keep5 (by simp) _ _ _ _ _)).far (fun b _ hb => by omega)
end Go.Proofs.YtlabhbeacogfbaaDoor
