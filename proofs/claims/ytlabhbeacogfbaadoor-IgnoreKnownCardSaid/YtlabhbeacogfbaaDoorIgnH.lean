/- Contract of caravan/ignore's Parse. -/
import Derived.Test.YtlabhbeacogfbaaDoorIgnG
namespace Go.Proofs.YtlabhbeacogfbaaDoor
open Go.RowKit

theorem MapAt.made_at {w' : World} {b' : Nat} (k : w'.heap[b']? = some (.map #[] 0)) : MapAt w' b' 0 fun _ => none := by
  obtain ⟨D, ⟨es, clock, h1, h2⟩, h3⟩ := MapAt.made w'
  rw [heap_alloc_new] at h1
  exact ⟨D, ⟨es, clock, k.trans h1, h2⟩, h3⟩
theorem findB_app (fs : List (ByteArray × ByteArray)) (f : ByteArray × ByteArray) (x : ByteArray) : findB (fs ++ [f]) x = match findB fs x with | some g => some g | none => if f.1 = x then some f else none := by
  induction fs with
  | nil => rfl
  | cons g fs ih =>
    show (if g.1 = x then some g else findB (fs ++ [f]) x) = _
    by_cases h : g.1 = x
    · rw [if_pos h, findB, if_pos h]
    · rw [if_neg h, ih, findB, if_neg h]

/-- A list of patterns in memory. -/
def ListAt (w : World) (ll : Nat) (ts : List ByteArray) : Prop := ∃ (v : Value) (ps : List (ByteArray × Pat × Nat)), w.heap[ll]? = some (.cells #[v] 52 (0, 0)) ∧ CellsAt w v (ps.map fun x => Value.pointer (some ⟨x.2.2, 0, none⟩)) ∧
  ps.map (·.1) = ts ∧ ∀ x ∈ ps, PatAt w (fun _ => True) x.2.2 x.1 x.2.1 ∧ patL x.1.toList = .ok x.2.1
theorem ListAt.ext {w w' : World} {ll : Nat} {ts : List ByteArray} (h : ListAt w ll ts) (x : Ext w w') : ListAt w' ll ts := by
  obtain ⟨v, ps, h1, h2, h3, h4⟩ := h
  exact ⟨v, ps, (x.block (lt_of_block h1)).trans h1, h2.ext x, h3, fun y hy => ⟨(h4 y hy).1.ext x, (h4 y hy).2⟩⟩
theorem ListAt.of_inv {w0 w : World} {s0 s1 : Nat} {fs : List (ByteArray × ByteArray)} {wi : List ByteArray} {v : Value} {ps : List (ByteArray × Pat × Nat)} {inc n : Nat} (I : IgInv w0 s0 s1 fs wi v ps inc n w) : ListAt w s1 (ps.map (·.1)) :=
  ⟨v, ps, I.blk, CellsAt.of_owns (base := s1 + 7) (e := 57) (by rw [List.length_map]; exact I.own), rfl, fun x hx => ⟨(I.pats x hx).1.farther fun _ _ _ => trivial, (I.pats x hx).2⟩⟩

theorem seven (wr : World) (o0 o1 o2 o3 o4 o5 o6 : Obj) {W : World} (hW : W = ((((((wr.alloc o0).alloc o1).alloc o2).alloc o3).alloc o4).alloc o5).alloc o6) :
    W.heap[wr.heap.size]? = some o0 ∧ W.heap[wr.heap.size + 1]? = some o1 ∧ W.heap[wr.heap.size + 2]? = some o2 ∧ W.heap[wr.heap.size + 3]? = some o3 ∧ W.heap[wr.heap.size + 4]? = some o4 ∧ W.heap[wr.heap.size + 5]? = some o5 ∧ W.heap[wr.heap.size + 6]? = some o6 ∧ W.heap.size = wr.heap.size + 7 ∧ Ext wr W := by
  subst hW
  have sz : ∀ (w : World) (o : Obj), (w.alloc o).heap.size = w.heap.size + 1 := fun w o => by simp
  have nw : ∀ (w : World) (o : Obj) (b : Nat), b = w.heap.size → (w.alloc o).heap[b]? = some o := fun w o b h => h ▸ heap_alloc_new w o
  have od : ∀ (w : World) (o : Obj) (b : Nat), b < w.heap.size → (w.alloc o).heap[b]? = w.heap[b]? := fun w o b h => ((Ext.refl w).alloc o).block h
  refine ⟨?_, ?_, ?_, ?_, ?_, ?_, ?_, by simp, ((((((Ext.refl wr).alloc _).alloc _).alloc _).alloc _).alloc _).alloc _ |>.alloc _⟩
  · rw [od _ _ _ (by simp only [sz]; omega), od _ _ _ (by simp only [sz]; omega), od _ _ _ (by simp only [sz]; omega), od _ _ _ (by simp only [sz]; omega), od _ _ _ (by simp only [sz]; omega), od _ _ _ (by simp only [sz]; omega), nw _ _ _ rfl]
  · rw [od _ _ _ (by simp only [sz]; omega), od _ _ _ (by simp only [sz]; omega), od _ _ _ (by simp only [sz]; omega), od _ _ _ (by simp only [sz]; omega), od _ _ _ (by simp only [sz]; omega), nw _ _ _ (by simp only [sz])]
  · rw [od _ _ _ (by simp only [sz]; omega), od _ _ _ (by simp only [sz]; omega), od _ _ _ (by simp only [sz]; omega), od _ _ _ (by simp only [sz]; omega), nw _ _ _ (by simp only [sz])]
  · rw [od _ _ _ (by simp only [sz]; omega), od _ _ _ (by simp only [sz]; omega), od _ _ _ (by simp only [sz]; omega), nw _ _ _ (by simp only [sz])]
  · rw [od _ _ _ (by simp only [sz]; omega), od _ _ _ (by simp only [sz]; omega), nw _ _ _ (by simp only [sz])]
  · rw [od _ _ _ (by simp only [sz]; omega), nw _ _ _ (by simp only [sz])]
  · rw [nw _ _ _ (by simp only [sz])]

theorem IgInv.start {w0 wr : World} {s0 s1 : Nat} {fs : List (ByteArray × ByteArray)} (E : Env w0) (hx : Ext w0 wr) (hs0 : w0.heap.size ≤ s0) (hs1 : s1 = wr.heap.size) (ht : ∃ k, MapAt wr s0 k fun x => (findB fs x).map textV) (hc : wr.cell? ⟨s0 + 1, 0, none⟩ = some (.map (some s0)))
    {W : World} (hW : W = ((((((wr.alloc (.cells #[.slice none 0 0] 52)).alloc (.cells #[.pointer (some ⟨s1, 0, none⟩)] 23)).alloc (.map #[] 0)).alloc (.cells #[.map (some (s1 + 2))] 53)).alloc (.cells #[.int .i64 0] 3)).alloc
      (.cells #[.func (.func 26) #[] #[.pointer (some ⟨s0 + 1, 0, none⟩), .pointer (some ⟨s1 + 3, 0, none⟩), .pointer (some ⟨s1 + 4, 0, none⟩), .pointer (some ⟨s1 + 6, 0, none⟩)]] 54)).alloc
      (.cells #[.func (.func 22) #[] #[.pointer (some ⟨s1 + 4, 0, none⟩), .pointer (some ⟨s1 + 5, 0, none⟩), .pointer (some ⟨s1 + 1, 0, none⟩)]] 54)) :
    IgInv w0 s0 s1 fs [] (.slice none 0 0) [] 0 0 W := by
  have hlt := lt_of_cell hc
  obtain ⟨g0, g1, g2, g3, g4, g5, g6, g7, g8⟩ := seven wr _ _ _ _ _ _ _ hW
  rw [← hs1] at g0 g1 g2 g3 g4 g5 g6 g7
  obtain ⟨k, hk⟩ := ht
  refine ⟨hx.trans g8, E, ⟨hs0, by omega⟩, (g8.cell hlt).trans hc, ⟨k, hk.ext g8⟩, cell_of_block g3, ⟨fun _ => none, ?_, fun x _ => rfl⟩, g4, cell_of_block g5, cell_of_block g6, cell_of_block g1, g0, by omega, World.ownsRow_nil _ _ _ _, fun x hx => by cases hx⟩
  exact MapAt.made_at g2

/-- What 'Parse' answers. -/
def IgParsePost (w : World) (R : Except Nat (List Txt)) (e : Ending) (w' : World) : Prop := Ext w w' ∧ (match R with
  | .error k => k ≠ 0 ∧ e = .returned (.tuple #[.pointer none, .int .i64 (k : Nat)])
  | .ok ts => ∃ (ll : Nat) (l : List ByteArray), e = .returned (.tuple #[.pointer (some ⟨ll, 0, none⟩), .int .i64 0]) ∧ l.map (·.toList) = ts ∧ ListAt w' ll l)

set_option maxHeartbeats 8000000 in
set_option maxRecDepth 100000 in
theorem igparse_any (v : Value) (fs : List (ByteArray × ByteArray)) (name : ByteArray) (w : World) (hT : TextsAt w v fs) (hfs : ∀ f ∈ fs, f.1.size ≤ maxLen ∧ f.2.size < 4294967281) (hn : name.size ≤ maxLen) (E : Env w) :
    Calls Tryd.prog 10 #[v, .string name] w (IgParsePost w (parseL (fsL fs) name.toList)) := by
  obtain ⟨a, cap, rfl, h1, h2, h3⟩ := hT
  unfold maxLen at h2
  have H3 := Lib.hid h3
  have HFS := Lib.hid hfs
  have hmm := @run_makeMap Tryd.prog
  clear h3 hfs
  go_enter Tryd.func10, Tryd.ntmps10
  go_wp2_with fail
  go_loopw [20] (fun iv wr => Hid (∃ (k n : Nat), k ≤ fs.length ∧ iv = .int .i64 k ∧ n ≤ k ∧ MapAt wr w.heap.size n (fun x => (findB (fs.take k) x).map textV) ∧ wr.cell? ⟨w.heap.size + 1, 0, none⟩ = some (.map (some w.heap.size)) ∧ Ext w wr)) (fun iv _ => fs.length - (intOf iv).toNat)
  case atStart =>
    refine ⟨0, 0, Nat.zero_le _, rfl, Nat.le_refl _, ((MapAt.made w).ext ((Ext.refl _).alloc _)).congr (fun x _ => rfl), ?_, ((Ext.refl w).alloc _).alloc _⟩
    rw [cell_alloc_new (by simp)]; rfl
  case round =>
    obtain ⟨k, n, hk, rfl, hnk, hM, hc, hx⟩ := hrel.out
    clear hrel
    have hlt1 : w.heap.size + 1 < wr.heap.size := lt_of_cell hc
    have hlt2 : w.heap.size + 1 < wr.heap.size + 1 := by omega
    by_cases hlt : k < fs.length
    · obtain ⟨f, hf⟩ : ∃ f, fs[k]? = some f := ⟨_, List.getElem?_eq_getElem hlt⟩
      obtain ⟨g, rfl, c1, c2⟩ := H3.out k f hf
      have c1' : wr.cell? ⟨g, k * 2, none⟩ = some (.string f.1) := by rw [Nat.mul_comm]; exact (hx.cell (lt_of_cell c1)).trans c1
      have c2' : wr.cell? ⟨g, k * 2 + 1, none⟩ = some (.string f.2) := by rw [Nat.mul_comm]; exact (hx.cell (lt_of_cell c2)).trans c2
      have hfz := (HFS.out f (List.mem_of_getElem? hf)).1
      have htk : fs.take (k + 1) = fs.take k ++ [f] := by rw [List.take_add_one, hf]; rfl
      obtain ⟨W1, hW1⟩ : ∃ W1, W1 = wr.alloc (.cells #[.string f.1, .string f.2] 42) := ⟨_, rfl⟩
      have hx1 : Ext wr W1 := hW1 ▸ (Ext.refl wr).alloc _
      have rt := (hM.ext hx1).look_ok Tryd.underlying48 (zText W1) f.1 hfz
      rw [hW1] at rt
      have HX := Lib.hid hx
      cases hq : findB (fs.take k) f.1 with
      | some g' =>
        rw [hq] at rt
        have rt2 : (Instr.lookup 48 (.map (some w.heap.size)) (.string f.1) true).run Tryd.prog (wr.alloc (.cells #[.string f.1, .string f.2] 42)) = .ok (.tuple #[.agg #[.string g'.1, .string g'.2], .bool true]) (wr.alloc (.cells #[.string f.1, .string f.2] 42)) := rt
        have HM := Lib.hid (hM.congr (g := fun x => (findB (fs.take (k + 1)) x).map textV) (fun x _ => by
          rw [htk, findB_app]
          cases hqx : findB (fs.take k) x with
          | some y => rfl
          | none =>
            by_cases e : f.1 = x
            · rw [e, hqx] at hq; cases hq
            · rw [if_neg e]))
        clear hM hq rt hx1 hW1 hx c1 c2 hf htk
        go_wp2_with fail
        go_roundw
        case rel => exact ⟨k + 1, n, by omega, by go_num, by omega, HM.out.ext (((Ext.refl _).alloc _).alloc _), ((((Ext.refl _).alloc _).alloc _).cell hlt1).trans hc, (HX.out.alloc _).alloc _⟩
        case measure => simp [intOf] <;> omega
      | none =>
        rw [hq] at rt
        have rt2 : (Instr.lookup 48 (.map (some w.heap.size)) (.string f.1) true).run Tryd.prog (wr.alloc (.cells #[.string f.1, .string f.2] 42)) = .ok (.tuple #[.agg #[.string ByteArray.empty, .string ByteArray.empty], .bool false]) (wr.alloc (.cells #[.string f.1, .string f.2] 42)) := rt
        have hxx : Ext wr ((wr.alloc (.cells #[.string f.1, .string f.2] 42)).alloc (.cells #[.string ByteArray.empty, .string ByteArray.empty] 42)) := ((Ext.refl wr).alloc _).alloc _
        obtain ⟨w2, hup, hM2, hg2, hz2⟩ := (hM.ext hxx).store Tryd.underlying48 (by unfold maxLen; omega) f.1 hfz (.agg #[.string f.1, .string f.2])
        have HM := Lib.hid (hM2.congr (g := fun x => (findB (fs.take (k + 1)) x).map textV) (fun x _ => by
          rw [htk, findB_app]
          by_cases e : x = f.1
          · subst e; rw [if_pos rfl, hq, if_pos rfl]; rfl
          · rw [if_neg e]
            cases hqx : findB (fs.take k) x with
            | some y => rfl
            | none => rw [if_neg (fun q => e q.symm)]))
        have HC := Lib.hid (show w2.cell? ⟨w.heap.size + 1, 0, none⟩ = some (.map (some w.heap.size)) from (World.cell?_of_block (hg2.block (w.heap.size + 1) (by simp; omega) (fun e => by have := Option.some.inj e; omega))).trans ((hxx.cell hlt1).trans hc))
        have HX2 := Lib.hid (show Ext w w2 from (hx.trans hxx).grown hg2 (by have := hx.size; simp; omega) (fun j hj => by cases hj; omega))
        clear hM hM2 hg2 hz2 hxx hq rt hx1 hW1 hx c1 c2 hf htk
        go_wp2_with fail
        go_roundw
        case rel => exact ⟨k + 1, n + 1, by omega, by go_num, by omega, HM.out, HC.out, HX2.out⟩
        case measure => simp [intOf] <;> omega
    · obtain rfl : k = fs.length := by omega
      have HM := Lib.hid (show ∃ n, MapAt wr w.heap.size n (fun x => (findB fs x).map textV) from ⟨n, hM.congr (fun x _ => by rw [List.take_length])⟩)
      have HX := Lib.hid hx
      have HC := Lib.hid hc
      have hws := hx.size
      clear hM hx
      have HII := fun W hW => Lib.hid (read_any w w.heap.size wr.heap.size fs (fun f hf => (HFS.out f hf).2) 5 [] (by decide) rfl name (.slice none 0 0) [] 0 0 W hn (IgInv.start (W := W) E HX.out (Nat.le_refl _) rfl HM.out HC.out hW) (by decide) (by decide) (by decide))
      clear hc hlt1 hlt2
      go_wp2_with fail
      refine ((HII _ rfl).out).mono ?_
      clear HII
      rintro e w2 hres
      simp only [List.map_nil] at hres
      have hP : parseL (fsL fs) name.toList = match readL (fsL fs) 5 name.toList [] ⟨[], 0⟩ with | .error k => .error k | .ok st => .ok st.pats := rfl
      cases hr : readL (fsL fs) 5 name.toList [] ⟨[], 0⟩ with
      | error k =>
        rw [hr] at hres hP
        obtain ⟨hk0, rfl, hx2⟩ := hres
        have n0 : ((k : Int) != 0) = true := by rw [bne, beq_eq_false_iff_ne.2 (by omega)]; rfl
        have HP := Lib.hid hP
        have HK := Lib.hid hk0
        have HX2 := Lib.hid hx2
        clear hr hP hk0 hx2
        go_wp2_with fail
        go_ret2
        refine ⟨HX2.out, ?_⟩
        rw [HP.out]
        exact ⟨HK.out, rfl⟩
      | ok st =>
        rw [hr] at hres hP
        obtain ⟨v', ps', n', rfl, hp', I, _, _⟩ := hres
        have HP := Lib.hid hP
        have HI := Lib.hid I
        have HQ := Lib.hid hp'
        have cl := I.cl
        clear hr hP I hp'
        go_wp2_with fail
        go_ret2
        refine ⟨HI.out.ext, ?_⟩
        rw [HP.out]
        refine ⟨_, ps'.map (·.1), rfl, ?_, ListAt.of_inv HI.out⟩
        rw [List.map_map]
        exact HQ.out
end Go.Proofs.YtlabhbeacogfbaaDoor
