/- caravan/disk's Read, List, Paths. -/
import Derived.Test.YtldppmjjgljinaaGreatDoorDiskH
import Derived.Test.YtldppmjjgljinaaGreatDoorCells
namespace Go.Proofs.YtldppmjjgljinaaGreatDoor
open Go.RowKit
open Go.Sort (Holds)
open Go.Maps (has_true_of_atKey)

/-- What Read tells. -/
def readE (l : Nodes) (p : ByteArray) : Nd × Int := if mayB p then (match findA l p with | some n => (n, 0) | none => (nd0, 5)) else (nd0, 10)
theorem ret_node {w : World} {fn : Func} {p u : Tmp} (h : fn.results = #[.cell p 57, .tmp u]) (tmps : Array Value) (g : Nat) (k tm : Int) (d e : ByteArray) (hp : tmps.getD p undef = .pointer (some ⟨g, 0, none⟩)) (hg : w.heap[g]? = some (.cells #[.int .i64 k, .string d, .string e, .int .i64 tm] 57 (0, 0))) :
    (results fn tmps).run Tryz.prog w = .ok (.tuple #[.agg #[.int .i64 k, .string d, .string e, .int .i64 tm], tmps.getD u undef]) w :=
  results_row1 h tmps w g 57 _ (0, 0) _ hp hg Tryz.underlying57 rfl (by kernel_rfl)

theorem set4 {w : World} {g : Nat} {a b c d a' b' c' d' : Value} {t : TypeId} (h : w.heap[g]? = some (.cells #[a, b, c, d] t (0, 0))) :
    ((((w.setCell ⟨g, 0, none⟩ a').setCell ⟨g, 1, none⟩ b').setCell ⟨g, 2, none⟩ c').setCell ⟨g, 3, none⟩ d').heap[g]? = some (.cells #[a', b', c', d'] t (0, 0)) := by
  rw [setCellB (setCellB (setCellB (setCellB h)))]; rfl
theorem set4_alloc {w : World} {o : Obj} {g : Nat} {a b c d a' b' c' d' : Value} {t : TypeId} (h : w.heap[g]? = some (.cells #[a, b, c, d] t (0, 0))) :
    (((((w.setCell ⟨g, 0, none⟩ a').setCell ⟨g, 1, none⟩ b').setCell ⟨g, 2, none⟩ c').setCell ⟨g, 3, none⟩ d').alloc o).heap[g]? = some (.cells #[a', b', c', d'] t (0, 0)) :=
  (block_alloc_old (ltB (set4 h))).trans (set4 h)
theorem set4_ext {w0 w : World} {g : Nat} {a' b' c' d' : Value} (x : Ext w0 w) (h : w0.heap.size ≤ g) : Ext w0 ((((w.setCell ⟨g, 0, none⟩ a').setCell ⟨g, 1, none⟩ b').setCell ⟨g, 2, none⟩ c').setCell ⟨g, 3, none⟩ d') :=
  (((x.setCell h _).setCell h _).setCell h _).setCell h _

set_option maxRecDepth 100000 in
set_option maxHeartbeats 2000000 in
theorem Read_any {w : World} {d : Nat} {M I : List Nat} {D : Dk} (h : DkAt w d M I D) (E : Env w) (p : ByteArray) (hp : p.size < 4294967281) :
    Calls Tryz.prog 29 #[.pointer (some ⟨d, 0, none⟩), .string p] w fun e w' => e = .returned (.tuple #[nv (readE D.live p).1, .int .i64 (readE D.live p).2]) ∧ Ext w w' := by
  have HR := Lib.hid (show readE D.live p = if mayB p then (match findA D.live p with | some n => (n, (0 : Int)) | none => (nd0, 5)) else (nd0, 10) from rfl)
  obtain ⟨lt, lm, st, sm, lg, vs, h, hM⟩ := h
  obtain ⟨W1, hW1⟩ : ∃ W1, W1 = w.alloc (.cells #[.int .i64 0, .string ⟨#[]⟩, .string ⟨#[]⟩, .int .i64 0] 57 (0, 0)) := ⟨_, rfl⟩
  have x1 : Ext w W1 := hW1 ▸ (Ext.refl w).alloc _
  have hb1 := (x1.block (ltB h.blk)).trans h.blk
  have c0 : W1.cell? ⟨d, 0, none⟩ = some (.pointer (some ⟨lt, 0, none⟩)) := cellB hb1
  have H1 := Lib.hid (dis_any d _ W1 c0)
  have H2 := Lib.hid (may_any p W1 hp (E.ext x1))
  have HX := Lib.hid x1
  have HI := Lib.hid h
  have HB := Lib.hid (show W1.heap[w.heap.size]? = some (.cells #[.int .i64 0, .string ⟨#[]⟩, .string ⟨#[]⟩, .int .i64 0] 57 (0, 0)) from by rw [hW1]; exact block_alloc_new _ _)
  have hp2 : p.size ≤ maxLen := by unfold maxLen; omega
  have hdl := ltB h.blk
  clear h hM x1 hb1 c0 E
  subst hW1
  generalize readE D.live p = R at *
  cases hm : mayB p with
  | false =>
    have HR2 := Lib.hid (show R = (nd0, 10) from by rw [HR.out, hm]; rfl)
    rw [hm] at H2
    go_enter Tryz.func29, Tryz.ntmps29
    go_wp2_with fail
    refine H1.out.mono ?_
    rintro e w1 ⟨rfl, hw1⟩
    obtain rfl := hw1.symm
    clear hw1
    go_wp2_with fail
    refine H2.out.mono ?_
    rintro e w2 ⟨rfl, x2⟩
    have hb2 := (x2.block (ltB HB.out)).trans HB.out
    have b0 : w2.cell? ⟨w.heap.size, 0, none⟩ = some (.int .i64 0) := cellB hb2
    have b1 : w2.cell? ⟨w.heap.size, 1, none⟩ = some (.string ⟨#[]⟩) := cellB hb2
    have b2 : w2.cell? ⟨w.heap.size, 2, none⟩ = some (.string ⟨#[]⟩) := cellB hb2
    have b3 : w2.cell? ⟨w.heap.size, 3, none⟩ = some (.int .i64 0) := cellB hb2
    have g0 : ∀ k, w2.frozen? ⟨w.heap.size, k, none⟩ = false := fun k => frozenB hb2
    have HX2 := Lib.hid (HX.out.trans x2)
    have HB2 := Lib.hid hb2
    clear x2 hb2
    go_wp2_with fail
    rw [HR2.out]
    exact bodyPost_ret (ret_node rfl _ w.heap.size 0 0 ⟨#[]⟩ ⟨#[]⟩ rfl (set4 HB2.out)) rfl ⟨rfl, set4_ext HX2.out (Nat.le_refl _)⟩
  | true =>
    rw [hm] at H2
    cases hf : findA D.live p with
    | none =>
      have HR2 := Lib.hid (show R = (nd0, 5) from by rw [HR.out, hm, hf]; rfl)
      go_enter Tryz.func29, Tryz.ntmps29
      go_wp2_with fail
      refine H1.out.mono ?_
      rintro e w1 ⟨rfl, hw1⟩
      obtain rfl := hw1.symm
      clear hw1
      go_wp2_with fail
      refine H2.out.mono ?_
      rintro e w2 ⟨rfl, x2⟩
      have hb2 := (x2.block (ltB HB.out)).trans HB.out
      have x02 := HX.out.trans x2
      have t2 := HI.out.live.ext x02
      have bd := (x02.block hdl).trans HI.out.blk
      have a0 : w2.cell? ⟨d, 0, none⟩ = some (.pointer (some ⟨lt, 0, none⟩)) := cellB bd
      have a1 : w2.cell? ⟨lt, 0, none⟩ = some (.map (some lm)) := cellB t2.blk
      have L := t2.map.look_ok p hp2
      rw [hf] at L
      have L2 : (Instr.lookup 142 (.map (some lm)) (.string p) true).run Tryz.prog w2 = .ok (.tuple #[.agg #[.int .i64 0, .string ⟨#[]⟩, .string ⟨#[]⟩, .int .i64 0], .bool false]) w2 := L
      have b0 : w2.cell? ⟨w.heap.size, 0, none⟩ = some (.int .i64 0) := cellB hb2
      have b1 : w2.cell? ⟨w.heap.size, 1, none⟩ = some (.string ⟨#[]⟩) := cellB hb2
      have b2 : w2.cell? ⟨w.heap.size, 2, none⟩ = some (.string ⟨#[]⟩) := cellB hb2
      have b3 : w2.cell? ⟨w.heap.size, 3, none⟩ = some (.int .i64 0) := cellB hb2
      have g0 : ∀ k, w2.frozen? ⟨w.heap.size, k, none⟩ = false := fun k => frozenB hb2
      have hlt : w.heap.size < w2.heap.size := ltB hb2
      have HX3 := Lib.hid x02
      have HB3 := Lib.hid hb2
      clear L x2 hb2 x02 t2 bd hf
      go_wp2_with fail
      rw [HR2.out]
      exact bodyPost_ret (ret_node rfl _ w.heap.size 0 0 ⟨#[]⟩ ⟨#[]⟩ rfl (set4_alloc HB3.out)) rfl ⟨rfl, (set4_ext HX3.out (Nat.le_refl _)).alloc _⟩
    | some n =>
      obtain ⟨k7, d7, g7, t7⟩ := n
      have HR2 := Lib.hid (show R = (⟨k7, d7, g7, t7⟩, 0) from by rw [HR.out, hm, hf]; rfl)
      go_enter Tryz.func29, Tryz.ntmps29
      go_wp2_with fail
      refine H1.out.mono ?_
      rintro e w1 ⟨rfl, hw1⟩
      obtain rfl := hw1.symm
      clear hw1
      go_wp2_with fail
      refine H2.out.mono ?_
      rintro e w2 ⟨rfl, x2⟩
      have hb2 := (x2.block (ltB HB.out)).trans HB.out
      have x02 := HX.out.trans x2
      have t2 := HI.out.live.ext x02
      have bd := (x02.block hdl).trans HI.out.blk
      have a0 : w2.cell? ⟨d, 0, none⟩ = some (.pointer (some ⟨lt, 0, none⟩)) := cellB bd
      have a1 : w2.cell? ⟨lt, 0, none⟩ = some (.map (some lm)) := cellB t2.blk
      have L := t2.map.look_ok p hp2
      rw [hf] at L
      have L2 : (Instr.lookup 142 (.map (some lm)) (.string p) true).run Tryz.prog w2 = .ok (.tuple #[.agg #[.int .i64 k7, .string d7, .string g7, .int .i64 t7], .bool true]) w2 := L
      have b0 : w2.cell? ⟨w.heap.size, 0, none⟩ = some (.int .i64 0) := cellB hb2
      have b1 : w2.cell? ⟨w.heap.size, 1, none⟩ = some (.string ⟨#[]⟩) := cellB hb2
      have b2 : w2.cell? ⟨w.heap.size, 2, none⟩ = some (.string ⟨#[]⟩) := cellB hb2
      have b3 : w2.cell? ⟨w.heap.size, 3, none⟩ = some (.int .i64 0) := cellB hb2
      have g0 : ∀ k, w2.frozen? ⟨w.heap.size, k, none⟩ = false := fun k => frozenB hb2
      have hlt : w.heap.size < w2.heap.size := ltB hb2
      have HX3 := Lib.hid x02
      have HB3 := Lib.hid hb2
      clear L x2 hb2 x02 t2 bd hf
      go_wp2_with fail
      rw [HR2.out]
      exact bodyPost_ret (ret_node rfl _ w.heap.size k7 t7 d7 g7 rfl (set4_alloc HB3.out)) rfl ⟨rfl, (set4_ext HX3.out (Nat.le_refl _)).alloc _⟩
end Go.Proofs.YtldppmjjgljinaaGreatDoor
