/- The document's disk (caravanref09) in memory. -/
import Derived.Test.YtldppmjjgljinaaGreatDoorActP
import Derived.Test.YtldppmjjgljinaaGreatDoorDiskC
import Derived.Test.YtldppmjjgljinaaGreatDoorStepK
namespace Go.Proofs.YtldppmjjgljinaaGreatDoor
open Go.RowKit

/-- A node in a row of them. -/
def cells5 (x : ByteArray × Nd) : List Value := [.string x.1, .int .i64 x.2.kind, .string x.2.data, .string x.2.target, .int .i64 x.2.time]
def rows5 (l : Nodes) : List Value := l.flatMap cells5
/-- An effect in a row of them. -/
def cells7 (x : RE) : List Value := [.int .i64 x.k, .string x.p, .string x.q, .string x.data, .int .i64 x.time, .int .i64 0, .bool false]
def rows7 (l : List RE) : List Value := l.flatMap cells7
theorem rows5_snoc (l : Nodes) (x : ByteArray × Nd) : rows5 (l ++ [x]) = rows5 l ++ cells5 x := by simp [rows5]
theorem rows7_snoc (l : List RE) (x : RE) : rows7 (l ++ [x]) = rows7 l ++ cells7 x := by simp [rows7]
theorem flat_get {α : Type} {f : α → List Value} {n : Nat} (hf : ∀ x, (f x).length = n) : ∀ (l : List α) (k j : Nat) (x : α), l[k]? = some x → j < n → (l.flatMap f)[k * n + j]? = (f x)[j]?
  | [], k, j, x, h, _ => by simp at h
  | y :: r, 0, j, x, h, hj => by
    simp at h; subst h
    rw [List.flatMap_cons, List.getElem?_append_left (by rw [hf]; omega)]
    simp
  | y :: r, k + 1, j, x, h, hj => by
    rw [List.flatMap_cons, List.getElem?_append_right (by rw [hf, Nat.succ_mul]; omega), hf, show (k + 1) * n + j - n = k * n + j from by rw [Nat.succ_mul]; omega]
    exact flat_get hf r k j x (by simpa using h) hj
theorem rows5_get {l : Nodes} {k j : Nat} {x : ByteArray × Nd} (h : l[k]? = some x) (hj : j < 5) : (rows5 l)[k * 5 + j]? = (cells5 x)[j]? := flat_get (n := 5) (fun _ => rfl) l k j x h hj
theorem rows7_get {l : List RE} {k j : Nat} {x : RE} (h : l[k]? = some x) (hj : j < 7) : (rows7 l)[k * 7 + j]? = (cells7 x)[j]? := flat_get (n := 7) (fun _ => rfl) l k j x h hj

/-- An effect that may stand on a log. -/
structure REOk (x : RE) : Prop where
  k1 : 1 ≤ x.k
  k6 : x.k ≤ 6
  data : x.data.size ≤ 1048576
/-- A tree. -/
structure RTreeAt (w : World) (t : Nat) (v : Value) (l : Nodes) (room : Nat) : Prop where
  blk : w.heap[t]? = some (.cells #[v, .int .i64 (room : Nat)] 157 (0, 0))
  row : w.ownsRow 0 165 5 v l.length (rows5 l)
theorem RTreeAt.ext {w w' : World} {t : Nat} {v : Value} {l : Nodes} {room : Nat} (h : RTreeAt w t v l room) (x : Ext w w') : RTreeAt w' t v l room := ⟨(x.block (ltB h.blk)).trans h.blk, owns_blocks h.row fun b hb => x.block (own_lt h.row b hb)⟩
theorem RTreeAt.kept {w w' : World} {t : Nat} {v : Value} {l : Nodes} {room : Nat} (h : RTreeAt w t v l room) (k : ∀ b, b = t ∨ v.ownBlock = some b → w'.heap[b]? = w.heap[b]?) : RTreeAt w' t v l room := ⟨(k t (.inl rfl)).trans h.blk, owns_blocks h.row fun b hb => k b (.inr hb)⟩
/-- A disk: its own block and its log's row turn; its trees never do. -/
structure RkIn (w : World) (r lt ls : Nat) (lv sv lg : Value) (D : Dk) : Prop where
  blk : w.heap[r]? = some (.cells #[.pointer (some ⟨lt, 0, none⟩), .pointer (some ⟨ls, 0, none⟩), lg, .bool D.fused, .int .i64 D.left] 160 (0, 0))
  live : RTreeAt w lt lv D.live D.room
  lasts : RTreeAt w ls sv D.lasts D.room
  log : ∃ res : List RE, (res.map RE.eff = D.log ∧ ∀ x ∈ res, REOk x) ∧ w.ownsRow 0 163 7 lg D.log.length (rows7 res)
  rlg : lg.ownBlock ≠ some r
  imm : ∀ b ∈ [lt, ls] ++ rowB lv ++ rowB sv, b ≠ r ∧ lg.ownBlock ≠ some b
def RkAt (w : World) (r : Nat) (M I : List Nat) (D : Dk) : Prop := ∃ lt ls lv sv lg, RkIn w r lt ls lv sv lg D ∧ M = [r] ++ rowB lg ∧ I = [lt, ls] ++ rowB lv ++ rowB sv
theorem RkAt.lt {w : World} {r : Nat} {M I : List Nat} {D : Dk} (h : RkAt w r M I D) : (∀ b ∈ M, b < w.heap.size) ∧ ∀ b ∈ I, b < w.heap.size := by
  obtain ⟨lt, ls, lv, sv, lg, h, rfl, rfl⟩ := h
  obtain ⟨res, _, hl⟩ := h.log
  refine ⟨fun b hb => ?_, fun b hb => ?_⟩
  · simp only [List.mem_append, List.mem_singleton] at hb
    rcases hb with rfl | hb
    · exact ltB h.blk
    · exact own_lt hl b (mem_rowB.1 hb)
  · simp only [List.mem_append, List.mem_cons, List.not_mem_nil, or_false] at hb
    rcases hb with ((rfl | rfl) | hb) | hb
    · exact ltB h.live.blk
    · exact ltB h.lasts.blk
    · exact own_lt h.live.row b (mem_rowB.1 hb)
    · exact own_lt h.lasts.row b (mem_rowB.1 hb)
theorem RkAt.kept {w w' : World} {r : Nat} {M I : List Nat} {D : Dk} (h : RkAt w r M I D) (hk : ∀ b, b < w.heap.size → b ∈ M ∨ b ∈ I → w'.heap[b]? = w.heap[b]?) : RkAt w' r M I D := by
  have hlt := h.lt
  obtain ⟨lt, ls, lv, sv, lg, h, rfl, rfl⟩ := h
  obtain ⟨res, hr, hl⟩ := h.log
  have hM : ∀ b, b ∈ [r] ++ rowB lg → w'.heap[b]? = w.heap[b]? := fun b hb => hk b (hlt.1 b hb) (.inl hb)
  have hI : ∀ b, b ∈ [lt, ls] ++ rowB lv ++ rowB sv → w'.heap[b]? = w.heap[b]? := fun b hb => hk b (hlt.2 b hb) (.inr hb)
  refine ⟨lt, ls, lv, sv, lg, ⟨(hM r (by simp)).trans h.blk, h.live.kept ?_, h.lasts.kept ?_, ⟨res, hr, owns_blocks hl fun b hb => hM b (by simp [mem_rowB.2 hb])⟩, h.rlg, h.imm⟩, rfl, rfl⟩
  · rintro b (rfl | hb)
    · exact hI b (by simp)
    · exact hI b (by simp [mem_rowB.2 hb])
  · rintro b (rfl | hb)
    · exact hI b (by simp)
    · exact hI b (by simp [mem_rowB.2 hb])
end Go.Proofs.YtldppmjjgljinaaGreatDoor
