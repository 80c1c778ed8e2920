/- What is done to a disk, and with what data. No program in sight. -/
import Derived.Test.YtldppmjjgljinaaGreatDoorBase
namespace Go.Proofs.YtldppmjjgljinaaGreatDoor
open Go.RowKit

/-- What is done to a disk. -/
structure ActR where
  kind : Int
  p : ByteArray
  q : ByteArray
  text : ByteArray
  long : Int
  time : Int
  picks : List UInt8
/-- So many bytes of a text, again and again. -/
def dataL (t : ByteArray) (n : Nat) : List UInt8 := (List.range n).map fun i => t.toList.getD (i % t.size) 0
def dataN (t : ByteArray) (long : Int) : Nat := if t.size = 0 then 0 else min long.toNat 3000
def dataS (t : ByteArray) (long : Int) : ByteArray := ⟨(dataL t (dataN t long)).toArray⟩
def ActR.data (a : ActR) : ByteArray := dataS a.text a.long
theorem dataN_le (t : ByteArray) (n : Int) : dataN t n ≤ 3000 := by unfold dataN; split <;> omega
theorem dataL_len (t : ByteArray) (n : Nat) : (dataL t n).length = n := by simp [dataL]
theorem dataS_size (t : ByteArray) (n : Int) : (dataS t n).size ≤ 3000 := by
  unfold dataS
  rw [size_mk, List.size_toArray, dataL_len]
  exact dataN_le t n
theorem dataL_snoc (t : ByteArray) (n : Nat) : dataL t (n + 1) = dataL t n ++ [t.toList.getD (n % t.size) 0] := by simp [dataL, List.range_succ]

def reach : Nat := 140737488351232
/-- Bytes that came in. -/
def BytesIn (w : World) (v : Value) (ks : List UInt8) : Prop :=
  ∃ a cap, v = .slice a ks.length cap ∧ ks.length ≤ cap ∧ cap ≤ maxLen ∧ ks.length ≤ reach ∧ ∀ (k : Nat) u, ks[k]? = some u → ∃ g o, a = some ⟨g, o, none⟩ ∧ w.cell? ⟨g, o + k, none⟩ = some (.int .u8 u.toNat)
def actVal (x : ActR) (pv : Value) : List Value := [.int .i64 x.kind, .string x.p, .string x.q, .string x.text, .int .i64 x.long, .int .i64 x.time, pv]
structure ActOk (x : ActR) : Prop where
  kind : IntKind.i64.min ≤ x.kind ∧ x.kind ≤ IntKind.i64.max
  long : IntKind.i64.min ≤ x.long ∧ x.long ≤ IntKind.i64.max
  p : x.p.size ≤ reach
  q : x.q.size ≤ reach
  text : x.text.size ≤ reach
/-- Acts that came in. -/
def ActsIn (w : World) (v : Value) (l : List ActR) : Prop :=
  ∃ a cap, v = .slice a l.length cap ∧ l.length ≤ cap ∧ cap ≤ maxLen ∧ ∀ (k : Nat) x, l[k]? = some x → ActOk x ∧ ∃ g o pv, a = some ⟨g, o, none⟩ ∧ BytesIn w pv x.picks ∧ ∀ (j : Nat) u, (actVal x pv)[j]? = some u → w.cell? ⟨g, o + k * 7 + j, none⟩ = some u
theorem ActsIn.shape {w : World} {v : Value} {l : List ActR} (h : ActsIn w v l) : ∃ a cap, v = .slice a l.length cap ∧ l.length ≤ cap ∧ cap ≤ 9223372036854775807 := by
  obtain ⟨a, cap, h1, h2, h3, _⟩ := h
  exact ⟨a, cap, h1, h2, h3⟩
theorem BytesIn.ext {w w' : World} {v : Value} {ks : List UInt8} (h : BytesIn w v ks) (x : Ext w w') : BytesIn w' v ks := by
  obtain ⟨a, cap, h1, h2, h3, h4, h5⟩ := h
  refine ⟨a, cap, h1, h2, h3, h4, fun k u hk => ?_⟩
  obtain ⟨g, o, e, hc⟩ := h5 k u hk
  exact ⟨g, o, e, (x.cell (lt_of_cell hc)).trans hc⟩
theorem ActsIn.ext {w w' : World} {v : Value} {l : List ActR} (h : ActsIn w v l) (x : Ext w w') : ActsIn w' v l := by
  obtain ⟨a, cap, h1, h2, h3, h4⟩ := h
  refine ⟨a, cap, h1, h2, h3, fun k y hk => ?_⟩
  obtain ⟨h5, g, o, pv, h6, h7, h8⟩ := h4 k y hk
  exact ⟨h5, g, o, pv, h6, h7.ext x, fun j u hj => (x.cell (lt_of_cell (h8 j u hj))).trans (h8 j u hj)⟩
/-- Is an act's path, or text, longer than what is looked at? -/
def bigA (a : ActR) : Bool := decide (1000 < a.p.size + a.q.size) || decide (10000 < a.text.size)
def largeB (l : List ActR) (most : Nat) : Bool := (l.take (most + 1)).any bigA || decide (most < l.length)
theorem large_not {l : List ActR} {most : Nat} (h : largeB l most = false) : l.length ≤ most ∧ ∀ a ∈ l, a.p.size + a.q.size ≤ 1000 ∧ a.text.size ≤ 10000 := by
  unfold largeB at h
  rw [Bool.or_eq_false_iff, decide_eq_false_iff_not, List.any_eq_false] at h
  refine ⟨by omega, fun a ha => ?_⟩
  have := h.1 a (by rw [List.take_of_length_le (by omega)]; exact ha)
  unfold bigA at this
  simp only [Bool.or_eq_true, decide_eq_true_eq, not_or] at this
  omega
end Go.Proofs.YtldppmjjgljinaaGreatDoor
