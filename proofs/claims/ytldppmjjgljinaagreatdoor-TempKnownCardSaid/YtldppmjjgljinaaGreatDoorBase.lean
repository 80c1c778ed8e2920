/- Small helpers that all texts of this seat use: equations of endings; bytes; what lies below the heap's end; the environment of the library's variables. -/
import Derived.Test.YtldppmjjgljinaaGreatDoorProg
import Derived.WalkKit
import Derived.WalkSpells
import Derived.WalkLawsBesides
import Derived.RegionTactic
import Derived.ChangeAlike
import Derived.LoopTactic
import Derived.Outline
import Derived.Deep.QuietTactic
import Derived.BigQuiet
import Derived.Lib.Hide
import Derived.Lib.Strings
import Derived.Lib.LaidTab
import Derived.Lib.SmallJoins
import Derived.IntWalk
import Derived.Sort.Grow
namespace Go.Proofs.YtldppmjjgljinaaGreatDoor
open Go.RowKit

theorem ret_bool {a b : Bool} (h : a = b) : Ending.returned (.bool a) = .returned (.bool b) := by rw [h]
theorem ret_str {a b : ByteArray} (h : a = b) : Ending.returned (.string a) = .returned (.string b) := by rw [h]
theorem ret_int {k : IntKind} {a b : Int} (h : a = b) : Ending.returned (.int k a) = .returned (.int k b) := by rw [h]

theorem size_mk (a : Array UInt8) : (⟨a⟩ : ByteArray).size = a.size := rfl
theorem ret_strb {a b : ByteArray} {c : Bool} (h : a = b) : Ending.returned (.tuple #[.string a, .bool c]) = .returned (.tuple #[.string b, .bool c]) := by rw [h]
theorem ret_str2 {a b : ByteArray} {c d : Bool} (h : a = b) (h2 : c = d) : Ending.returned (.tuple #[.string a, .bool c]) = .returned (.tuple #[.string b, .bool d]) := by rw [h, h2]
theorem ret_bool2 {a b c d : Bool} (h : a = b) (h2 : c = d) : Ending.returned (.tuple #[.bool a, .bool c]) = .returned (.tuple #[.bool b, .bool d]) := by rw [h, h2]
theorem toNat_ne {x y : UInt8} (h : x ≠ y) : ((x.toNat : Int) == y.toNat) = false := by
  rw [beq_eq_false_iff_ne]; intro e; exact h (UInt8.toNat_inj.1 (by omega))
theorem toNat_ne47 {x : UInt8} (h : x ≠ 47) : ((x.toNat : Int) == 47) = false := by
  rw [beq_eq_false_iff_ne]; intro e; exact h (UInt8.toNat_inj.1 (by simp; omega))

theorem take_snoc (s : ByteArray) (k : Nat) (h : k < s.size) : s.toList.take (k + 1) = s.toList.take k ++ [s[k]] := by
  rw [Lib.toList_data, List.take_succ_eq_append_getElem (by simpa using h)]; rfl
theorem len_toList (s : ByteArray) : s.toList.length = s.size := by rw [Lib.toList_data, Lib.size_eq]
theorem getElem_toList (s : ByteArray) (k : Nat) (h : k < s.size) : s.toList[k]? = some s[k] := by
  rw [Lib.toList_data, List.getElem?_eq_getElem (by simpa using h)]; rfl
theorem ba_ext {a b : ByteArray} (h : a.toList = b.toList) : a = b := by
  rw [Lib.toList_data, Lib.toList_data] at h
  rw [← Lib.mk_data a, ← Lib.mk_data b, h]
theorem toList_mk (l : List UInt8) : (⟨l.toArray⟩ : ByteArray).toList = l := by rw [Lib.toList_data]
theorem toList_append (a b : ByteArray) : (a ++ b).toList = a.toList ++ b.toList := by simp [Lib.toList_data]
theorem toList_extract (s : ByteArray) (a b : Nat) : (s.extract a b).toList = (s.toList.drop a).take (b - a) := by
  rw [Lib.extract_toList, Lib.toList_data]

/-- The world has at most new blocks. -/
def Ext (w w' : World) : Prop := Below w.heap.size w w'
theorem Ext.refl (w : World) : Ext w w := Below.refl _ _
theorem Ext.trans {a b c : World} (h : Ext a b) (k : Ext b c) : Ext a c := Below.trans h (Below.mono k h.size)
theorem Ext.drew {w w' : World} (h : Ext w w') : Ext w w'.drew := Below.drew h
theorem Ext.drewN {w w' : World} (h : Ext w w') (n : Nat) : Ext w (w'.drewN n) := Below.trans h ⟨rfl, rfl, rfl, Nat.le_refl _, fun _ _ => rfl⟩
theorem Ext.alloc {w w' : World} (h : Ext w w') (o : Obj) : Ext w (w'.alloc o) := Below.alloc h h.size o
theorem Ext.grow {w w' : World} (h : Ext w w') (os : Array Obj) : Ext w (Go.Sort.grow w' os) := by
  refine Below.trans h ⟨rfl, rfl, rfl, by simp [Go.Sort.grow], fun k hk => ?_⟩
  have : k < w'.heap.size := Nat.lt_of_lt_of_le hk h.size
  simp only [Go.Sort.grow]
  rw [Array.getElem?_append_left this]
theorem Ext.setCell {w w' : World} (h : Ext w w') {p : Addr} (hp : w.heap.size ≤ p.block) (u : Value) : Ext w (w'.setCell p u) := Below.setCell h hp u
theorem Ext.size {w w' : World} (h : Ext w w') : w.heap.size ≤ w'.heap.size := Below.size h
theorem Ext.cell {w w' : World} (h : Ext w w') {b o : Nat} (hb : b < w.heap.size) : w'.cell? ⟨b, o, none⟩ = w.cell? ⟨b, o, none⟩ := Below.cell (p := ⟨b, o, none⟩) h hb
theorem Ext.block {w w' : World} (h : Ext w w') {b : Nat} (hb : b < w.heap.size) : w'.heap[b]? = w.heap[b]? := Below.block h b hb
theorem lt_of_cell {w : World} {b o : Nat} {v : Value} (h : w.cell? ⟨b, o, none⟩ = some v) : b < w.heap.size := by
  unfold World.cell? at h
  by_cases hb : b < w.heap.size
  · exact hb
  · simp only [Array.getElem?_eq_none (Nat.le_of_not_lt hb)] at h; cases h
theorem cell_alloc_old {w : World} {o : Obj} {b off : Nat} (h : b < w.heap.size) : (w.alloc o).cell? ⟨b, off, none⟩ = w.cell? ⟨b, off, none⟩ := ((Ext.refl w).alloc o).cell h
theorem cell_alloc_new {w : World} {c : Array Value} {t : TypeId} {m : Nat × Nat} {b k : Nat} (h : b = w.heap.size) : (w.alloc (.cells c t m)).cell? ⟨b, k, none⟩ = c[k]? := by
  subst h
  show (match (w.heap.push (.cells c t m))[w.heap.size]? with | some (.cells c _ _) => _ | _ => _) = _
  rw [Array.getElem?_push_size]
  rfl
theorem frozen_alloc_old {w : World} {o : Obj} {b off : Nat} (h : b < w.heap.size) : (w.alloc o).frozen? ⟨b, off, none⟩ = w.frozen? ⟨b, off, none⟩ := by
  unfold World.frozen?
  rw [((Ext.refl w).alloc o).block h]
theorem frozen_alloc_new {w : World} {c : Array Value} {t : TypeId} {b k : Nat} (h : b = w.heap.size) : (w.alloc (.cells c t)).frozen? ⟨b, k, none⟩ = false := by
  subst h
  show (match (w.heap.push (.cells c t))[w.heap.size]? with | some (.cells _ _ (lo, hi)) => (decide (lo ≤ k) && decide (k < hi)) | _ => false) = _
  rw [Array.getElem?_push_size]
  simp
end Go.Proofs.YtldppmjjgljinaaGreatDoor
