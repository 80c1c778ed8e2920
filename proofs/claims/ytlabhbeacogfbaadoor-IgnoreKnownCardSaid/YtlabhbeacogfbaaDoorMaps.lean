/- Maps from texts to values, in memory: what a block reads as; looking up, storing. -/
import Derived.Test.YtlabhbeacogfbaaDoorOwnK
import Derived.Maps.OwnSet
import Derived.StringKeys
namespace Go.Proofs.YtlabhbeacogfbaaDoor
open Go.RowKit

/-- A value in a map reads as itself. -/
def RV (v : Value) : Option (DataW Value × List MemPlace) := some (.held v, [])

/-- Block b is a map of at most n entries, from texts, that holds f of them. -/
def MapAt (w : World) (b n : Nat) (f : ByteArray → Option Value) : Prop := ∃ D : DataW Value, w.ownsMap Tryd.prog 9 RV b n D ∧ ∀ s : ByteArray, s.size ≤ maxLen →
  (Maps.has D (.string s.data.toList) = (f s).isSome ∧ ∀ z, D.atKey (.string s.data.toList) z = (match f s with | some v => .held v | none => z))

theorem MapAt.made (w : World) : MapAt (w.alloc (.map #[] 0)) w.heap.size 0 fun _ => none :=
  ⟨.map [], World.ownsMap_made _ _ _ _, fun _ _ => ⟨rfl, fun _ => rfl⟩⟩
theorem MapAt.kept {w w' : World} {b n : Nat} {f : ByteArray → Option Value} (h : MapAt w b n f) (k : w'.heap[b]? = w.heap[b]?) : MapAt w' b n f := by
  obtain ⟨D, ⟨es, clock, h1, h2⟩, h3⟩ := h
  exact ⟨D, ⟨es, clock, k.trans h1, h2⟩, h3⟩
theorem MapAt.lt {w : World} {b n : Nat} {f : ByteArray → Option Value} (h : MapAt w b n f) : b < w.heap.size := h.choose_spec.1.lt
theorem MapAt.ext {w w' : World} {b n : Nat} {f : ByteArray → Option Value} (h : MapAt w b n f) (x : Ext w w') : MapAt w' b n f := h.kept (x.block h.lt)
theorem MapAt.congr {w : World} {b n : Nat} {f g : ByteArray → Option Value} (h : MapAt w b n f) (k : ∀ s, s.size ≤ maxLen → f s = g s) : MapAt w b n g := by
  obtain ⟨D, h1, h2⟩ := h
  exact ⟨D, h1, fun s hs => by rw [← k s hs]; exact h2 s hs⟩

theorem keyed9 : Maps.Keyed Tryd.prog 9 := Maps.string_keyed Tryd.underlying9

/-- 'v, ok := m[k]'. -/
theorem MapAt.look_ok {w : World} {b n : Nat} {f : ByteArray → Option Value} (h : MapAt w b n f) {t e : TypeId} (ht : Tryd.prog.underlying t = some (.map 9 e)) {z : Value} (hz : (zeroValue e).run Tryd.prog w = .ok z w) (s : ByteArray) (hs : s.size ≤ maxLen) :
    (Instr.lookup t (.map (some b)) (.string s) true).run Tryd.prog w = .ok (.tuple #[(f s).getD z, .bool (f s).isSome]) w := by
  obtain ⟨D, h1, h2⟩ := h
  obtain ⟨v, ps, hr, hv⟩ := h1.look_ok keyed9 ht hz (zd := .held z) (zp := []) rfl (WideMaps.keyOf_string_mk Tryd.underlying9 hs)
  obtain ⟨g1, g2⟩ := h2 s hs
  rw [hr, g1]
  rw [g2 (.held z)] at hv
  have : v = (f s).getD z := by
    unfold RV at hv
    cases hf : f s with
    | none => rw [hf] at hv; simp at hv; exact hv.1
    | some u => rw [hf] at hv; simp at hv; exact hv.1
  rw [this]
/-- 'm[k]'. -/
theorem MapAt.look {w : World} {b n : Nat} {f : ByteArray → Option Value} (h : MapAt w b n f) {t e : TypeId} (ht : Tryd.prog.underlying t = some (.map 9 e)) {z : Value} (hz : (zeroValue e).run Tryd.prog w = .ok z w) (s : ByteArray) (hs : s.size ≤ maxLen) :
    (Instr.lookup t (.map (some b)) (.string s) false).run Tryd.prog w = .ok ((f s).getD z) w := by
  obtain ⟨D, h1, h2⟩ := h
  obtain ⟨v, ps, hr, hv⟩ := h1.lookup keyed9 ht hz (zd := .held z) (zp := []) rfl (WideMaps.keyOf_string_mk Tryd.underlying9 hs)
  obtain ⟨g1, g2⟩ := h2 s hs
  rw [hr]
  rw [g2 (.held z)] at hv
  have : v = (f s).getD z := by
    unfold RV at hv
    cases hf : f s with
    | none => rw [hf] at hv; simp at hv; exact hv.1
    | some u => rw [hf] at hv; simp at hv; exact hv.1
  rw [this]
/-- 'm[k] = v'. -/
theorem MapAt.store {w : World} {b n : Nat} {f : ByteArray → Option Value} (h : MapAt w b n f) {t e : TypeId} (ht : Tryd.prog.underlying t = some (.map 9 e)) (hn : n < maxLen) (s : ByteArray) (hs : s.size ≤ maxLen) (v : Value) :
    ∃ w', (Instr.mapUpdate t (.map (some b)) (.string s) v).run Tryd.prog w = .ok () w' ∧ MapAt w' b (n + 1) (fun x => if x = s then some v else f x) ∧ w.grownBy w' (some b) ∧ w'.heap.size = w.heap.size := by
  obtain ⟨D, h1, h2⟩ := h
  obtain ⟨w', hr, ho, hg⟩ := h1.store keyed9 ht hn (val := v) (d := .held v) (ps := []) (WideMaps.keyOf_string_mk Tryd.underlying9 hs) rfl
  refine ⟨w', hr, ⟨_, ho, fun x hx => ?_⟩, hg.grown, ?_⟩
  · have hl : WideAt.IsKeyLit (Lit.string s.data.toList) := keyed9.key (WideMaps.keyOf_string_mk Tryd.underlying9 hs)
    by_cases e : x = s
    · subst e
      dsimp only
      rw [if_pos rfl]
      exact ⟨Maps.has_put_same h1.isMap hl _, fun z => Maps.atKey_put_same h1.isMap hl _ _⟩
    · dsimp only
      rw [if_neg e]
      have hne : Lit.string x.data.toList ≠ Lit.string s.data.toList := fun q => e (by
        have : x.data.toList = s.data.toList := by injection q
        exact ba_ext (by rw [Lib.toList_data, Lib.toList_data]; exact this))
      obtain ⟨g1, g2⟩ := h2 x hx
      exact ⟨by rw [Maps.has_put_other hne, g1], fun z => by rw [Maps.atKey_put_other hne, g2]⟩
  · obtain ⟨es, c, es', c', _, hw⟩ := hg
    rw [hw]; exact Array.size_setIfInBounds
end Go.Proofs.YtlabhbeacogfbaaDoor
