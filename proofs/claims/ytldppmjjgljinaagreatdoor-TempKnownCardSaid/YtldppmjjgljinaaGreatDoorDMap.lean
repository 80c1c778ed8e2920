/- A disk's nodes in memory: a map from paths to nodes, told by a list of pairs in whatever order; looking up, storing, deleting. -/
import Derived.Test.YtldppmjjgljinaaGreatDoorOwn
import Derived.Test.YtldppmjjgljinaaGreatDoorNodes
import Derived.Test.YtldppmjjgljinaaGreatDoorBlk
import Derived.Maps.OwnSet
import Derived.StringKeys
import Derived.WideKeyEntry
import Derived.Sort.KeysCollected
namespace Go.Proofs.YtldppmjjgljinaaGreatDoor
open Go.RowKit

/-- A value in a map reads as itself. -/
def RN (v : Value) : Option (DataW Value × List MemPlace) := some (.held v, [])
/-- Block b is a map of just these nodes. -/
structure MapL (w : World) (b : Nat) (l : Nodes) : Prop where
  nodup : (l.map (·.1)).Nodup
  small : ∀ x ∈ l, x.1.size ≤ maxLen
  own : ∃ D : DataW Value, w.ownsMap Tryz.prog 9 RN b l.length D ∧ ∀ s : ByteArray, Maps.has D (.string s.data.toList) = (findA l s).isSome ∧ ∀ z, D.atKey (.string s.data.toList) z = (match findA l s with | some n => .held (nv n) | none => z)
theorem keyedN : Maps.Keyed Tryz.prog 9 := Maps.string_keyed Tryz.underlying9
theorem lawN : WideMaps.KeyLaw Tryz.prog 9 := WideMaps.string_law Tryz.underlying9
theorem MapL.lt {w : World} {b : Nat} {l : Nodes} (h : MapL w b l) : b < w.heap.size := h.own.choose_spec.1.lt
theorem MapL.kept {w w' : World} {b : Nat} {l : Nodes} (h : MapL w b l) (k : w'.heap[b]? = w.heap[b]?) : MapL w' b l := by
  obtain ⟨h1, h2, D, ⟨es, clock, h3, h4⟩, h5⟩ := h
  exact ⟨h1, h2, D, ⟨es, clock, k.trans h3, h4⟩, h5⟩
theorem MapL.ext {w w' : World} {b : Nat} {l : Nodes} (h : MapL w b l) (x : Ext w w') : MapL w' b l := h.kept (x.block h.lt)
theorem MapL.perm {w : World} {b : Nat} {l m : Nodes} (h : MapL w b l) (p : l.Perm m) : MapL w b m := by
  obtain ⟨h1, h2, D, h3, h4⟩ := h
  refine ⟨(p.map _).nodup_iff.1 h1, fun x hx => h2 x (p.mem_iff.2 hx), D, p.length_eq ▸ h3, fun s => ?_⟩
  rw [← perm_find h1 p s]; exact h4 s
theorem MapL.made (w : World) : MapL (w.alloc (.map #[] 0)) w.heap.size [] :=
  ⟨List.nodup_nil, fun _ h => (by cases h), .map [], World.ownsMap_made _ _ _ _, fun _ => ⟨rfl, fun _ => rfl⟩⟩

theorem tight {w : World} {b n : Nat} {D : DataW Value} (h : w.ownsMap Tryz.prog 9 RN b n D) : w.ownsMap Tryz.prog 9 RN b (Maps.size D) D := by
  obtain ⟨es, clock, h1, h2, _, rfl⟩ := h
  exact ⟨es, clock, h1, h2, by simp [Maps.size, length_sorted], rfl⟩
theorem ba_data {a b : ByteArray} (h : a.data.toList = b.data.toList) : a = b := ba_ext (by rw [Lib.toList_data, Lib.toList_data]; exact h)
theorem size_of {w : World} {b n : Nat} {D : DataW Value} {l : Nodes} (h : w.ownsMap Tryz.prog 9 RN b n D) (hn : (l.map (·.1)).Nodup) (hh : ∀ s : ByteArray, Maps.has D (.string s.data.toList) = (findA l s).isSome) : Maps.size D = l.length := by
  obtain ⟨es, rfl, hp, _⟩ := h.entries keyedN
  obtain ⟨es', he, hk⟩ := h.keysOf
  cases he
  have hm := perm_strKeys (ss := l.map fun x => x.1.data.toList) hp (fun p hp' => by
    obtain ⟨key, hkey⟩ := hk p hp'
    obtain ⟨x, _, hx, _⟩ := Maps.keyOf_str Tryz.underlying9 hkey
    exact ⟨x, hx⟩) (by
      rw [show (l.map fun x => x.1.data.toList) = (l.map (·.1)).map fun x => x.data.toList from by rw [List.map_map]; rfl]
      exact List.pairwise_map.2 (hn.imp fun hne e => hne (ba_data e))) (fun x => by
      have := hh ⟨x.toArray⟩
      rw [show (⟨x.toArray⟩ : ByteArray).data.toList = x from rfl] at this
      rw [this, findA_isSome]
      constructor
      · intro hx
        obtain ⟨y, hy, e⟩ := List.mem_map.1 hx
        refine List.mem_map.2 ⟨y, hy, ?_⟩
        rw [← e]
      · intro hx
        obtain ⟨y, hy, e⟩ := List.mem_map.1 hx
        exact List.mem_map.2 ⟨y, hy, by rw [e]⟩)
  have := hm.length_eq
  simp [strKeys] at this
  rw [this]
  first | done | rfl

/-- 'n, ok := m[k]', 'm[k]'. -/
theorem MapL.look_ok {w : World} {b : Nat} {l : Nodes} (h : MapL w b l) (s : ByteArray) (hs : s.size ≤ maxLen) :
    (Instr.lookup 142 (.map (some b)) (.string s) true).run Tryz.prog w = .ok (.tuple #[nv ((findA l s).getD nd0), .bool (findA l s).isSome]) w := by
  obtain ⟨_, _, D, h1, h2⟩ := h
  obtain ⟨v, ps, hr, hv⟩ := h1.look_ok keyedN Tryz.underlying142 (z := nv nd0) (by kernel_rfl) (zd := .held (nv nd0)) (zp := []) rfl (WideMaps.keyOf_string_mk Tryz.underlying9 hs)
  obtain ⟨g1, g2⟩ := h2 s
  rw [hr, g1]
  rw [g2] at hv
  have : v = nv ((findA l s).getD nd0) := by
    unfold RN at hv
    cases hf : findA l s with
    | none => rw [hf] at hv; simp at hv; exact hv.1
    | some u => rw [hf] at hv; simp at hv; exact hv.1
  rw [this]
theorem MapL.look {w : World} {b : Nat} {l : Nodes} (h : MapL w b l) (s : ByteArray) (hs : s.size ≤ maxLen) :
    (Instr.lookup 142 (.map (some b)) (.string s) false).run Tryz.prog w = .ok (nv ((findA l s).getD nd0)) w := by
  obtain ⟨_, _, D, h1, h2⟩ := h
  obtain ⟨v, ps, hr, hv⟩ := h1.lookup keyedN Tryz.underlying142 (z := nv nd0) (by kernel_rfl) (zd := .held (nv nd0)) (zp := []) rfl (WideMaps.keyOf_string_mk Tryz.underlying9 hs)
  obtain ⟨g1, g2⟩ := h2 s
  rw [hr]
  rw [g2] at hv
  have : v = nv ((findA l s).getD nd0) := by
    unfold RN at hv
    cases hf : findA l s with
    | none => rw [hf] at hv; simp at hv; exact hv.1
    | some u => rw [hf] at hv; simp at hv; exact hv.1
  rw [this]
theorem put_facts {w : World} {b n : Nat} {D : DataW Value} {l : Nodes} (s : ByteArray) (v : Nd) (h1 : w.ownsMap Tryz.prog 9 RN b n D)
    (h2 : ∀ x : ByteArray, Maps.has D (.string x.data.toList) = (findA l x).isSome ∧ ∀ z, D.atKey (.string x.data.toList) z = (match findA l x with | some n => .held (nv n) | none => z)) :
    ∀ x : ByteArray, Maps.has (D.put (.string s.data.toList) (.held (nv v))) (.string x.data.toList) = (findA ((s, v) :: dropA l s) x).isSome ∧ ∀ z, (D.put (.string s.data.toList) (.held (nv v))).atKey (.string x.data.toList) z = (match findA ((s, v) :: dropA l s) x with | some n => .held (nv n) | none => z) := by
  intro x
  have hl : WideAt.IsKeyLit (Lit.string s.data.toList) := trivial
  unfold findA
  by_cases e : s = x
  · subst e
    rw [if_pos rfl]
    exact ⟨Maps.has_put_same h1.isMap hl _, fun z => Maps.atKey_put_same h1.isMap hl _ _⟩
  · rw [if_neg e, findA_drop, if_neg (Ne.symm e)]
    have hne : Lit.string x.data.toList ≠ Lit.string s.data.toList := fun q => e (ba_data (Lit.string.inj q)).symm
    obtain ⟨g1, g2⟩ := h2 x
    exact ⟨by rw [Maps.has_put_other hne, g1], fun z => by rw [Maps.atKey_put_other hne, g2]⟩
theorem put_nodup {l : Nodes} (h : (l.map (·.1)).Nodup) (s : ByteArray) (v : Nd) : (((s, v) :: dropA l s).map (·.1)).Nodup := by
  rw [List.map_cons, List.nodup_cons]
  refine ⟨fun hm => ?_, dropA_nodup h s⟩
  obtain ⟨y, hy, e⟩ := List.mem_map.1 hm
  unfold dropA at hy
  have := (List.mem_filter.1 hy).2
  simp at this
  exact this e
theorem room_lt {n : Nat} (h : n < 1048576) : n < maxLen := Nat.lt_trans h (by unfold maxLen; decide)
set_option maxRecDepth 10000 in
/-- 'm[k] = n'. -/
theorem MapL.store {w : World} {b : Nat} {l : Nodes} (h : MapL w b l) (hn : l.length < 1048576) (s : ByteArray) (hs : s.size ≤ maxLen) (v : Nd) :
    ∃ w', (Instr.mapUpdate 142 (.map (some b)) (.string s) (nv v)).run Tryz.prog w = .ok () w' ∧ MapL w' b ((s, v) :: dropA l s) ∧ w.mapTurned w' b := by
  obtain ⟨h0, hsm, D, h1, h2⟩ := h
  have hroom := room_lt hn
  obtain ⟨w', hr, ho, hg⟩ := h1.store keyedN Tryz.underlying142 hroom (val := nv v) (d := .held (nv v)) (ps := []) (WideMaps.keyOf_string_mk Tryz.underlying9 hs) rfl
  have hf := put_facts s v h1 h2
  have hnd := put_nodup h0 s v
  refine ⟨w', hr, ⟨hnd, fun x hx => ?_, _, size_of ho hnd (fun x => (hf x).1) ▸ tight ho, hf⟩, hg⟩
  rcases List.mem_cons.1 hx with rfl | hx
  · exact hs
  · exact hsm x (List.mem_filter.1 hx).1
/-- 'delete(m, k)'. -/
theorem MapL.drop {w : World} {b : Nat} {l : Nodes} (h : MapL w b l) (s : ByteArray) (hs : s.size ≤ maxLen) (ty : TypeId) :
    ∃ w', (Builtin.delete_ #[142, 9] ty #[.map (some b), .string s]).run Tryz.prog w = .ok (.tuple #[]) w' ∧ MapL w' b (dropA l s) ∧ w.mapTurned w' b := by
  obtain ⟨h0, hsm, D, h1, h2⟩ := h
  obtain ⟨w', hr, ho, hg⟩ := h1.drop keyedN Tryz.underlying142 (WideMaps.keyOf_string_mk Tryz.underlying9 hs) ty
  have hf : ∀ x : ByteArray, Maps.has (D.del (.string s.data.toList)) (.string x.data.toList) = (findA (dropA l s) x).isSome ∧ ∀ z, (D.del (.string s.data.toList)).atKey (.string x.data.toList) z = (match findA (dropA l s) x with | some n => .held (nv n) | none => z) := fun x => by
    rw [findA_drop]
    by_cases e : x = s
    · subst e
      rw [if_pos rfl]
      exact ⟨Maps.has_del_same, fun z => Maps.atKey_del_same _⟩
    · rw [if_neg e]
      have hne : Lit.string x.data.toList ≠ Lit.string s.data.toList := fun q => e (ba_data (Lit.string.inj q))
      obtain ⟨g1, g2⟩ := h2 x
      exact ⟨by rw [Maps.has_del_other hne, g1], fun z => by rw [Maps.atKey_del_other hne, g2]⟩
  have hnd := dropA_nodup h0 s
  exact ⟨w', hr, ⟨hnd, fun x hx => hsm x (List.mem_filter.1 hx).1, _, size_of ho hnd (fun x => (hf x).1) ▸ tight ho, hf⟩, hg⟩
/-- 'm[k], x = n, y': the entry made ready, then stored into. -/
theorem MapL.entry {w : World} {b : Nat} {l : Nodes} (h : MapL w b l) (hn : l.length < 1048576) (s : ByteArray) (hs : s.size ≤ maxLen) (v : Nd) :
    ∃ v0 st w1, (Instr.mapEntry 142 (.map (some b)) (.string s)).run Tryz.prog w = .ok (.tuple #[v0, goInt st]) w1 ∧ w.grownBy w1 (some b) ∧ w1.heap.size = w.heap.size ∧
      ∀ w2, w2.heap[b]? = w1.heap[b]? → ∃ w', (Instr.entryStore 142 (.map (some b)) (goInt st) (nv v)).run Tryz.prog w2 = .ok () w' ∧ MapL w' b ((s, v) :: dropA l s) ∧ w2.grownBy w' (some b) ∧ w'.heap.size = w2.heap.size := by
  obtain ⟨w9, hr9, hm9, _⟩ := h.store hn s hs v
  obtain ⟨D, ⟨es, clock, hb, F, _, _⟩, _⟩ := h.own
  obtain ⟨v0, st, es1, clock1, h1, _, h3⟩ := WideElems.entry_then_store lawN Tryz.underlying142 (z := nv nd0) (fun u => by kernel_rfl) hb F (WideMaps.keyOf_string_mk Tryz.underlying9 hs)
  have hlt := ltB hb
  have hsb : ∀ (u : World) o, b < u.heap.size → (ChangeMaps.setBlock u b o).heap[b]? = some o := fun u o hu => by unfold ChangeMaps.setBlock; simp [hu]
  have hso : ∀ (u : World) o i, i ≠ b → (ChangeMaps.setBlock u b o).heap[i]? = u.heap[i]? := fun u o i hi => by unfold ChangeMaps.setBlock; simp [Ne.symm hi]
  have hss : ∀ (u : World) o, (ChangeMaps.setBlock u b o).heap.size = u.heap.size := fun u o => by unfold ChangeMaps.setBlock; simp
  refine ⟨v0, st, _, h1, ⟨rfl, rfl, rfl, by rw [hss]; exact Nat.le_refl _, fun i _ hi => hso _ _ _ fun e => hi (by rw [e])⟩, hss _ _, fun w2 hw2 => ?_⟩
  rw [hsb _ _ hlt] at hw2
  obtain ⟨es', clock', h4, h5⟩ := h3 w2 (nv v) hw2
  refine ⟨_, h4, ?_, ⟨rfl, rfl, rfl, by rw [hss]; exact Nat.le_refl _, fun i _ hi => hso _ _ _ fun e => hi (by rw [e])⟩, hss _ _⟩
  rw [hr9] at h5
  injection h5 with _ h5
  subst h5
  exact hm9.kept (by rw [hsb _ _ (ltB hw2), hsb _ _ hlt])
end Go.Proofs.YtldppmjjgljinaaGreatDoor
