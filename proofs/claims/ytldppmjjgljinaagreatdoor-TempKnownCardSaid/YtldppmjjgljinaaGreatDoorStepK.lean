/- Append of one element as a step of a region that draws its order. -/
import Derived.Test.YtldppmjjgljinaaGreatDoorOwn
import Derived.Deep.RegionLaw
namespace Go.Proofs.YtldppmjjgljinaaGreatDoor
open Go.RowKit

/-- Append of one element to a row of the call's own, as a step of a region that draws. -/
theorem step_append_k {P : Program} {ops : Array Oper} {o : Oper} {a : Act} {Q : Exit → Act → World → Prop} {K : Act → World → Prop} {E : Prop} {w : World} {t e : TypeId} {z : Value} {k bytes : Nat} (el : ElemK P t e z k bytes)
    (base : Nat) (v : Value) (n : Nat) (xs : List Value) (hown : w.ownsRow base e k v n xs) (g : Nat) (us : List Value) (hus : us.length = k) (s x : Operand)
    (hgd : o.guard = none) (ho : o.op = .call { callee := .builtin .append, args := #[s, x], argTypes := #[t, t] })
    (hs : a.eval s = v) (hx : a.eval x = .slice (some ⟨g, 0, none⟩) 1 1) (hnew : ∀ (j : Nat) u, us[j]? = some u → w.cell? ⟨g, j, none⟩ = some u) (h1 : ∀ u ∈ us, u.oneCell' = true) (hn : n ≤ 68719476736) (hbase : base ≤ w.heap.size)
    (h : ∀ v' w', w'.ownsRow base e k v' (n + 1) (xs ++ us) → w.grownBy w' v.ownBlock → IsRow w' base (n + 1) v' → v'.ownBlock = v.ownBlock ∨ v'.ownBlock = some w.heap.size → K (a.put o.dst v') w') :
    if Region.wanted o (yielded ops a.tmps) = true then Oper.wp P o a w K Q else E := by
  have hw : Region.wanted o (yielded ops a.tmps) = true := by simp [Region.wanted, hgd]
  rw [if_pos hw]
  obtain ⟨i, hi, hz, hsz, hby⟩ := info_parts el.info
  have hf := el.few
  have hnews : ∀ j u, us[j]? = some u → w.cell? ((⟨g, 0, none⟩ : Addr).add j) = some u := fun j u hj => by
    rw [append_kw.add_off, Nat.zero_add]; exact hnew j u hj
  have hm : n + 1 ≤ maxLen := by unfold maxLen; omega
  have hb : (n + 1) * bytes ≤ 140737488355328 := by
    have : (n + 1) * bytes ≤ (n + 1) * 1024 := Nat.mul_le_mul_left _ hf
    omega
  obtain ⟨v', w', hr, h2, h3, _⟩ := run_append_own w base t o.type e i z k bytes el.ut hi hz hsz hby el.cells el.pos v n xs hown ⟨g, 0, none⟩ 1 1 us (by omega) hnews h1 hm hb hbase
  have hwh := append_where el.ut hi hz hsz hown (by omega) hnews h1 (by omega) hm (by rw [hby]; exact hb) hr
  unfold Oper.wp execOp
  simp only [ho, resolve, invoke, builtin, Sem.run_bind, Sem.run_pure, Result.andThen_ok, List.map_toArray, List.map_cons, List.map_nil, hs, hx, hr]
  refine h v' w' h2 h3 ?_ hwh
  rcases h2.2 with ⟨_, h0⟩ | ⟨g', cap, cur, hv, hb', hh, hc, hm', _⟩
  · omega
  · refine ⟨g', cap, hv, hb', ?_, hc, hm'⟩
    rcases Nat.lt_or_ge g' w'.heap.size with hlt | hge
    · exact hlt
    · rw [Array.getElem?_eq_none hge] at hh; cases hh

theorem owns_ext {w w' : World} {base k : Nat} {e : TypeId} {v : Value} {n : Nat} {xs : List Value} (h : w.ownsRow base e k v n xs) (x : Ext w w') : w'.ownsRow base e k v n xs := by
  refine ⟨h.1, ?_⟩
  rcases h.2 with h1 | ⟨g, cap, cur, hv, hg, hh, hr⟩
  · exact .inl h1
  · exact .inr ⟨g, cap, cur, hv, hg, (x.block (Array.getElem?_eq_some_iff.1 hh).1).trans hh, hr⟩
theorem heap_new_drew {W : World} {o : Obj} {b : Nat} (h : b = W.heap.size) : ((W.alloc o).drew).heap[b]? = some o := by subst h; exact heap_alloc_new W o
/-- As append_where, with a word on the old blocks. -/
theorem append_where2 {P : Program} {w : World} {base : Nat} {t ty e : TypeId} {i : TypeInfo} {z : Value} {size : Nat} (ht : P.underlying t = some (.slice e)) (hi : P.info? e = some i) (hz : i.zero = some z) (hsize : i.size = size)
    {v : Value} {n : Nat} {xs : List Value} (hown : w.ownsRow base e size v n xs) {a : Addr} {m c : Nat} {news : List Value} (hl : news.length = m * size) (hnews : ∀ j u, news[j]? = some u → w.cell? (a.add j) = some u) (h1 : ∀ u ∈ news, u.oneCell' = true)
    (hm : 0 < m) (h63 : n + m ≤ maxLen) (hbytes : (n + m) * i.bytes ≤ 140737488355328) {v' : Value} {w' : World} (hr : (Builtin.append_ #[t, t] ty #[v, .slice (some a) m c]).run P w = .ok v' w') :
    v'.ownBlock = v.ownBlock ∨ ∀ k, k < w.heap.size → w'.heap[k]? = w.heap[k]? := by
  subst hsize
  have hsmall : n + m ≤ 9223372036854775807 := by simp only [maxLen] at h63; omega
  have hal : ∀ o k, k < w.heap.size → (w.drew.alloc o).heap[k]? = w.heap[k]? := fun o k hk => ((Ext.refl w).drew.alloc o).block hk
  rcases hown.2 with ⟨rfl, rfl⟩ | ⟨g, cap, cur, rfl, hbg, hg, hnc, hcm, hcs, htake⟩
  · rw [run_append_nil w t ty e i z ht hi hz a m c news hl hnews hm (by omega) (by simp only [Nat.zero_add] at hbytes; omega)] at hr
    cases hr
    exact .inr (hal _)
  · by_cases hroom : n + m ≤ cap
    · rw [run_append_room w t ty e i ht hi g n cap cur hg a m c news hl hnews h1 hroom (by rw [hl, hcs, ← Nat.add_mul]; exact Nat.mul_le_mul_right _ hroom)] at hr
      cases hr
      exact .inl rfl
    · rw [run_append_grow w t ty e i z ht hi hz ⟨g, 0, none⟩ n cap xs hown.1 (hown.cells (g := g) rfl) a m c news hl hnews (by omega) (by omega) (growslice_fits (by omega) hbytes)] at hr
      cases hr
      exact .inr (hal _)
/-- Append of one element of one cell as a step of a region that draws; what the row held is where it was. -/
theorem step_append_keep {P : Program} {ops : Array Oper} {o : Oper} {a : Act} {Q : Exit → Act → World → Prop} {K : Act → World → Prop} {E : Prop} {w : World} {t e : TypeId} {z : Value} {bytes : Nat} (el : Elem P t e z bytes)
    (base : Nat) (v : Value) (n : Nat) (xs : List Value) (hown : w.ownsRow base e 1 v n xs) (g : Nat) (u : Value) (s x : Operand)
    (hgd : o.guard = none) (ho : o.op = .call { callee := .builtin .append, args := #[s, x], argTypes := #[t, t] })
    (hs : a.eval s = v) (hx : a.eval x = .slice (some ⟨g, 0, none⟩) 1 1) (hnew : w.cell? ⟨g, 0, none⟩ = some u) (h1 : u.oneCell' = true) (hn : n ≤ 68719476736) (hbase : base ≤ w.heap.size)
    (h : ∀ v' w', w'.ownsRow base e 1 v' (n + 1) (xs ++ [u]) → w.grownBy w' v.ownBlock → IsRow w' base (n + 1) v' → (∀ (b j : Nat) y, v.ownBlock = some b → xs[j]? = some y → w'.cell? ⟨b, j, none⟩ = some y) → K (a.put o.dst v') w') :
    if Region.wanted o (yielded ops a.tmps) = true then Oper.wp P o a w K Q else E := by
  have hw : Region.wanted o (yielded ops a.tmps) = true := by simp [Region.wanted, hgd]
  rw [if_pos hw]
  obtain ⟨i, hi, hz, hsz, hby⟩ := info_parts el.info
  have hf := el.few
  have hadd : ∀ b k : Nat, (⟨b, 0, none⟩ : Addr).add k = ⟨b, k, none⟩ := fun b k => by rw [append_kw.add_off, Nat.zero_add]
  have hnews : ∀ j y, [u][j]? = some y → w.cell? ((⟨g, 0, none⟩ : Addr).add j) = some y := fun j y hj => by
    rw [hadd]
    match j, hj with
    | 0, hj => simp at hj; subst hj; exact hnew
  have h1' : ∀ y ∈ [u], y.oneCell' = true := fun y hy => by simp at hy; subst hy; exact h1
  have hm : n + 1 ≤ maxLen := by unfold maxLen; omega
  have hb : (n + 1) * bytes ≤ 140737488355328 := by
    have : (n + 1) * bytes ≤ (n + 1) * 1024 := Nat.mul_le_mul_left _ hf
    omega
  obtain ⟨v', w', hr, h2, h3, _⟩ := run_append_own w base t o.type e i z 1 bytes el.ut hi hz hsz hby el.one (by decide) v n xs hown ⟨g, 0, none⟩ 1 1 [u] rfl hnews h1' hm hb hbase
  have hwh := append_where2 el.ut hi hz hsz hown rfl hnews h1' (by omega) hm (by rw [hby]; exact hb) hr
  unfold Oper.wp execOp
  simp only [ho, resolve, invoke, builtin, Sem.run_bind, Sem.run_pure, Result.andThen_ok, List.map_toArray, List.map_cons, List.map_nil, hs, hx, hr]
  refine h v' w' h2 h3 ?_ fun b j y hvb hj => ?_
  · rcases h2.2 with ⟨_, h0⟩ | ⟨g', cap, cur, hv, hb', hh, hc, hm', _⟩
    · omega
    · refine ⟨g', cap, hv, hb', ?_, hc, hm'⟩
      rcases Nat.lt_or_ge g' w'.heap.size with hlt | hge
      · exact hlt
      · rw [Array.getElem?_eq_none hge] at hh; cases hh
  · rcases hwh with hwh | hwh
    · have := h2.cells (hwh.trans hvb) j y (by rw [List.getElem?_append_left (List.getElem?_eq_some_iff.1 hj).1]; exact hj)
      rwa [hadd] at this
    · have h9 := hown.cells hvb j y hj
      rw [hadd] at h9
      have hlt := lt_of_cell h9
      unfold World.cell? at h9 ⊢
      rw [hwh b hlt]; exact h9
/-- Append of some elements of one cell as a step of a region that draws. -/
theorem step_append_m {P : Program} {ops : Array Oper} {o : Oper} {a : Act} {Q : Exit → Act → World → Prop} {K : Act → World → Prop} {E : Prop} {w : World} {t e : TypeId} {z : Value} {bytes : Nat} (el : Elem P t e z bytes)
    (base : Nat) (v : Value) (n : Nat) (xs : List Value) (hown : w.ownsRow base e 1 v n xs) (g : Nat) (us : List Value) (m : Nat) (hl : us.length = m) (s x : Operand)
    (hgd : o.guard = none) (ho : o.op = .call { callee := .builtin .append, args := #[s, x], argTypes := #[t, t] })
    (hs : a.eval s = v) (hx : a.eval x = .slice (some ⟨g, 0, none⟩) m m) (hnew : ∀ (j : Nat) u, us[j]? = some u → w.cell? ⟨g, j, none⟩ = some u) (h1 : ∀ u ∈ us, u.oneCell' = true) (hn : n + m ≤ 68719476736) (hbase : base ≤ w.heap.size)
    (h : ∀ v' w', w'.ownsRow base e 1 v' (n + m) (xs ++ us) → w.grownBy w' v.ownBlock → K (a.put o.dst v') w') :
    if Region.wanted o (yielded ops a.tmps) = true then Oper.wp P o a w K Q else E := by
  have hw : Region.wanted o (yielded ops a.tmps) = true := by simp [Region.wanted, hgd]
  rw [if_pos hw]
  obtain ⟨i, hi, hz, hsz, hby⟩ := info_parts el.info
  have hf := el.few
  have hnews : ∀ j y, us[j]? = some y → w.cell? ((⟨g, 0, none⟩ : Addr).add j) = some y := fun j y hj => by
    rw [append_kw.add_off, Nat.zero_add]; exact hnew j y hj
  have hm : n + m ≤ maxLen := by unfold maxLen; omega
  have hb : (n + m) * bytes ≤ 140737488355328 := by
    have : (n + m) * bytes ≤ (n + m) * 1024 := Nat.mul_le_mul_left _ hf
    omega
  obtain ⟨v', w', hr, h2, h3, _⟩ := run_append_own w base t o.type e i z 1 bytes el.ut hi hz hsz hby el.one (by decide) v n xs hown ⟨g, 0, none⟩ m m us (by omega) hnews h1 hm hb hbase
  unfold Oper.wp execOp
  simp only [ho, resolve, invoke, builtin, Sem.run_bind, Sem.run_pure, Result.andThen_ok, List.map_toArray, List.map_cons, List.map_nil, hs, hx, hr]
  exact h v' w' h2 h3
end Go.Proofs.YtldppmjjgljinaaGreatDoor
