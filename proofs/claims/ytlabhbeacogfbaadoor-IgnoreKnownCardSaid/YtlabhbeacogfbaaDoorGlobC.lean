/- Elements in memory: what caravan/glob keeps of one (a function value), and what caravanref07 does (a row of four cells); each holds of a byte as the plain element does. -/
import Derived.Test.YtlabhbeacogfbaaDoorGlobB
import Derived.Test.YtlabhbeacogfbaaDoorCells
namespace Go.Proofs.YtlabhbeacogfbaaDoor
open Go.RowKit

/-- A function value that stands for an element; its pattern lies in block bp, what it has captured in blocks that are far. -/
def GFn (w : World) (bp : Nat) (Far : Nat → Prop) : GE → Value → Prop
  | .all, v => v = .func (.func 70) #[] #[]
  | .some, v => v = .func (.func 69) #[] #[]
  | .any, v => v = .func (.func 69) #[] #[]
  | .byt c, v => ∃ bw bq, v = .func (.func 90) #[] #[.pointer (some ⟨bw, 0, none⟩), .pointer (some ⟨bq, 0, none⟩)] ∧ Far bw ∧ Far bq ∧ w.cell? ⟨bw, 0, none⟩ = some (.int .u8 c.toNat) ∧ w.cell? ⟨bq, 0, none⟩ = some (.pointer (some ⟨bp, 0, none⟩))
  | .set neg rs, v => ∃ b5 b10 b0 br u, v = .func (.func 93) #[] #[.pointer (some ⟨b5, 0, none⟩), .pointer (some ⟨b10, 0, none⟩), .pointer (some ⟨b0, 0, none⟩)] ∧
      Far b5 ∧ Far b10 ∧ Far b0 ∧ Far br ∧ w.cell? ⟨b5, 0, none⟩ = some (.bool neg) ∧ w.cell? ⟨b10, 0, none⟩ = some (.func (.func 92) #[] #[.pointer (some ⟨br, 0, none⟩)]) ∧
      w.cell? ⟨b0, 0, none⟩ = some (.pointer (some ⟨bp, 0, none⟩)) ∧ w.cell? ⟨br, 0, none⟩ = some u ∧ RangesFrom w Far u rs

theorem enters_part : Enters Tryd.prog 69 := enters_of (fn := Tryd.f69) (by kernel_rfl) (by kernel_rfl) rfl
theorem enters_every : Enters Tryd.prog 70 := enters_of (fn := Tryd.f70) (by kernel_rfl) (by kernel_rfl) rfl
theorem enters_is1 : Enters Tryd.prog 90 := enters_of (fn := Tryd.f90) (by kernel_rfl) (by kernel_rfl) rfl
theorem enters_class2 : Enters Tryd.prog 93 := enters_of (fn := Tryd.f93) (by kernel_rfl) (by kernel_rfl) rfl

/-- What a walk needs of an element's function value. -/
theorem gfn_calls {w : World} {bp : Nat} {Far : Nat → Prop} {e : GE} {v : Value} {f : Bool} (h : GFn w bp Far e v) (hf : w.cell? ⟨bp, 3, none⟩ = some (.bool f)) :
    ∃ F cap, v = .func (.func F) #[] cap ∧ Enters Tryd.prog F ∧ ∀ (c : UInt8) (x : After w), Calls Tryd.prog F (#[.int .u8 c.toNat] ++ cap) x.v fun e' w'' => e' = .returned (.bool (e.holds f c)) ∧ Ext x.v w'' := by
  cases e with
  | all => exact ⟨_, _, h, enters_every, fun c x => (every_any c x.v).mono fun _ _ ⟨h1, h2⟩ => ⟨h1, h2 ▸ Ext.refl _⟩⟩
  | some => exact ⟨_, _, h, enters_part, fun c x => (part_any c x.v).mono fun _ _ ⟨h1, h2⟩ => ⟨h1, h2 ▸ Ext.refl _⟩⟩
  | any => exact ⟨_, _, h, enters_part, fun c x => (part_any c x.v).mono fun _ _ ⟨h1, h2⟩ => ⟨h1, h2 ▸ Ext.refl _⟩⟩
  | byt b =>
    obtain ⟨bw, bq, rfl, _, _, h3, h4⟩ := h
    exact ⟨_, _, rfl, enters_is1, fun c x => (is1_any c b bw bq bp f x.v (After.cell h3 x) (After.cell h4 x) (After.cell hf x)).mono fun _ _ ⟨h1, n, h2⟩ => ⟨h1, h2 ▸ (Ext.refl _).drewN n⟩⟩
  | set neg rs =>
    obtain ⟨b5, b10, b0, br, u, rfl, _, _, _, _, h5, h6, h7, h8, h9⟩ := h
    exact ⟨_, _, rfl, enters_class2, fun c x => class2_any c rs f neg b5 b10 b0 bp br u x.v (After.cell h5 x) (After.cell h6 x) (After.cell h7 x) (After.cell hf x) (After.cell h8 x) (h9.at_.ext x.x)⟩

/-- What is far stays. -/
structure Keeps (Far : Nat → Prop) (w w' : World) : Prop where
  size : w.heap.size ≤ w'.heap.size
  cell : ∀ b o, Far b → b < w.heap.size → w'.cell? ⟨b, o, none⟩ = w.cell? ⟨b, o, none⟩
theorem Ext.keeps {w w' : World} (h : Ext w w') (Far : Nat → Prop) : Keeps Far w w' := ⟨h.size, fun _ _ _ hb => h.cell hb⟩
theorem Keeps.trans {Far : Nat → Prop} {a b c : World} (h : Keeps Far a b) (k : Keeps Far b c) : Keeps Far a c :=
  ⟨Nat.le_trans h.size k.size, fun x o hx hl => (k.cell x o hx (Nat.lt_of_lt_of_le hl h.size)).trans (h.cell x o hx hl)⟩
theorem Keeps.at_ {Far : Nat → Prop} {w w' : World} (h : Keeps Far w w') {b o : Nat} {u : Value} (hb : Far b) (hc : w.cell? ⟨b, o, none⟩ = some u) : w'.cell? ⟨b, o, none⟩ = some u := (h.cell b o hb (lt_of_cell hc)).trans hc
theorem RangesFrom.keeps {Far : Nat → Prop} {w w' : World} {v : Value} {rs : List (UInt8 × UInt8)} (h : RangesFrom w Far v rs) (k : Keeps Far w w') : RangesFrom w' Far v rs := by
  refine ⟨?_, fun g n cap hv => ⟨(h.far g n cap hv).1, Nat.lt_of_lt_of_le (h.far g n cap hv).2 k.size⟩⟩
  obtain ⟨a, cap, h1, h2, h3, h4⟩ := h.at_
  refine ⟨a, cap, h1, h2, h3, fun j r hj => ?_⟩
  obtain ⟨g, h5, h6, h7⟩ := h4 j r hj
  have hg := (h.far g rs.length cap (by rw [h1, h5])).1
  exact ⟨g, h5, k.at_ hg h6, k.at_ hg h7⟩
theorem GFn.keeps {bp : Nat} {Far : Nat → Prop} {w w' : World} {e : GE} {v : Value} (h : GFn w bp Far e v) (k : Keeps Far w w') : GFn w' bp Far e v := by
  cases e with
  | all => exact h
  | some => exact h
  | any => exact h
  | byt c =>
    obtain ⟨bw, bq, h1, h2, h3, h4, h5⟩ := h
    exact ⟨bw, bq, h1, h2, h3, k.at_ h2 h4, k.at_ h3 h5⟩
  | set neg rs =>
    obtain ⟨b5, b10, b0, br, u, h1, h2, h3, h4, h5, h6, h7, h8, h9, h10⟩ := h
    exact ⟨b5, b10, b0, br, u, h1, h2, h3, h4, h5, k.at_ h2 h6, k.at_ h3 h7, k.at_ h4 h8, k.at_ h5 h9, h10.keeps k⟩
theorem GFn.far {bp : Nat} {Far Far' : Nat → Prop} {w : World} {e : GE} {v : Value} (h : GFn w bp Far e v) (k : ∀ b, b < w.heap.size → Far b → Far' b) : GFn w bp Far' e v := by
  cases e with
  | all => exact h
  | some => exact h
  | any => exact h
  | byt c =>
    obtain ⟨bw, bq, h1, h2, h3, h4, h5⟩ := h
    exact ⟨bw, bq, h1, k _ (lt_of_cell h4) h2, k _ (lt_of_cell h5) h3, h4, h5⟩
  | set neg rs =>
    obtain ⟨b5, b10, b0, br, u, h1, h2, h3, h4, h5, h6, h7, h8, h9, h10⟩ := h
    exact ⟨b5, b10, b0, br, u, h1, k _ (lt_of_cell h6) h2, k _ (lt_of_cell h7) h3, k _ (lt_of_cell h8) h4, k _ (lt_of_cell h9) h5, h6, h7, h8, h9, h10.at_, fun g n cap hv => ⟨k _ (h10.far g n cap hv).2 (h10.far g n cap hv).1, (h10.far g n cap hv).2⟩⟩

/-- A function value, or none. -/
def FnV (u : Value) : Prop := u = .nilFunc ∨ ∃ F cap, u = .func (.func F) #[] cap

theorem is_any (bp : Nat) (c : UInt8) (w : World) :
    Calls Tryd.prog 71 #[.pointer (some ⟨bp, 0, none⟩), .int .u8 c.toNat] w fun e w' => ∃ F cap, e = .returned (.agg #[.func (.func F) #[] cap, .bool false]) ∧ GFn w' bp (fun b => w.heap.size ≤ b) (.byt c) (.func (.func F) #[] cap) ∧ Ext w w' := by
  go_enter Tryd.func71, Tryd.ntmps71
  go_wp2
  refine bodyPost_ret (results_cell_row rfl _ _ (w.heap.size + 1 + 1) 86 _ (0, 0) _ rfl (by rw [show w.heap.size + 1 + 1 = ((w.alloc (.cells #[.pointer (some ⟨bp, 0, none⟩)] 57)).alloc (.cells #[.int .u8 c.toNat] 5)).heap.size from by simp]; exact heap_alloc_new _ _) Tryd.underlying86 rfl (by kernel_rfl)) rfl ?_
  refine ⟨_, _, rfl, ⟨_, _, rfl, by simp, Nat.le_refl _, ?_, ?_⟩, ?_⟩
  · rw [cell_alloc_old (by simp), cell_alloc_new (by simp)]; rfl
  · rw [cell_alloc_old (by simp; omega), cell_alloc_old (by simp), cell_alloc_new rfl]; rfl
  · exact (((Ext.refl w).alloc _).alloc _).alloc _
end Go.Proofs.YtlabhbeacogfbaaDoor
