/- Contracts of caravanlaw08's inner functions; lists as texts. -/
import Derived.Test.YtlabhbeacogfbaaDoorIgnI
import Derived.Test.YtlabhbeacogfbaaDoorIgnD
import Derived.Test.YtlabhbeacogfbaaDoorTailQ
import Derived.Test.YtlabhbeacogfbaaDoorSame
namespace Go.Proofs.YtlabhbeacogfbaaDoor
open Go.RowKit

/-- A list of patterns in memory, by its texts. -/
def IsList (w : World) (ll : Nat) (ts : List Txt) : Prop := ∃ l : List ByteArray, l.map (·.toList) = ts ∧ ListAt w ll l
theorem IsList.ext {w w' : World} {ll : Nat} {ts : List Txt} (h : IsList w ll ts) (x : Ext w w') : IsList w' ll ts := let ⟨l, h1, h2⟩ := h; ⟨l, h1, h2.ext x⟩
/-- Texts in memory. -/
def IsRows (w : World) (v : Value) (ts : List Txt) : Prop := ∃ l : List ByteArray, l.map (·.toList) = ts ∧ CellsAt w v (l.map Value.string)
theorem IsRows.ext {w w' : World} {v : Value} {ts : List Txt} (h : IsRows w v ts) (x : Ext w w') : IsRows w' v ts := let ⟨l, h1, h2⟩ := h; ⟨l, h1, h2.ext x⟩

theorem parse_ok {v : Value} {fs : List (ByteArray × ByteArray)} {name : ByteArray} {w : World} {ts : List Txt} (hp : parseL (fsL fs) name.toList = .ok ts) (hT : TextsAt w v fs) (hfs : ∀ f ∈ fs, f.1.size ≤ maxLen ∧ f.2.size < 4294967281) (hn : name.size ≤ maxLen) (E : Env w) :
    Calls Tryd.prog 10 #[v, .string name] w fun e w' => ∃ ll, e = .returned (.tuple #[.pointer (some ⟨ll, 0, none⟩), .int .i64 0]) ∧ Hid (IsList w' ll ts) ∧ Ext w w' := by
  refine (igparse_any v fs name w hT hfs hn E).mono ?_
  rintro e w' ⟨hx, hres⟩
  rw [hp] at hres
  obtain ⟨ll, l, rfl, h1, h2⟩ := hres
  exact ⟨ll, rfl, ⟨l, h1, h2⟩, hx⟩
theorem parse_err {v : Value} {fs : List (ByteArray × ByteArray)} {name : ByteArray} {w : World} {k : Nat} (hp : parseL (fsL fs) name.toList = .error k) (hT : TextsAt w v fs) (hfs : ∀ f ∈ fs, f.1.size ≤ maxLen ∧ f.2.size < 4294967281) (hn : name.size ≤ maxLen) (E : Env w) :
    Calls Tryd.prog 10 #[v, .string name] w fun e w' => e = .returned (.tuple #[.pointer none, .int .i64 (k : Nat)]) ∧ k ≠ 0 ∧ Ext w w' := by
  refine (igparse_any v fs name w hT hfs hn E).mono ?_
  rintro e w' ⟨hx, hres⟩
  rw [hp] at hres
  exact ⟨hres.2, hres.1, hx⟩
theorem refParse_ok {v : Value} {fs : List (ByteArray × ByteArray)} {name : ByteArray} {w : World} {ts : List Txt} (hp : parseL (fsL fs) name.toList = .ok ts) (hT : TextsAt w v fs) (hfs : ∀ f ∈ fs, f.2.size ≤ 4096) :
    Calls Tryd.prog 12 #[v, .string name] w fun e w' => ∃ u, e = .returned (.tuple #[u, .int .i64 0]) ∧ Hid (IsRows w' u ts) ∧ Ext w w' := by
  refine (refParse_any v fs name w hT hfs).mono ?_
  rintro e w' ⟨hx, hres⟩
  rw [hp] at hres
  obtain ⟨u, l, rfl, h1, h2⟩ := hres
  exact ⟨u, rfl, ⟨l, h1, h2⟩, hx⟩
theorem refParse_err {v : Value} {fs : List (ByteArray × ByteArray)} {name : ByteArray} {w : World} {k : Nat} (hp : parseL (fsL fs) name.toList = .error k) (hT : TextsAt w v fs) (hfs : ∀ f ∈ fs, f.2.size ≤ 4096) :
    Calls Tryd.prog 12 #[v, .string name] w fun e w' => e = .returned (.tuple #[.slice none 0 0, .int .i64 (k : Nat)]) ∧ Ext w w' := by
  refine (refParse_any v fs name w hT hfs).mono ?_
  rintro e w' ⟨hx, hres⟩
  rw [hp] at hres
  exact ⟨hres.2, hx⟩

theorem match_at {ll : Nat} {ts : List Txt} {s : ByteArray} {w : World} (hs : s.size < 4294967281) (hL : IsList w ll ts) (E : Env w) :
    Calls Tryd.prog 17 #[.pointer (some ⟨ll, 0, none⟩), .string s] w fun e w' => e = .returned (.tuple #[.bool (matchesL ts s).1, .bool (matchesL ts s).2]) ∧ Ext w w' := by
  obtain ⟨l, rfl, h⟩ := hL
  exact ilmatch_any ll l s w hs h E
theorem match_is {ll : Nat} {ts : List Txt} {s : ByteArray} {w : World} {a b : Bool} (hm : matchesL ts s = (a, b)) (hs : s.size < 4294967281) (hL : IsList w ll ts) (E : Env w) :
    Calls Tryd.prog 17 #[.pointer (some ⟨ll, 0, none⟩), .string s] w fun e w' => e = .returned (.tuple #[.bool a, .bool b]) ∧ Ext w w' := by
  have := match_at hs hL E
  rwa [hm] at this
theorem len_at {ll : Nat} {ts : List Txt} {w : World} (hL : IsList w ll ts) (hl : ts.length ≤ 4096) :
    Calls Tryd.prog 14 #[.pointer (some ⟨ll, 0, none⟩)] w fun e w' => e = .returned (.int .i64 (ts.length : Nat)) ∧ Ext w w' := by
  obtain ⟨l, rfl, h⟩ := hL
  rw [List.length_map] at *
  exact illen_any ll l w h hl
theorem lines_at {ll : Nat} {ts : List Txt} {w : World} (hL : IsList w ll ts) (hl : ts.length ≤ 4096) :
    Calls Tryd.prog 16 #[.pointer (some ⟨ll, 0, none⟩)] w fun e w' => ∃ v, e = .returned v ∧ Hid (IsRows w' v ts) ∧ Ext w w' := by
  obtain ⟨l, rfl, h⟩ := hL
  rw [List.length_map] at *
  exact (illines_any ll l w h hl).mono fun e w' ⟨v, h1, h2, h3⟩ => ⟨v, h1, ⟨l, rfl, h2⟩, h3⟩

theorem texts_one {w : World} {a b : ByteArray} {t : TypeId} : TextsAt (w.alloc (.cells #[.string a, .string b] t)) (.slice (some ⟨w.heap.size, 0, none⟩) 1 1) [(a, b)] := by
  refine ⟨some ⟨w.heap.size, 0, none⟩, 1, rfl, by simp, by decide, fun j f hj => ?_⟩
  match j, hj with
  | 0, hj =>
    cases hj
    refine ⟨_, rfl, ?_, ?_⟩ <;> rw [cell_alloc_new (by simp)] <;> rfl
theorem texts_two {w : World} {a b c d : ByteArray} {t : TypeId} : TextsAt (w.alloc (.cells #[.string a, .string b, .string c, .string d] t)) (.slice (some ⟨w.heap.size, 0, none⟩) 2 2) [(a, b), (c, d)] := by
  refine ⟨some ⟨w.heap.size, 0, none⟩, 2, rfl, by simp, by decide, fun j f hj => ?_⟩
  match j, hj with
  | 0, hj =>
    cases hj
    refine ⟨_, rfl, ?_, ?_⟩ <;> rw [cell_alloc_new (by simp)] <;> rfl
  | 1, hj =>
    cases hj
    refine ⟨_, rfl, ?_, ?_⟩ <;> rw [cell_alloc_new (by simp)] <;> rfl

theorem matchesL_list (ts : List Txt) (s : ByteArray) : matchesL ts s = if mayL s.toList then firstL ts s.toList else (false, false) := by rw [matchesL, mayB_list]

def worksT : ByteArray := ⟨#[47, 47, 32, 97, 108, 108, 10, 33, 107, 101, 101, 112, 46, 116, 109, 112, 10, 40, 63, 100, 41, 42, 46, 116, 109, 112]⟩
theorem works_parse : parseL (fsL [(⟨#[105]⟩, worksT)]) (⟨#[105]⟩ : ByteArray).toList = .ok [[33, 107, 101, 101, 112, 46, 116, 109, 112], [40, 63, 100, 41, 42, 46, 116, 109, 112]] := by
  simp only [fsL, List.map_cons, List.map_nil, Lib.toList_data]
  kernel_rfl
theorem works_one : matchesL [[33, 107, 101, 101, 112, 46, 116, 109, 112], [40, 63, 100, 41, 42, 46, 116, 109, 112]] ⟨#[100, 47, 120, 46, 116, 109, 112]⟩ = (true, true) := by
  rw [matchesL_list, Lib.toList_data]
  kernel_rfl
theorem works_two : matchesL [[33, 107, 101, 101, 112, 46, 116, 109, 112], [40, 63, 100, 41, 42, 46, 116, 109, 112]] ⟨#[107, 101, 101, 112, 46, 116, 109, 112]⟩ = (false, false) := by
  rw [matchesL_list, Lib.toList_data]
  kernel_rfl

set_option maxHeartbeats 1000000 in
theorem works_any (w : World) (E : Env w) : Calls Tryd.prog 13 #[] w fun e w' => e = .returned (.bool true) ∧ Ext w w' := by
  have HP := fun t => Lib.hid (parse_ok works_parse (texts_one (w := w) (t := t)) (by intro f hf; rw [List.mem_singleton.1 hf]; decide) (by decide) (E.ext ((Ext.refl w).alloc _)))
  unfold worksT at HP
  go_enter Tryd.func13, Tryd.ntmps13
  go_wp2_with fail
  refine ((HP _).out).mono ?_
  rintro e w1 ⟨ll, rfl, HL, hx⟩
  have X1 := ((Ext.refl w).alloc (.cells #[.string ⟨#[105]⟩, .string worksT] 42 (0, 0))).trans hx
  clear HP hx
  have M1 := Lib.hid (match_is works_one (by decide) HL.out (E.ext X1))
  go_wp2_with fail
  refine (M1.out).mono ?_
  rintro e w2 ⟨rfl, x2⟩
  have X2 := X1.trans x2
  have M2 := Lib.hid (match_is works_two (by decide) (HL.out.ext x2) (E.ext X2))
  clear M1
  go_wp2_with fail
  refine (M2.out).mono ?_
  rintro e w3 ⟨rfl, x3⟩
  have X3 := X2.trans x3
  have M3 := Lib.hid (len_at (HL.out.ext (x2.trans x3)) (by decide))
  clear M2
  go_wp2_with fail
  refine (M3.out).mono ?_
  rintro e w4 ⟨rfl, x4⟩
  clear M3
  go_wp2_with fail
  go_ret
  exact ⟨rfl, X3.trans x4⟩
end Go.Proofs.YtlabhbeacogfbaaDoor
