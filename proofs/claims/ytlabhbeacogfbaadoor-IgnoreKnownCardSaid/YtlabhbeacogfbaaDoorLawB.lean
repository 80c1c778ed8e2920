/- Contracts of caravanlaw08's joined and few. -/
import Derived.Test.YtlabhbeacogfbaaDoorLawA
namespace Go.Proofs.YtlabhbeacogfbaaDoor
open Go.RowKit

def joinL (ts : List Txt) : Txt := ts.flatMap (· ++ [10])
theorem joinL_len (ts : List Txt) (h : ∀ t ∈ ts, t.length ≤ 128) : (joinL ts).length ≤ 129 * ts.length := by
  induction ts with
  | nil => simp [joinL]
  | cons t ts ih =>
    have h1 := ih fun x hx => h x (List.mem_cons_of_mem _ hx)
    have h2 := h t List.mem_cons_self
    have e : joinL (t :: ts) = t ++ [10] ++ joinL ts := by simp [joinL]
    rw [e, List.length_append, List.length_append, List.length_cons]
    simp only [List.length_cons, List.length_nil]
    omega

set_option maxHeartbeats 1000000 in
theorem joined_any (v : Value) (ts : List Txt) (w : World) (hc : IsRows w v ts) (ht : ∀ t ∈ ts, t.length ≤ 128) (hl : ts.length ≤ 64) :
    Calls Tryd.prog 19 #[v] w fun e w' => e = .returned (.string (bsL (joinL ts))) ∧ Ext w w' := by
  obtain ⟨l, rfl, hc⟩ := hc
  obtain ⟨a, cap, rfl, h1, h2, h3⟩ := hc.view
  rw [List.length_map] at hl
  unfold maxLen at h2
  have H3 := Lib.hid h3
  have HT := Lib.hid ht
  clear hc h3 ht
  go_enter Tryd.func19, Tryd.ntmps19
  go_wp2_with fail
  go_loopw [3, 4] (fun sv iv wr => Hid (∃ k : Nat, k ≤ l.length ∧ iv = .int .i64 k ∧ sv = .string (bsL (joinL ((l.take k).map (·.toList)))) ∧ Ext w wr)) (fun _ iv _ => l.length - (intOf iv).toNat)
  case atStart => exact ⟨0, Nat.zero_le _, rfl, rfl, Ext.refl w⟩
  case round =>
    obtain ⟨k, hk, rfl, rfl, hx⟩ := hrel.out
    clear hrel
    have HX := Lib.hid hx
    by_cases hlt : k < l.length
    · obtain ⟨x, ht⟩ : ∃ t, l[k]? = some t := ⟨_, List.getElem?_eq_getElem hlt⟩
      obtain ⟨g, rfl, c1⟩ := H3.out k x ht
      have c2 := (hx.cell (lt_of_cell c1)).trans c1
      have hxs : x.size ≤ 128 := by
        have := HT.out x.toList (List.mem_map_of_mem (List.mem_of_getElem? ht))
        rwa [len_toList] at this
      have hts : (bsL (joinL ((l.take k).map (·.toList)))).size ≤ 8256 := by
        have := joinL_len ((l.take k).map (·.toList)) fun t h => HT.out t (by
          rw [List.map_take] at h
          exact List.mem_of_mem_take h)
        rw [List.length_map, List.length_take] at this
        rw [← len_toList, bsL_toList]
        omega
      have HTK := Lib.hid (show bsL (joinL ((l.take (k + 1)).map (·.toList))) = bsL (joinL ((l.take k).map (·.toList))) ++ x ++ ⟨#[10]⟩ from ba_ext (by
        rw [List.take_add_one, ht]
        rw [toList_append, toList_append, bsL_toList, bsL_toList, joinL, joinL, List.map_append, List.flatMap_append]
        simp [Lib.toList_data]))
      clear c1 hx ht
      generalize bsL (joinL ((l.take k).map (·.toList))) = s at *
      go_wp2_with fail
      go_roundw
      case rel => exact ⟨k + 1, by omega, by go_num, by rw [HTK.out], HX.out⟩
      case measure => simp [intOf] <;> omega
    · obtain rfl : k = l.length := by omega
      have nlt : decide ((l.length : Int) < (l.length : Int)) = false := by simp
      rw [List.take_length]
      clear hx
      go_wp2_with fail
      go_ret
      exact ⟨rfl, HX.out⟩

/-- Files in memory, wherever they begin. -/
def FilesIn (w : World) (v : Value) (fs : List (ByteArray × ByteArray)) : Prop := ∃ a cap, v = .slice a fs.length cap ∧ fs.length ≤ cap ∧ cap ≤ maxLen ∧ ∀ (j : Nat) f, fs[j]? = some f → ∃ g off, a = some ⟨g, off, none⟩ ∧ w.cell? ⟨g, off + j * 2, none⟩ = some (.string f.1) ∧ w.cell? ⟨g, off + j * 2 + 1, none⟩ = some (.string f.2)
theorem FilesIn.ext {w w' : World} {v : Value} {fs : List (ByteArray × ByteArray)} (h : FilesIn w v fs) (k : Ext w w') : FilesIn w' v fs := by
  obtain ⟨a, cap, h1, h2, h3, h4⟩ := h
  refine ⟨a, cap, h1, h2, h3, fun j f hj => ?_⟩
  obtain ⟨g, off, h5, h6, h7⟩ := h4 j f hj
  exact ⟨g, off, h5, (k.cell (lt_of_cell h6)).trans h6, (k.cell (lt_of_cell h7)).trans h7⟩

def cutTo (n : Nat) (s : ByteArray) : ByteArray := s.extract 0 (min s.size n)
theorem cutTo_le (n : Nat) (s : ByteArray) : (cutTo n s).size ≤ n := by unfold cutTo; simp; omega
theorem cutTo_int (n : Nat) (s : ByteArray) : s.extract 0 (min (s.size : Int) (n : Int)).toNat = cutTo n s := by
  unfold cutTo; congr 1; omega
def cutF (f : ByteArray × ByteArray) : ByteArray × ByteArray := (cutTo 40 f.1, cutTo 600 f.2)
def fewF (fs : List (ByteArray × ByteArray)) : List (ByteArray × ByteArray) := (fs.take 6).map cutF
def flatF (fs : List (ByteArray × ByteArray)) : List Value := fs.flatMap fun f => [.string f.1, .string f.2]
theorem flatF_at : ∀ (l : List (ByteArray × ByteArray)) (j : Nat) (x : ByteArray × ByteArray), l[j]? = some x → (flatF l)[2 * j]? = some (.string x.1) ∧ (flatF l)[2 * j + 1]? = some (.string x.2)
  | [], _, _, h => by cases h
  | y :: l, 0, x, h => by cases h; exact ⟨rfl, rfl⟩
  | y :: l, j + 1, x, h => by
    have := flatF_at l j x h
    rw [show 2 * (j + 1) = 2 * j + 1 + 1 from by omega]
    exact this
theorem flatF_len (l : List (ByteArray × ByteArray)) : (flatF l).length = 2 * l.length := by
  induction l with
  | nil => rfl
  | cons f l ih => 
    have : (flatF (f :: l)).length = (flatF l).length + 2 := rfl
    rw [this, ih, List.length_cons]; omega

theorem elT : ElemK Tryd.prog 22 42 (.agg #[.string ByteArray.empty, .string ByteArray.empty]) 2 32 := ⟨by kernel_rfl, by kernel_rfl, rfl, by decide, by decide⟩
theorem onesT (a b : ByteArray) : ∀ u ∈ [Value.string a, Value.string b], u.oneCell' = true := by
  intro u hu
  rcases List.mem_cons.1 hu with rfl | hu
  · rfl
  · obtain rfl := List.mem_singleton.1 hu; rfl
theorem newsT {w : World} {a b : Value} {t : TypeId} {g : Nat} (h : g = w.heap.size) : ∀ (j : Nat) u, [a, b][j]? = some u → (w.alloc (.cells #[a, b] t)).cell? ⟨g, j, none⟩ = some u := by
  intro j u hj
  rw [cell_alloc_new h, ← hj]; simp

theorem TextsAt.of_owns {w : World} {base : Nat} {v : Value} {fs : List (ByteArray × ByteArray)} (h : w.ownsRow base 42 2 v fs.length (flatF fs)) : TextsAt w v fs := by
  rcases h.2 with ⟨h1, h2⟩ | ⟨g, cap, cur, hv, hb, hh, hc, hm, hs, ht⟩
  · obtain rfl : fs = [] := by
      have := List.length_eq_zero_iff.1 h2
      exact this
    exact ⟨none, 0, h1, Nat.le_refl _, by decide, fun j f hj => by simp at hj⟩
  · subst hv
    refine ⟨some ⟨g, 0, none⟩, cap, rfl, hc, hm, fun j f hj => ?_⟩
    have hj' : j < fs.length := (List.getElem?_eq_some_iff.1 hj).1
    obtain ⟨q1, q2⟩ := flatF_at fs j f hj
    exact ⟨g, rfl, by rw [h.cellAt _ (by omega), q1], by rw [h.cellAt _ (by omega), q2]⟩

end Go.Proofs.YtlabhbeacogfbaaDoor
