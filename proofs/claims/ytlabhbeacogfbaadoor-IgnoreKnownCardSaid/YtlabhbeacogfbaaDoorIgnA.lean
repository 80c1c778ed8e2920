/- Contracts of caravanref08's find and Lines. Printed by gen_igna.py. -/
import Derived.Test.YtlabhbeacogfbaaDoorIgnS
namespace Go.Proofs.YtlabhbeacogfbaaDoor
open Go.RowKit

/-- Files in memory. -/
def TextsAt (w : World) (v : Value) (fs : List (ByteArray × ByteArray)) : Prop := ∃ a cap, v = .slice a fs.length cap ∧ fs.length ≤ cap ∧ cap ≤ maxLen ∧ ∀ (j : Nat) f, fs[j]? = some f → ∃ g, a = some ⟨g, 0, none⟩ ∧ w.cell? ⟨g, 2 * j, none⟩ = some (.string f.1) ∧ w.cell? ⟨g, 2 * j + 1, none⟩ = some (.string f.2)
theorem TextsAt.ext {w w' : World} {v : Value} {fs : List (ByteArray × ByteArray)} (h : TextsAt w v fs) (k : Ext w w') : TextsAt w' v fs := by
  obtain ⟨a, cap, h1, h2, h3, h4⟩ := h
  refine ⟨a, cap, h1, h2, h3, fun j f hj => ?_⟩
  obtain ⟨g, h5, h6, h7⟩ := h4 j f hj
  exact ⟨g, h5, (k.cell (lt_of_cell h6)).trans h6, (k.cell (lt_of_cell h7)).trans h7⟩
def fsL (fs : List (ByteArray × ByteArray)) : List (Txt × Txt) := fs.map fun f => (f.1.toList, f.2.toList)
theorem findL_none {fs : List (ByteArray × ByteArray)} {n : Txt} (h : ∀ f ∈ fs, (f.1.toList == n) = false) : findL (fsL fs) n = none := by
  induction fs with
  | nil => rfl
  | cons f fs ih =>
    show (if f.1.toList == n then some f.2.toList else findL (fsL fs) n) = none
    rw [h f List.mem_cons_self]
    exact ih fun g hg => h g (List.mem_cons_of_mem _ hg)
theorem findL_at {fs : List (ByteArray × ByteArray)} {n : Txt} {k : Nat} {f : ByteArray × ByteArray} (hk : fs[k]? = some f) (hf : (f.1.toList == n) = true) (h : ∀ (j : Nat) g, j < k → fs[j]? = some g → (g.1.toList == n) = false) : findL (fsL fs) n = some f.2.toList := by
  induction fs generalizing k with
  | nil => cases hk
  | cons f0 fs ih =>
    show (if f0.1.toList == n then some f0.2.toList else findL (fsL fs) n) = _
    cases k with
    | zero => cases hk; rw [hf]; rfl
    | succ k =>
      rw [h 0 f0 (Nat.succ_pos _) rfl]
      exact ih hk fun j g hj hg => h (j + 1) g (by omega) hg

def findS (o : Option Txt) : ByteArray × Bool := match o with | none => (⟨#[]⟩, false) | some t => (bsL t, true)

set_option maxHeartbeats 1000000 in
theorem find_any (v : Value) (fs : List (ByteArray × ByteArray)) (n : ByteArray) (w : World) (hv : TextsAt w v fs) :
    Calls Tryd.prog 51 #[v, .string n] w fun e w' => e = .returned (.tuple #[.string (findS (findL (fsL fs) n.toList)).1, .bool (findS (findL (fsL fs) n.toList)).2]) ∧ w' = w := by
  obtain ⟨a, cap, rfl, h1, h2, hr⟩ := hv
  unfold maxLen at h2
  have HR := Lib.hid hr
  clear hr
  go_enter Tryd.func51, Tryd.ntmps51
  go_wp2_with fail
  go_loop [6] (fun i => ∃ k : Nat, k ≤ fs.length ∧ i = .int .i64 k ∧ Hid (∀ (j : Nat) g, j < k → fs[j]? = some g → (g.1.toList == n.toList) = false)) (fun i => fs.length - (intOf i).toNat)
  case atStart => exact ⟨0, Nat.zero_le _, rfl, fun j g hj => absurd hj (Nat.not_lt_zero _)⟩
  case round =>
    obtain ⟨k, hk, rfl, H⟩ := hrel
    by_cases hlt : k < fs.length
    · obtain ⟨f, hx⟩ : ∃ f, fs[k]? = some f := ⟨_, List.getElem?_eq_getElem hlt⟩
      obtain ⟨g, rfl, c1, c2⟩ := HR.out k f hx
      have c1' : w.cell? ⟨g, k * 2, none⟩ = some (.string f.1) := by rw [Nat.mul_comm]; exact c1
      have c2' : w.cell? ⟨g, k * 2 + 1, none⟩ = some (.string f.2) := by rw [Nat.mul_comm]; exact c2
      clear c1 c2
      cases hq : (f.1.toList == n.toList) with
      | true =>
        have HF := Lib.hid (findL_at hx hq H.out)
        clear hx
        go_wp2_with fail
        go_ret2
        rw [HF.out]
        exact ⟨ret_strb (ba_ext (by show _ = (bsL _).toList; rw [bsL_toList])), rfl⟩
      | false =>
        have HN := Lib.hid (show ∀ (j : Nat) g, j < k + 1 → fs[j]? = some g → (g.1.toList == n.toList) = false from fun j g' hj hg => by
          rcases Nat.lt_or_ge j k with h | h
          · exact H.out j g' h hg
          · obtain rfl : j = k := by omega
            rw [hx] at hg; cases hg; exact hq)
        clear hx
        go_wp2_with fail
        go_round
        case rel => exact ⟨k + 1, by omega, by go_num, HN.out⟩
        case measure => simp [intOf] <;> omega
    · obtain rfl : k = fs.length := by omega
      have HF := Lib.hid (show findL (fsL fs) n.toList = none from findL_none fun f hf => by
        obtain ⟨j, hj, e⟩ := List.mem_iff_getElem.1 hf
        exact H.out j f hj (by rw [List.getElem?_eq_getElem hj, e]))
      go_wp2_with fail
      go_ret2
      rw [HF.out]
      exact ⟨rfl, rfl⟩

theorem blank_cases {c : UInt8} (h : blankB c = true) : c = 32 ∨ c = 9 := by simpa [blankB] using h
theorem blank_not {c : UInt8} (h : blankB c = false) : ((c.toNat : Int) == 32) = false ∧ ((c.toNat : Int) == 9) = false := by
  have h2 : c ≠ 32 ∧ c ≠ 9 := by simpa [blankB] using h
  exact ⟨toNat_ne h2.1, toNat_ne h2.2⟩
theorem blank_in (c : UInt8) : [(32 : UInt8), 9].contains c = blankB c := by
  simp [blankB, List.contains, List.elem]
  cases (c == 32) <;> cases (c == 9) <;> rfl
theorem extract_get (s : ByteArray) (f k j : Nat) (hk : k ≤ s.size) (b : UInt8) (h : (s.extract f k).toList[j]? = some b) : ∃ h : f + j < s.size, f + j < k ∧ s[f + j] = b := by
  rw [toList_extract, List.getElem?_take] at h
  split at h
  · rename_i hj
    rw [List.getElem?_drop] at h
    have hl : f + j < s.size := by omega
    refine ⟨hl, by omega, ?_⟩
    rw [getElem_toList s (f + j) hl] at h
    exact Option.some.inj h
  · cases h
/-- What the two loops leave is the text without blanks at its ends. -/
theorem trim_at (s : ByteArray) (f a b k : Nat) (hfa : f ≤ a) (hab : a ≤ b) (hbk : b ≤ k) (hk : k ≤ s.size) (h1 : ∀ (j : Nat) (hj : j < s.size), f ≤ j → j < a → blankB s[j] = true)
    (h2 : ∀ (j : Nat) (hj : j < s.size), b ≤ j → j < k → blankB s[j] = true) (h3 : a < k → ∃ h : a < s.size, blankB s[a] = false) (h4 : a < b → ∃ h : b - 1 < s.size, blankB s[b - 1] = false) :
    (s.extract a b).toList = trimT (s.extract f k).toList := by
  have hl : (s.extract f k).toList.length = k - f := by rw [len_toList]; simp; omega
  unfold trimT Lib.trimS
  by_cases e : a < b
  · have hR : Lib.trimRightS (s.extract f k).toList [32, 9] = (s.extract f k).toList.take (b - f) := by
      refine Lib.trimRightS_take _ _ _ (by omega) (fun j c hj hc => ?_) (fun c hp hc => ?_)
      · obtain ⟨g1, g2, g3⟩ := extract_get s f k j hk c hc
        rw [blank_in, ← g3]
        exact h2 _ g1 (by omega) g2
      · obtain ⟨g1, g2, g3⟩ := extract_get s f k _ hk c hc
        rw [blank_in, ← g3]
        obtain ⟨q1, q2⟩ := h4 e
        have : f + (b - f - 1) = b - 1 := by omega
        simp only [this]
        exact q2
    have hL : Lib.trimLeftS ((s.extract f k).toList.take (b - f)) [32, 9] = ((s.extract f k).toList.take (b - f)).drop (a - f) := by
      have get : ∀ (j : Nat) c, ((s.extract f k).toList.take (b - f))[j]? = some c → (s.extract f k).toList[j]? = some c := fun j c hc => by
        rw [List.getElem?_take] at hc
        split at hc
        · exact hc
        · cases hc
      refine Lib.trimLeftS_drop _ _ _ (by rw [List.length_take]; omega) (fun j c hj hc => ?_) (fun c hc => ?_)
      · obtain ⟨g1, g2, g3⟩ := extract_get s f k j hk c (get j c hc)
        rw [blank_in, ← g3]
        exact h1 _ g1 (by omega) (by omega)
      · obtain ⟨g1, g2, g3⟩ := extract_get s f k _ hk c (get _ c hc)
        rw [blank_in, ← g3]
        obtain ⟨q1, q2⟩ := h3 (by omega)
        have : f + (a - f) = a := by omega
        simp only [this]
        exact q2
    rw [hR, hL, toList_extract, toList_extract, List.take_take, Nat.min_eq_left (by omega), List.drop_take, List.drop_drop, show b - f - (a - f) = b - a from by omega, show f + (a - f) = a from by omega]
  · obtain rfl : a = b := by omega
    have hak : a = k := by
      by_cases q : a < k
      · obtain ⟨q1, q2⟩ := h3 q
        rw [h2 a q1 (Nat.le_refl _) q] at q2
        cases q2
      · omega
    have hR : Lib.trimRightS (s.extract f k).toList [32, 9] = (s.extract f k).toList.take 0 := by
      refine Lib.trimRightS_take _ _ _ (by omega) (fun j c hj hc => ?_) (fun c hp hc => absurd hp (Nat.lt_irrefl _))
      obtain ⟨g1, g2, g3⟩ := extract_get s f k j hk c hc
      rw [blank_in, ← g3]
      exact h1 _ g1 (by omega) (by omega)
    rw [hR, toList_extract]
    simp [Lib.trimLeftS]

/-- The list that the loop has built after k bytes. -/
theorem splitNl_step (s : ByteArray) (f k : Nat) (hk : k < s.size) (hf : f ≤ k) :
    (s[k] = 10 → splitNl ((s.toList.drop f).take (k - f)) (s.toList.drop k) = (s.extract f k).toList :: splitNl ((s.toList.drop (k + 1)).take (k + 1 - (k + 1))) (s.toList.drop (k + 1))) ∧
    (s[k] ≠ 10 → splitNl ((s.toList.drop f).take (k - f)) (s.toList.drop k) = splitNl ((s.toList.drop f).take (k + 1 - f)) (s.toList.drop (k + 1))) := by
  have hk' : k < s.toList.length := by rw [len_toList]; exact hk
  have hg : s.toList[k] = s[k] := by
    have := getElem_toList s k hk
    rw [List.getElem?_eq_getElem hk'] at this
    exact Option.some.inj this
  rw [List.drop_eq_getElem_cons hk', hg]
  constructor
  · intro h
    rw [splitNl, if_pos h, toList_extract]
    simp
  · intro h
    rw [splitNl, if_neg h, show k + 1 - f = (k - f) + 1 from by omega, List.take_add_one, List.getElem?_drop, show f + (k - f) = k from by omega, List.getElem?_eq_getElem hk', hg]
    rfl
end Go.Proofs.YtlabhbeacogfbaaDoor
