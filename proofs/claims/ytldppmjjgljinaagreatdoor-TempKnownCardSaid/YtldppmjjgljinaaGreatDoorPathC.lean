/- Contracts of caravan/path: May. What stands between the slashes of a text, as a plain function on lists of bytes; that the library's Split, and the last slash, are told by it. No program in sight. -/
import Derived.Test.YtldppmjjgljinaaGreatDoorPathB
namespace Go.Proofs.YtldppmjjgljinaaGreatDoor
open Go.RowKit

def mayB (s : ByteArray) : Bool := decide (s.size ≤ 160) && decide ((parentS s).size ≤ 111) && (decide ((piecesOf s).length ≤ 6) && (piecesOf s).all (fun x => nameB x.toList))

theorem parentS_le (s : ByteArray) : (parentS s).size ≤ s.size := by
  unfold parentS; simp; omega

theorem piecesOf_len (s : ByteArray) : (piecesOf s).length = Lib.countB s ⟨#[47]⟩ + 1 := Lib.splitB_all _ (by decide) 0 _ s rfl

theorem splitSlash (s : ByteArray) (w : World) (hs : s.size < 4294967281) (E : Env w) :
    Calls Tryz.prog 156 #[.string s, .string ⟨#[47]⟩] w fun e w' =>
      e = .returned (.slice (some ⟨w.heap.size, 0, none⟩) (piecesOf s).length (piecesOf s).length) ∧ w' = w.alloc (.cells ((piecesOf s).map Value.string).toArray 9) := by
  obtain ⟨m, hm⟩ := E.maxlen
  rw [piecesOf_len]
  exact Tryz.strings_Split s ⟨#[47]⟩ m _ hs hm (by decide)

theorem countB_le (s : ByteArray) : Lib.countB s ⟨#[47]⟩ ≤ s.size := Lib.countB_le ⟨#[47]⟩ (by decide) s.size s (Nat.le_refl _)

theorem splitB_sizes (sep : ByteArray) : ∀ (n : Nat) (s : ByteArray) (x : ByteArray), x ∈ Lib.splitB sep 0 n s → x.size ≤ s.size := by
  intro n
  induction n with
  | zero => intro s x h; simp [Lib.splitB] at h; subst h; exact Nat.le_refl _
  | succ n ih =>
    intro s x h
    unfold Lib.splitB at h
    split at h
    · simp at h; subst h; exact Nat.le_refl _
    · rcases List.mem_cons.1 h with h | h
      · subst h; simp; omega
      · have := ih _ _ h; simp at this; omega

theorem piecesOf_sizes (s x : ByteArray) (h : x ∈ piecesOf s) : x.size ≤ s.size := splitB_sizes _ _ _ _ h

set_option maxHeartbeats 800000 in
theorem may_any (s : ByteArray) (w : World) (hs : s.size < 4294967281) (E : Env w) :
    Calls Tryz.prog 92 #[.string s] w fun e w' => e = .returned (.bool (mayB s)) ∧ Ext w w' := by
  have hlb := countB_le s
  have hln := piecesOf_len s
  by_cases h1 : s.size ≤ 160
  · have hp := parentS_le s
    by_cases h2 : (parentS s).size ≤ 111
    · have hfin : mayB s = (decide ((piecesOf s).length ≤ 6) && (piecesOf s).all (fun x => nameB x.toList)) := by simp [mayB, h1, h2]
      have HF := Lib.hid hfin
      clear hfin
      have HS := fun w => Lib.hid (split_any s w (by omega))
      have HSP := fun w E => Lib.hid (splitSlash s w hs E)
      have hsz := piecesOf_sizes s
      generalize hP : parentS s = P at *
      generalize piecesOf s = l at *
      have HP := Lib.hid hP
      clear hP
      have hl6 : l.length ≤ 4294967281 := by omega
      clear hln hlb
      go_enter Tryz.func92, Tryz.ntmps92
      go_wp2_with fail
      refine ((HS w).out).mono ?_
      rintro e w1 ⟨rfl, n, rfl⟩
      go_wp2_with fail
      refine ((HSP _ (E.ext ((Ext.refl w).drewN n))).out).mono ?_
      rintro e w1 ⟨rfl, rfl⟩
      go_wp2_with fail
      generalize hg : decide ((l.length : Int) ≤ 6) = g
      have HG := Lib.hid hg
      clear hg
      go_loopw [9, 31] (fun _ i wr => ∃ k : Nat, k ≤ l.length ∧ i = .int .i64 k ∧ wr = ((w.drewN n).alloc (.cells (l.map Value.string).toArray 9)).alloc (.cells #[.bool (g && (l.take k).all (fun x => nameB x.toList))] 4)) (fun _ i _ => l.length - (intOf i).toNat)
      case atStart => exact ⟨0, Nat.zero_le _, rfl, by simp⟩
      case round =>
        obtain ⟨k, hk, rfl, rfl⟩ := hrel
        generalize hgk : (g && (l.take k).all (fun x => nameB x.toList)) = gk
        have HGK := Lib.hid hgk
        clear hgk
        by_cases hlt : k < l.length
        · obtain ⟨x, hx⟩ : ∃ x, l[k]? = some x := ⟨_, List.getElem?_eq_getElem hlt⟩
          have hcx : ((((w.drewN n).alloc (.cells (l.map Value.string).toArray 9)).alloc (.cells #[.bool gk] 4))).cell? ⟨w.heap.size, k, none⟩ = some (.string x) := by
            rw [cell_alloc_old (by simp), cell_alloc_new (by simp)]; simp [hx]
          have hxs := hsz x (List.mem_of_getElem? hx)
          have HX := Lib.hid hx
          clear hx
          go_wp2_with fail
          refine (mayEach_any x _ gk _ (by unfold maxLen; omega) ?h1 ?h2).mono ?_
          case h1 => rw [cell_alloc_new (by simp)]; rfl
          case h2 => exact frozen_alloc_new (by simp)
          rintro e w1 ⟨rfl, rfl⟩
          go_wp2_with fail
          go_roundw
          case rel => exact ⟨k + 1, by omega, by go_num, by rw [List.take_add_one, HX.out, List.all_append, ← HGK.out]; simp [Bool.and_assoc]⟩
          case measure => simp [intOf]; omega
        · have : k = l.length := by omega
          subst this
          go_wp2_with fail
          go_ret
          exact ⟨ret_bool (by rw [HF.out, ← HGK.out, ← HG.out, List.take_length]; rw [show decide ((l.length : Int) ≤ 6) = decide (l.length ≤ 6) from by rw [decide_eq_decide]; omega]), (((Ext.refl w).drewN n).alloc _).alloc _⟩
    · have hf : mayB s = false := by simp [mayB, h2]
      have HF := Lib.hid hf
      clear hf
      have HS := fun w => Lib.hid (split_any s w (by omega))
      generalize parentS s = P at *
      go_enter Tryz.func92, Tryz.ntmps92
      go_wp2_with fail
      refine ((HS w).out).mono ?_
      rintro e w1 ⟨rfl, n, rfl⟩
      go_wp2_with fail
      go_ret
      exact ⟨ret_bool HF.out.symm, (Ext.refl w).drewN n⟩
  · have hf : mayB s = false := by simp [mayB, h1]
    have HF := Lib.hid hf
    clear hf
    have HS := fun w => Lib.hid (split_any s w (by omega))
    generalize parentS s = P at *
    go_enter Tryz.func92, Tryz.ntmps92
    go_wp2_with fail
    refine ((HS w).out).mono ?_
    rintro e w1 ⟨rfl, n, rfl⟩
    go_wp2_with fail
    go_ret
    exact ⟨ret_bool HF.out.symm, (Ext.refl w).drewN n⟩
end Go.Proofs.YtldppmjjgljinaaGreatDoor

namespace Go.Proofs.YtldppmjjgljinaaGreatDoor

def splitAux (cur : List UInt8) : List UInt8 → List (List UInt8)
  | [] => [cur]
  | c :: cs => if c = 47 then cur :: splitAux [] cs else splitAux (cur ++ [c]) cs
def piecesL (l : List UInt8) : List (List UInt8) := splitAux [] l

theorem splitAux_ne : ∀ (l cur : List UInt8), splitAux cur l ≠ []
  | [], _ => by simp [splitAux]
  | c :: cs, cur => by
    unfold splitAux
    split
    · simp
    · exact splitAux_ne cs _
theorem splitAux_no : ∀ (l cur : List UInt8), 47 ∉ l → splitAux cur l = [cur ++ l]
  | [], cur, _ => by simp [splitAux]
  | c :: cs, cur, h => by
    have hc : ¬ c = 47 := fun e => h (by simp [e])
    unfold splitAux
    rw [if_neg hc, splitAux_no cs _ (fun hm => h (by simp [hm]))]
    simp
theorem splitAux_at : ∀ (a cur b : List UInt8), splitAux cur (a ++ 47 :: b) = splitAux cur a ++ splitAux [] b
  | [], cur, b => by simp [splitAux]
  | c :: cs, cur, b => by
    show splitAux cur (c :: (cs ++ 47 :: b)) = _
    by_cases hc : c = 47
    · have e1 : splitAux cur (c :: (cs ++ 47 :: b)) = cur :: splitAux [] (cs ++ 47 :: b) := by rw [splitAux, if_pos hc]
      have e2 : splitAux cur (c :: cs) = cur :: splitAux [] cs := by rw [splitAux, if_pos hc]
      rw [e1, e2, splitAux_at cs [] b]; rfl
    · have e1 : splitAux cur (c :: (cs ++ 47 :: b)) = splitAux (cur ++ [c]) (cs ++ 47 :: b) := by rw [splitAux, if_neg hc]
      have e2 : splitAux cur (c :: cs) = splitAux (cur ++ [c]) cs := by rw [splitAux, if_neg hc]
      rw [e1, e2, splitAux_at cs _ b]

/-- With a slash at i, the first one. -/
theorem index_slash : ∀ (l : List UInt8), (Lib.index l [47] = -1 ∧ 47 ∉ l) ∨ (∃ a b, l = a ++ 47 :: b ∧ 47 ∉ a ∧ Lib.index l [47] = a.length)
  | [] => .inl ⟨rfl, by simp⟩
  | c :: cs => by
    by_cases hc : c = 47
    · subst hc
      exact .inr ⟨[], cs, rfl, by simp, by simp [Lib.index, List.isPrefixOf]⟩
    · have hp : List.isPrefixOf [47] (c :: cs) = false := by
        simp only [List.isPrefixOf, Bool.and_eq_false_iff, beq_eq_false_iff_ne]
        exact .inl (fun e => hc e.symm)
      have e : Lib.index (c :: cs) [47] = if Lib.index cs [47] == -1 then -1 else Lib.index cs [47] + 1 := by
        rw [Lib.index, if_neg (by rw [hp]; simp)]
      rcases index_slash cs with ⟨h1, h2⟩ | ⟨a, b, h1, h2, h3⟩
      · refine .inl ⟨by rw [e, h1]; rfl, ?_⟩
        intro hm
        rcases List.mem_cons.1 hm with h | h
        · exact hc h.symm
        · exact h2 h
      · refine .inr ⟨c :: a, b, by rw [h1]; rfl, ?_, ?_⟩
        · intro hm
          rcases List.mem_cons.1 hm with h | h
          · exact hc h.symm
          · exact h2 h
        · rw [e, h3, if_neg (by rw [beq_iff_eq]; omega)]
          simp

theorem splitK_pieces : ∀ (k : Nat) (l : List UInt8), l.count 47 ≤ k → Lib.splitK [47] 0 k l = piecesL l
  | 0, l, h => by
    have : 47 ∉ l := List.count_eq_zero.1 (by omega)
    unfold piecesL
    rw [splitAux_no l [] this]; rfl
  | k + 1, l, h => by
    unfold Lib.splitK
    rcases index_slash l with ⟨h1, h2⟩ | ⟨a, b, h1, h2, h3⟩
    · rw [h1, if_pos (by rfl)]
      unfold piecesL
      rw [splitAux_no l [] h2]; rfl
    · rw [h3, if_neg (by rw [beq_iff_eq]; omega)]
      have e1 : (l.take (((a.length : Nat) : Int).toNat + 0)) = a := by rw [h1]; simp
      have e2 : (l.drop (((a.length : Nat) : Int).toNat + [(47 : UInt8)].length)) = b := by
        rw [h1]; simp
      rw [e1, e2]
      have hc : b.count 47 ≤ k := by
        rw [h1, List.count_append, List.count_cons_self] at h
        omega
      rw [splitK_pieces k b hc, h1]
      unfold piecesL
      rw [splitAux_at, splitAux_no a [] h2]; rfl

theorem piecesOf_toList (s : ByteArray) : (piecesOf s).map (·.toList) = piecesL s.toList := by
  have h := Lib.splitB_data ⟨#[47]⟩ 0 (Lib.countB s ⟨#[47]⟩) s
  have e : Lib.countB s ⟨#[47]⟩ = s.data.toList.count 47 := Lib.count_one 47 _
  unfold piecesOf
  rw [show (fun x : ByteArray => x.toList) = fun x => x.data.toList from funext Lib.toList_data, h, Lib.toList_data]
  exact splitK_pieces _ _ (by rw [e]; exact Nat.le_refl _)

theorem piecesL_ne (l : List UInt8) : piecesL l ≠ [] := splitAux_ne _ _
/-- the last piece -/
def baseL (l : List UInt8) : List UInt8 := (piecesL l).getLast (piecesL_ne l)
/-- what stands ahead of the last slash -/
def aheadL (l : List UInt8) : List UInt8 := l.take (l.length - (baseL l).length - 1)

theorem baseL_no {l : List UInt8} (h : 47 ∉ l) : baseL l = l := by
  unfold baseL piecesL
  simp only [splitAux_no l [] h]
  rfl
theorem baseL_at (a b : List UInt8) (h : 47 ∉ b) : baseL (a ++ 47 :: b) = b := by
  unfold baseL piecesL
  simp only [splitAux_at, splitAux_no b [] h]
  simp
theorem aheadL_no {l : List UInt8} (h : 47 ∉ l) : aheadL l = [] := by
  unfold aheadL; rw [baseL_no h]; simp
theorem aheadL_at (a b : List UInt8) (h : 47 ∉ b) : aheadL (a ++ 47 :: b) = a := by
  unfold aheadL; rw [baseL_at a b h]
  have : (a ++ 47 :: b).length - b.length - 1 = a.length := by simp; omega
  rw [this]; simp

/-- The last slash parts a text, or there is none. -/
theorem last_slash (l : List UInt8) : 47 ∉ l ∨ ∃ a b, l = a ++ 47 :: b ∧ 47 ∉ b := by
  induction l with
  | nil => exact .inl (by simp)
  | cons c cs ih =>
    rcases ih with h | ⟨a, b, h1, h2⟩
    · by_cases hc : c = 47
      · exact .inr ⟨[], cs, by rw [hc]; rfl, h⟩
      · refine .inl fun hm => ?_
        rcases List.mem_cons.1 hm with h' | h'
        · exact hc h'.symm
        · exact h h'
    · exact .inr ⟨c :: a, b, by rw [h1]; rfl, h2⟩

theorem lastIndexByte_no {s : ByteArray} {c : UInt8} (h : c ∉ s.toList) : Lib.lastIndexByte s c.toNat = -1 := by
  rcases Lib.lastIdx_spec s c.toNat s.size with ⟨h1, _⟩ | ⟨i, hi, h1, h2, _⟩
  · exact h1
  · exfalso
    rw [getElem!_pos s.data i (by simpa using hi)] at h2
    have e : s.data[i] = c := UInt8.toNat_inj.1 (by omega)
    apply h
    rw [Lib.toList_data, ← e]
    exact Array.getElem_mem_toList _
theorem lastIndexByte_at {s : ByteArray} {c : UInt8} {a b : List UInt8} (h : s.toList = a ++ c :: b) (hb : c ∉ b) : Lib.lastIndexByte s c.toNat = a.length := by
  have hsz : s.size = a.length + (b.length + 1) := by rw [← len_toList, h]; simp
  have hk : ∀ k (hk : k < s.size), (s.data[k]'(by simpa using hk)) = (a ++ c :: b)[k]'(by rw [← h, len_toList]; exact hk) := by
    intro k hk
    have : s.data.toList = a ++ c :: b := by rw [← Lib.toList_data]; exact h
    simp only [← this]; rfl
  rcases Lib.lastIdx_spec s c.toNat s.size with ⟨_, h2⟩ | ⟨i, hi, h1, h2, h3⟩
  · exfalso
    have := h2 a.length (by omega)
    rw [getElem!_pos s.data a.length (by show _ < s.size; omega), hk a.length (by omega)] at this
    apply this
    simp
  · have e : Lib.lastIndexByte s c.toNat = i := h1
    rw [e]
    rcases Nat.lt_trichotomy i a.length with hlt | heq | hgt
    · exfalso
      have := h3 a.length hlt (by omega)
      rw [getElem!_pos s.data a.length (by show _ < s.size; omega), hk a.length (by omega)] at this
      apply this
      simp
    · omega
    · exfalso
      rw [getElem!_pos s.data i (by simpa using hi), hk i hi] at h2
      have e2 : (a ++ c :: b)[i]'(by rw [← h, len_toList]; exact hi) = c := UInt8.toNat_inj.1 (by omega)
      rw [List.getElem_append_right (by omega)] at e2
      obtain ⟨t, ht⟩ : ∃ t, i - a.length = t + 1 := ⟨i - a.length - 1, by omega⟩
      simp only [ht, List.getElem_cons_succ] at e2
      exact hb (by rw [← e2]; exact List.getElem_mem _)

theorem split_toList (s : ByteArray) : (parentS s).toList = aheadL s.toList ∧ (baseS s).toList = baseL s.toList := by
  unfold parentS baseS
  rcases last_slash s.toList with h | ⟨a, b, h, hb⟩
  · have e := lastIndexByte_no (c := 47) h
    have e' : Lib.lastIndexByte s 47 = -1 := e
    rw [e', aheadL_no h, baseL_no h, toList_extract, toList_extract]
    simp [← len_toList]
    exact .inl (by decide)
  · have e := lastIndexByte_at (c := 47) h hb
    have e' : Lib.lastIndexByte s 47 = a.length := e
    rw [e', h, aheadL_at a b hb, baseL_at a b hb, toList_extract, toList_extract, h]
    have hsz : s.size = a.length + (b.length + 1) := by rw [← len_toList, h]; simp
    rw [hsz]
    constructor
    · have : (max (a.length : Int) 0).toNat = a.length := by omega
      rw [this]; simp
    · have : ((a.length : Int) + 1).toNat = a.length + 1 := by omega
      rw [this]
      simp only [List.drop_append]
      rw [List.drop_of_length_le (by omega), show a.length + 1 - a.length = 1 from by omega]
      simp
      rw [List.take_of_length_le (by omega)]

def mayL (l : List UInt8) : Bool := decide (l.length ≤ 160) && decide ((aheadL l).length ≤ 111) && (decide ((piecesL l).length ≤ 6) && (piecesL l).all nameB)
theorem mayB_list (s : ByteArray) : mayB s = mayL s.toList := by
  unfold mayB mayL
  have h1 := (split_toList s).1
  rw [← piecesOf_toList s, ← h1, len_toList, len_toList, List.length_map, List.all_map]
  rfl
end Go.Proofs.YtldppmjjgljinaaGreatDoor
