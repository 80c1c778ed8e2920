/- Temp and conflict names of a path are paths of the same parent, and are told for what they are. No program in sight. -/
import Derived.Test.YtgojagdjlebnnaaDoorPathT
import Derived.Test.YtgojagdjlebnnaaDoorPathU
import Derived.Test.YtgojagdjlebnnaaDoorLostL
import Derived.Test.YtgojagdjlebnnaaDoorBackL
namespace Go.Proofs.YtgojagdjlebnnaaDoor

theorem mayB_size {s : ByteArray} (h : mayB s = true) : s.size ≤ 160 := by
  unfold mayB at h; simp at h; exact h.1.1
theorem ok_not_slash {l : List UInt8} (h : l.all okByte = true) : 47 ∉ l := fun hm => by
  have := List.all_eq_true.1 h _ hm
  simp [okByte] at this
theorem nameB_ok {l : List UInt8} (h : nameB l = true) : l.all okByte = true := by
  simp only [nameB, Bool.and_eq_true] at h; exact h.2
theorem nameB_lens {l : List UInt8} (h : nameB l = true) : 1 ≤ l.length ∧ l.length ≤ 48 := by
  simp only [nameB, Bool.and_eq_true, decide_eq_true_eq] at h; exact ⟨h.1.1.1.1, h.1.1.1.2⟩
theorem nameB_mk {l : List UInt8} (h : l.all okByte = true) (h1 : 3 ≤ l.length) (h2 : l.length ≤ 48) : nameB l = true := by
  simp only [nameB, Bool.and_eq_true, decide_eq_true_eq, h, Bool.not_eq_true', and_true]
  refine ⟨⟨⟨by omega, h2⟩, ?_⟩, ?_⟩ <;> rw [beq_eq_false_iff_ne] <;> intro e <;> rw [e] at h1 <;> simp at h1

/-- A name in the parent of a path. -/
theorem beside_part (p q : ByteArray) (h : mayB p = true) (hq : nameB q.toList = true) :
    mayB (besideS (parentS p) q) = true ∧ parentS (besideS (parentS p) q) = parentS p ∧ baseS (besideS (parentS p) q) = q := by
  have hp := may_parts (by rw [← mayB_list]; exact h)
  have hn := ok_not_slash (nameB_ok hq)
  have hlen := nameB_lens hq
  have hsp := split_toList p
  have hb := besideS_toList (parentS p) q
  have hs2 := split_toList (besideS (parentS p) q)
  rcases last_slash p.toList with hno | ⟨a, b, hl, hbn⟩
  · rw [aheadL_no hno] at hsp
    rw [hsp.1] at hb
    have hb' : (besideS (parentS p) q).toList = q.toList := by rw [hb]; rfl
    rw [hb', aheadL_no hn, baseL_no hn] at hs2
    refine ⟨?_, ba_ext (by rw [hs2.1, hsp.1]), ba_ext hs2.2⟩
    rw [mayB_list, hb']
    have hpc : piecesL q.toList = [q.toList] := by unfold piecesL; rw [splitAux_no _ _ hn]; rfl
    refine may_of (by omega) (by rw [aheadL_no hn]; simp) (by rw [hpc]; simp) (by rw [hpc]; intro x hx; rw [List.mem_singleton.1 hx]; exact hq)
  · have e1 : aheadL p.toList = a := by rw [hl]; exact aheadL_at a b hbn
    have e3 : piecesL p.toList = piecesL a ++ [b] := by
      rw [hl]; unfold piecesL; rw [splitAux_at, splitAux_no b [] hbn]; rfl
    rw [e1] at hsp
    rw [e1, e3] at hp
    obtain ⟨h160, h111, h6, hall⟩ := hp
    have hne : a ≠ [] := fun e => by
      subst e
      have := hall [] (by simp [piecesL, splitAux])
      rw [nameB_nil] at this; cases this
    have hb' : (besideS (parentS p) q).toList = a ++ 47 :: q.toList := by
      rw [hb, hsp.1, if_neg (by simpa using hne)]; simp
    rw [hb', aheadL_at a _ hn, baseL_at a _ hn] at hs2
    refine ⟨?_, ba_ext (by rw [hs2.1, hsp.1]), ba_ext hs2.2⟩
    rw [mayB_list, hb']
    have e4 : piecesL (a ++ 47 :: q.toList) = piecesL a ++ [q.toList] := by
      unfold piecesL; rw [splitAux_at, splitAux_no _ [] hn]; rfl
    refine may_of (by simp; omega) (by rw [aheadL_at a _ hn]; exact h111) (by rw [e4]; rw [List.length_append] at h6 ⊢; exact h6) ?_
    rw [e4]
    intro x hx
    rcases List.mem_append.1 hx with hx | hx
    · exact hall x (by simp [hx])
    · rw [List.mem_singleton.1 hx]; exact hq

theorem hexD_ok (n : Nat) (h : n < 16) : okByte (hexD n) = true := by
  have : n = 0 ∨ n = 1 ∨ n = 2 ∨ n = 3 ∨ n = 4 ∨ n = 5 ∨ n = 6 ∨ n = 7 ∨ n = 8 ∨ n = 9 ∨ n = 10 ∨ n = 11 ∨ n = 12 ∨ n = 13 ∨ n = 14 ∨ n = 15 := by omega
  rcases this with rfl | rfl | rfl | rfl | rfl | rfl | rfl | rfl | rfl | rfl | rfl | rfl | rfl | rfl | rfl | rfl <;> decide
theorem hexL_ok (l : List UInt8) : (hexL l).all okByte = true := by
  rw [List.all_eq_true]
  intro c hc
  unfold hexL at hc
  simp only [List.mem_flatten, List.mem_map] at hc
  obtain ⟨u, ⟨x, _, rfl⟩, hc⟩ := hc
  have hx := x.toNat_lt
  simp only [List.mem_cons, List.not_mem_nil, or_false] at hc
  rcases hc with rfl | rfl <;> exact hexD_ok _ (by omega)
theorem all_take {l : List UInt8} {f : UInt8 → Bool} (h : l.all f = true) (n : Nat) : (l.take n).all f = true :=
  List.all_eq_true.2 fun x hx => List.all_eq_true.1 h x (List.mem_of_mem_take hx)
theorem all_drop {l : List UInt8} {f : UInt8 → Bool} (h : l.all f = true) (n : Nat) : (l.drop n).all f = true :=
  List.all_eq_true.2 fun x hx => List.all_eq_true.1 h x (List.mem_of_mem_drop hx)
theorem hex8_toList (p : ByteArray) : (hex8 p).toList = (hexL (shaL p.toList)).take 8 := by
  unfold hex8
  rw [toList_extract, toList_mk]; rfl

def tempPart (p : ByteArray) : ByteArray := ⟨#[126, 116, 126]⟩ ++ (baseS p).extract 0 (min ((baseS p).size : Int) 12).toNat ++ hex8 p
theorem tempPart_toList (p : ByteArray) : (tempPart p).toList = [126, 116, 126] ++ ((baseS p).toList.take (min ((baseS p).size : Int) 12).toNat ++ (hexL (shaL p.toList)).take 8) := by
  unfold tempPart
  rw [toList_append, toList_append, hex8_toList, toList_extract, show (⟨#[126, 116, 126]⟩ : ByteArray).toList = [126, 116, 126] from toList_mk _]
  simp
theorem tempPart_len (p : ByteArray) : 3 ≤ (tempPart p).toList.length ∧ (tempPart p).toList.length ≤ 23 := by
  rw [tempPart_toList]
  simp only [List.length_append, List.length_take, hexL_len, shaL_len, len_toList, List.length_cons, List.length_nil]
  omega
theorem tempPart_name (p : ByteArray) (h : mayB p = true) : nameB (tempPart p).toList = true := by
  have hl := tempPart_len p
  refine nameB_mk ?_ hl.1 (by omega)
  rw [tempPart_toList, List.all_append, List.all_append, all_take (nameB_ok (back_base p h)), all_take (hexL_ok _)]
  decide
theorem fits_temp (p : ByteArray) (h : mayB p = true) :
    mayB (tempS p) = true ∧ parentS (tempS p) = parentS p ∧ isTempB (tempS p) = true ∧ (baseS (tempS p)).size ≤ 23 := by
  obtain ⟨h1, h2, h3⟩ := beside_part p (tempPart p) h (tempPart_name p h)
  rw [show besideS (parentS p) (tempPart p) = tempS p from rfl] at h1 h2 h3
  refine ⟨h1, h2, ?_, ?_⟩
  · unfold isTempB
    rw [h3, tempPart_toList]
    exact (hasPrefix_iff _ _).2 ⟨_, rfl⟩
  · rw [h3, ← len_toList]; exact (tempPart_len p).2

theorem fixed_dig : ∀ (d n : Nat), (fixed n d).all isDig = true
  | 0, _ => rfl
  | d + 1, n => by
    unfold fixed
    rw [List.all_append, fixed_dig d (n / 10)]
    have : n % 10 = 0 ∨ n % 10 = 1 ∨ n % 10 = 2 ∨ n % 10 = 3 ∨ n % 10 = 4 ∨ n % 10 = 5 ∨ n % 10 = 6 ∨ n % 10 = 7 ∨ n % 10 = 8 ∨ n % 10 = 9 := by omega
    rcases this with e | e | e | e | e | e | e | e | e | e <;> rw [e] <;> decide
theorem dig_ok {c : UInt8} (h : isDig c = true) : okByte c = true := by
  simp only [isDig, Bool.not_eq_true', Bool.or_eq_false_iff, decide_eq_false_iff_not] at h
  simp only [okByte, Bool.not_eq_true', Bool.or_eq_false_iff, decide_eq_false_iff_not, beq_eq_false_iff_ne]
  omega
theorem fixed_ok (d n : Nat) : (fixed n d).all okByte = true :=
  List.all_eq_true.2 fun x hx => dig_ok (List.all_eq_true.1 (fixed_dig d n) x hx)
theorem conf_at : ∀ (a u : List UInt8), u ≠ [] → confAt u = true → confL (a ++ u) = true
  | [], c :: u, _, h => by show (confAt (c :: u) || confL u) = true; rw [h]; rfl
  | c :: a, u, hu, h => by
    show (confAt (c :: (a ++ u)) || confL (a ++ u)) = true
    rw [conf_at a u hu h, Bool.or_true]
def confPart (p : ByteArray) (t d : Int) : ByteArray := stemS (baseS p) ++ markS ++ padS t 10 ++ ⟨#[45]⟩ ++ padS d 2 ++ extS (baseS p)
theorem confPart_toList (p : ByteArray) (t d : Int) (t0 : 0 ≤ t) (t1 : t ≤ 4294967295) (d0 : 0 ≤ d) (d1 : d ≤ 16) :
    (confPart p t d).toList = (stemS (baseS p)).toList ++ (markL ++ (fixed t.toNat 10 ++ ([45] ++ (fixed d.toNat 2 ++ (extS (baseS p)).toList)))) := by
  unfold confPart
  simp only [toList_append, toList_mk]
  rw [padS_toList t 10 t0 (by decide) (by show _ < 10000000000; omega), padS_toList d 2 d0 (by decide) (by show _ < 100; omega), show markS.toList = markL from toList_mk _]
  simp only [List.append_assoc]
theorem stem_ok (b : ByteArray) (h : b.toList.all okByte = true) : (stemS b).toList.all okByte = true ∧ (extS b).toList.all okByte = true ∧ (stemS b).toList.length + (extS b).toList.length ≤ 20 ∧ (extS b).toList.length ≤ 8 := by
  have he := extS_le b
  refine ⟨?_, ?_, ?_, by rw [len_toList]; exact he.1⟩
  · unfold stemS
    simp only [toList_extract]
    exact all_take (all_drop (all_take (all_drop h _) _) _) _
  · unfold extS
    split
    · rw [toList_extract]; exact all_take (all_drop h _) _
    · simp [Lib.toList_data]
  · rw [len_toList, len_toList]
    unfold stemS
    simp only [ByteArray.size_extract]
    omega
theorem confPart_name (p : ByteArray) (t d : Int) (h : mayB p = true) (t0 : 0 ≤ t) (t1 : t ≤ 4294967295) (d0 : 0 ≤ d) (d1 : d ≤ 16) : nameB (confPart p t d).toList = true := by
  have hs := stem_ok (baseS p) (nameB_ok (back_base p h))
  rw [confPart_toList p t d t0 t1 d0 d1]
  refine nameB_mk ?_ ?_ ?_
  · simp only [List.all_append, hs.1, hs.2.1, fixed_ok]
    decide
  · simp only [List.length_append, fixed_length, List.length_cons, List.length_nil]; omega
  · have hm : markL.length = 15 := rfl
    simp only [List.length_append, fixed_length, List.length_cons, List.length_nil, hm]; omega
theorem conf_told (t d : Nat) (e : List UInt8) : confAt (markL ++ (fixed t 10 ++ ([45] ++ (fixed d 2 ++ e)))) = true := by
  unfold confAt okTail digB
  have h1 : markL.isPrefixOf (markL ++ (fixed t 10 ++ ([45] ++ (fixed d 2 ++ e)))) = true := List.isPrefixOf_iff_prefix.2 ⟨_, rfl⟩
  have h2 : (markL ++ (fixed t 10 ++ ([45] ++ (fixed d 2 ++ e)))).drop 15 = fixed t 10 ++ ([45] ++ (fixed d 2 ++ e)) := by
    rw [show (15 : Nat) = markL.length from rfl, List.drop_left']; rfl
  rw [h1, h2]
  have h3 : (fixed t 10 ++ ([45] ++ (fixed d 2 ++ e))).take 10 = fixed t 10 := by rw [List.take_left' (fixed_length 10 t)]
  have h4 : (fixed t 10 ++ ([45] ++ (fixed d 2 ++ e))).drop 10 = [45] ++ (fixed d 2 ++ e) := by rw [List.drop_left' (fixed_length 10 t)]
  have h5 : (fixed t 10 ++ ([45] ++ (fixed d 2 ++ e))).drop 11 = fixed d 2 ++ e := by
    rw [show (11 : Nat) = 10 + 1 from rfl, ← List.drop_drop, h4]; rfl
  rw [h3, h4, h5, List.take_left' (fixed_length 2 d), fixed_dig, fixed_dig, show Lib.hasPrefix ([45] ++ (fixed d 2 ++ e)) [45] = true from (hasPrefix_iff _ _).2 ⟨_, rfl⟩]
  simp [fixed_length]
theorem fits_conf (p : ByteArray) (t d : Int) (h : mayB p = true) (t0 : 0 ≤ t) (t1 : t ≤ 4294967295) (d0 : 0 ≤ d) (d1 : d ≤ 16) :
    mayB (conflictS p t d) = true ∧ parentS (conflictS p t d) = parentS p ∧ confL (baseS (conflictS p t d)).toList = true := by
  obtain ⟨h1, h2, h3⟩ := beside_part p (confPart p t d) h (confPart_name p t d h t0 t1 d0 d1)
  rw [show besideS (parentS p) (confPart p t d) = conflictS p t d from rfl] at h1 h2 h3
  refine ⟨h1, h2, ?_⟩
  rw [h3, confPart_toList p t d t0 t1 d0 d1]
  exact conf_at _ _ (by simp [markL]) (conf_told _ _ _)
end Go.Proofs.YtgojagdjlebnnaaDoor
