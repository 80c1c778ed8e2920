/- Temp names are names. No program in sight. The disk on which caravanlaw23's statements play, in plain words: a directory f1, a draft's file in it. No program in sight. Drafts among disks in one memory: what the laws ask of them. caravanlaw23's times, wanted, given, made, text: contracts. caravanlaw23's given, awake: contracts. What caravanlaw23's laws ask of bytes that are handed in. -/
import Derived.Test.YtldppmjjgljinaaGreatDoorPathT
import Derived.Test.YtldppmjjgljinaaGreatDoorTreeE
import Derived.Test.YtldppmjjgljinaaGreatDoorTempH
import Derived.Test.YtldppmjjgljinaaGreatDoorActP
import Derived.Test.YtldppmjjgljinaaGreatDoorDiskI
import Derived.Test.YtldppmjjgljinaaGreatDoorTempK
import Derived.Test.YtldppmjjgljinaaGreatDoorLawDkD
import Derived.Test.YtldppmjjgljinaaGreatDoorActD
import Derived.KernelRfl
namespace Go.Proofs.YtldppmjjgljinaaGreatDoor

theorem may_parts {l : List UInt8} (h : mayL l = true) : l.length ≤ 160 ∧ (aheadL l).length ≤ 111 ∧ (piecesL l).length ≤ 6 ∧ ∀ x ∈ piecesL l, nameB x = true := by
  unfold mayL at h
  simp only [Bool.and_eq_true, decide_eq_true_eq, List.all_eq_true] at h
  exact ⟨h.1.1, h.1.2, h.2.1, h.2.2⟩
theorem may_of {l : List UInt8} (h1 : l.length ≤ 160) (h2 : (aheadL l).length ≤ 111) (h3 : (piecesL l).length ≤ 6) (h4 : ∀ x ∈ piecesL l, nameB x = true) : mayL l = true := by
  unfold mayL
  simp only [Bool.and_eq_true, decide_eq_true_eq, List.all_eq_true]
  exact ⟨⟨h1, h2⟩, h3, h4⟩
theorem back_base (s : ByteArray) (h : mayB s = true) : nameB (baseS s).toList = true := by
  rw [(split_toList s).2]
  exact (may_parts (by rw [← mayB_list]; exact h)).2.2.2 _ (List.getLast_mem _)
theorem nameB_nil : nameB [] = false := rfl
theorem besideS_toList (p b : ByteArray) : (besideS p b).toList = (if p.toList.isEmpty then [] else p.toList ++ [47]) ++ b.toList := by
  unfold besideS
  split
  · simp
  · simp [toList_append]
theorem ok_not_slash {l : List UInt8} (h : l.all okByte = true) : 47 ∉ l := fun hm => by
  have := List.all_eq_true.1 h _ hm
  simp [okByte] at this
theorem nameB_ok {l : List UInt8} (h : nameB l = true) : l.all okByte = true := by
  simp only [nameB, Bool.and_eq_true] at h; exact h.2
theorem nameB_lens {l : List UInt8} (h : nameB l = true) : 1 ≤ l.length ∧ l.length ≤ 48 := by
  simp only [nameB, Bool.and_eq_true, decide_eq_true_eq] at h; exact ⟨h.1.1.1.1, h.1.1.1.2⟩
theorem nameB_mk {l : List UInt8} (h : l.all okByte = true) (h1 : 3 ≤ l.length) (h2 : l.length ≤ 48) : nameB l = true := by
  simp only [nameB, Bool.and_eq_true, decide_eq_true_eq, h, Bool.not_eq_true', and_true]
  refine ⟨⟨⟨by omega, h2⟩, ?_⟩, ?_⟩ <;> rw [beq_eq_false_iff_ne] <;> intro e <;> rw [e] at h1 <;> simp at h1
theorem beside_part (p q : ByteArray) (h : mayB p = true) (hq : nameB q.toList = true) :
    mayB (besideS (parentS p) q) = true ∧ parentS (besideS (parentS p) q) = parentS p ∧ baseS (besideS (parentS p) q) = q := by
  have hp := may_parts (by rw [← mayB_list]; exact h)
  have hn := ok_not_slash (nameB_ok hq)
  have hlen := nameB_lens hq
  have hsp := split_toList p
  have hb := besideS_toList (parentS p) q
  have hs2 := split_toList (besideS (parentS p) q)
  rcases last_slash p.toList with hno | ⟨a, b, hl, hbn⟩
  · rw [aheadL_no hno] at hsp
    rw [hsp.1] at hb
    have hb' : (besideS (parentS p) q).toList = q.toList := by rw [hb]; rfl
    rw [hb', aheadL_no hn, baseL_no hn] at hs2
    refine ⟨?_, ba_ext (by rw [hs2.1, hsp.1]), ba_ext hs2.2⟩
    rw [mayB_list, hb']
    have hpc : piecesL q.toList = [q.toList] := by unfold piecesL; rw [splitAux_no _ _ hn]; rfl
    refine may_of (by omega) (by rw [aheadL_no hn]; simp) (by rw [hpc]; simp) (by rw [hpc]; intro x hx; rw [List.mem_singleton.1 hx]; exact hq)
  · have e1 : aheadL p.toList = a := by rw [hl]; exact aheadL_at a b hbn
    have e3 : piecesL p.toList = piecesL a ++ [b] := by
      rw [hl]; unfold piecesL; rw [splitAux_at, splitAux_no b [] hbn]; rfl
    rw [e1] at hsp
    rw [e1, e3] at hp
    obtain ⟨h160, h111, h6, hall⟩ := hp
    have hne : a ≠ [] := fun e => by
      subst e
      have := hall [] (by simp [piecesL, splitAux])
      rw [nameB_nil] at this; cases this
    have hb' : (besideS (parentS p) q).toList = a ++ 47 :: q.toList := by
      rw [hb, hsp.1, if_neg (by simpa using hne)]; simp
    rw [hb', aheadL_at a _ hn, baseL_at a _ hn] at hs2
    refine ⟨?_, ba_ext (by rw [hs2.1, hsp.1]), ba_ext hs2.2⟩
    rw [mayB_list, hb']
    have e4 : piecesL (a ++ 47 :: q.toList) = piecesL a ++ [q.toList] := by
      unfold piecesL; rw [splitAux_at, splitAux_no _ [] hn]; rfl
    refine may_of (by simp; omega) (by rw [aheadL_at a _ hn]; exact h111) (by rw [e4]; rw [List.length_append] at h6 ⊢; exact h6) ?_
    rw [e4]
    intro x hx
    rcases List.mem_append.1 hx with hx | hx
    · exact hall x (by simp [hx])
    · rw [List.mem_singleton.1 hx]; exact hq
theorem hexD_ok (n : Nat) (h : n < 16) : okByte (hexD n) = true := by
  have : n = 0 ∨ n = 1 ∨ n = 2 ∨ n = 3 ∨ n = 4 ∨ n = 5 ∨ n = 6 ∨ n = 7 ∨ n = 8 ∨ n = 9 ∨ n = 10 ∨ n = 11 ∨ n = 12 ∨ n = 13 ∨ n = 14 ∨ n = 15 := by omega
  rcases this with rfl | rfl | rfl | rfl | rfl | rfl | rfl | rfl | rfl | rfl | rfl | rfl | rfl | rfl | rfl | rfl <;> decide
theorem hexL_ok (l : List UInt8) : (hexL l).all okByte = true := by
  rw [List.all_eq_true]
  intro c hc
  unfold hexL at hc
  simp only [List.mem_flatten, List.mem_map] at hc
  obtain ⟨u, ⟨x, _, rfl⟩, hc⟩ := hc
  have hx := x.toNat_lt
  simp only [List.mem_cons, List.not_mem_nil, or_false] at hc
  rcases hc with rfl | rfl <;> exact hexD_ok _ (by omega)
theorem all_take {l : List UInt8} {f : UInt8 → Bool} (h : l.all f = true) (n : Nat) : (l.take n).all f = true :=
  List.all_eq_true.2 fun x hx => List.all_eq_true.1 h x (List.mem_of_mem_take hx)
theorem hex8_toList (p : ByteArray) : (hex8 p).toList = (hexL (shaL p.toList)).take 8 := by
  unfold hex8
  rw [toList_extract, toList_mk]; rfl
def tempPart (p : ByteArray) : ByteArray := ⟨#[126, 116, 126]⟩ ++ (baseS p).extract 0 (min ((baseS p).size : Int) 12).toNat ++ hex8 p
theorem tempPart_toList (p : ByteArray) : (tempPart p).toList = [126, 116, 126] ++ ((baseS p).toList.take (min ((baseS p).size : Int) 12).toNat ++ (hexL (shaL p.toList)).take 8) := by
  unfold tempPart
  rw [toList_append, toList_append, hex8_toList, toList_extract, show (⟨#[126, 116, 126]⟩ : ByteArray).toList = [126, 116, 126] from toList_mk _]
  simp
theorem tempPart_len (p : ByteArray) : 3 ≤ (tempPart p).toList.length ∧ (tempPart p).toList.length ≤ 23 := by
  rw [tempPart_toList]
  simp only [List.length_append, List.length_take, hexL_len, shaL_len, len_toList, List.length_cons, List.length_nil]
  omega
theorem tempPart_name (p : ByteArray) (h : mayB p = true) : nameB (tempPart p).toList = true := by
  have hl := tempPart_len p
  refine nameB_mk ?_ hl.1 (by omega)
  rw [tempPart_toList, List.all_append, List.all_append, all_take (nameB_ok (back_base p h)), all_take (hexL_ok _)]
  decide

/-- The temp's path beside a wanted file, within a root. -/
theorem temp_at {root p : ByteArray} (hr : mayB (root ++ ⟨#[47, 120]⟩) = true) (hp : parentS (root ++ ⟨#[47, 120]⟩) = root) (h0 : root.toList.isEmpty = false) (h : mayB p = true) (hq : parentS p = ⟨#[]⟩) :
    root ++ ⟨#[47]⟩ ++ tempR p = besideS root (tempPart p) ∧ mayB (besideS root (tempPart p)) = true ∧ parentS (besideS root (tempPart p)) = root := by
  have h1 := beside_part _ (tempPart p) hr (tempPart_name p h)
  rw [hp] at h1
  refine ⟨?_, h1.1, h1.2.1⟩
  unfold tempR
  rw [if_pos h]
  show root ++ ⟨#[47]⟩ ++ besideS (parentS p) (tempPart p) = _
  rw [hq]
  unfold besideS
  rw [if_pos (show (⟨#[]⟩ : ByteArray).toList.isEmpty = true from by decide +kernel), if_neg (by rw [h0]; simp)]
end Go.Proofs.YtldppmjjgljinaaGreatDoor

namespace Go.Proofs.YtldppmjjgljinaaGreatDoor
open Go.RowKit

theorem cutFull {d : ByteArray} (h : d.size ≤ full) : cutTo full d = d := by
  apply ba_ext
  unfold cutTo
  rw [toList_extract, List.drop_zero, List.take_of_length_le (by rw [len_toList]; omega)]
def sF1 : ByteArray := ⟨#[102, 49]⟩
def sW : ByteArray := ⟨#[119]⟩
def tmpW : ByteArray := placeS sF1 sW
theorem tmpW_form : ∃ r, tmpW.toList = sF1.toList ++ 47 :: r := by
  refine ⟨(tempR sW).toList, ?_⟩
  unfold tmpW placeS
  rw [toList_append, toList_append, toList_mk]
  simp
theorem tmpW_may : mayB tmpW = true ∧ parentS tmpW = sF1 := by
  have h := temp_at (root := sF1) (p := sW) (by decide +kernel) (by decide +kernel) (by decide +kernel) (by decide +kernel) (by decide +kernel)
  unfold tmpW placeS
  rw [h.1]
  exact h.2
theorem tmpW_place : placeB sF1 sW = true := by
  unfold placeB
  rw [show mayB sW = true from by decide +kernel, show mayB sF1 = true from by decide +kernel, show placeS sF1 sW = tmpW from rfl, tmpW_may.1]
  rfl
theorem tmpW_some : tmpW.toList.isEmpty = false := by
  obtain ⟨r, h⟩ := tmpW_form
  rw [h]; simp
theorem tmpW_less : cmpL sF1.toList tmpW.toList = -1 := by
  obtain ⟨r, h⟩ := tmpW_form
  rw [h]
  exact cmpL_prefix _ _ _
theorem tmpW_ne : tmpW ≠ sF1 := fun e => by
  have := tmpW_less
  rw [e, cmpL_self] at this
  cases this
theorem tmpW_size : tmpW.size ≤ 160 := mayB_size tmpW_may.1
def nDir : Nd := ⟨2, emp, emp, 0⟩
def kF : Dk := ⟨[(sF1, nDir)], [], 65536, [.mkdir sF1], false, -1⟩
theorem kF_made : (Dk.made 65536).act (.mkdir sF1) = (0, kF) := by kernel_rfl
def lT (d : ByteArray) : Nodes := [(sF1, nDir), (tmpW, ⟨1, d, emp, 5⟩)]
def kT (d : ByteArray) : Dk := ⟨lT d, [], 65536, [.mkdir sF1, .write tmpW d 5], false, -2⟩
def kG (d : ByteArray) : Dk := ⟨[(sF1, nDir)], [], 65536, [.mkdir sF1, .write tmpW d 5, .remove tmpW], false, -3⟩
theorem insT (d : ByteArray) : insS [(sF1, nDir)] tmpW ⟨1, d, emp, 5⟩ = lT d := by
  unfold insS
  rw [if_neg tmpW_ne, if_neg (by rw [cmpL_anti, tmpW_less]; decide)]
  rfl
theorem findF : findA [(sF1, nDir)] tmpW = none := by
  unfold findA
  rw [if_neg (Ne.symm tmpW_ne)]
  rfl
theorem findT (d : ByteArray) : findA (lT d) tmpW = some ⟨1, d, emp, 5⟩ := by
  unfold lT findA
  rw [if_neg (Ne.symm tmpW_ne)]
  unfold findA
  rw [if_pos rfl]
theorem usedT (d : ByteArray) : usedL (lT d) = 128 + d.size := by
  show 64 + 0 + (64 + d.size + 0) = _
  omega
theorem usedF : usedL kF.live = 64 := rfl
theorem homeT {l : Nodes} (h : kindAt l sF1 = 2) : homeE l tmpW = 0 := by
  unfold homeE
  rw [parentR_may tmpW_may.1, tmpW_may.2]
  unfold dirE
  rw [h]
  rfl
theorem kT_made (d : ByteArray) (hd : d.size ≤ 4096) : kF.act (.write tmpW d 5) = (0, kT d) := by
  have e : effE kF.live kF.room full (.write tmpW d 5) = (0, lT d) := by
    show writeE [(sF1, nDir)] 65536 tmpW (cutTo full d) 5 = _
    rw [cutFull (by unfold full; omega)]
    unfold writeE
    rw [if_pos (homeT (by decide +kernel))]
    have hf : fileE [(sF1, nDir)] tmpW = 0 := by unfold fileE; rw [findF]
    rw [if_pos hf]
    unfold putE
    rw [insT, usedT, if_pos (by omega)]
  unfold Dk.act
  rw [if_neg (by decide), if_pos (by simp [Eff.paths, tmpW_may.1]), if_pos (show (Eff.write tmpW d 5).right = true from by show clockB 5 = true; decide), e, if_pos rfl]
  rfl
theorem kT_read (d : ByteArray) : readE (kT d).live tmpW = (⟨1, d, emp, 5⟩, 0) := by
  unfold readE
  rw [if_pos tmpW_may.1, show (kT d).live = lT d from rfl, findT]
theorem kF_read : readE kF.live tmpW = (nd0, 5) := by
  unfold readE
  rw [if_pos tmpW_may.1, show kF.live = [(sF1, nDir)] from rfl, findF]
theorem kG_read (d : ByteArray) : readE (kG d).live tmpW = (nd0, 5) := kF_read
theorem kG_made (d : ByteArray) : (kT d).act (.remove tmpW) = (0, kG d) := by
  have hd : dropA (lT d) tmpW = [(sF1, nDir)] := by
    unfold dropA lT
    rw [List.filter_cons_of_pos (by simp [Ne.symm tmpW_ne]), List.filter_cons_of_neg (by simp)]
    rfl
  have hw : (lT d).any (fun x => withinB x.1 tmpW) = false := by
    rw [List.any_eq_false]
    intro x hx
    simp only [lT, List.mem_cons, List.not_mem_nil, or_false] at hx
    intro hc
    rcases hx with rfl | rfl
    · have := behind_less tmpW sF1 tmpW_may.1 hc
      rw [cmpL_anti, tmpW_less] at this
      cases this
    · have := behind_less tmpW tmpW tmpW_may.1 hc
      rw [cmpL_self] at this
      cases this
  have e : effE (kT d).live (kT d).room full (.remove tmpW) = (0, [(sF1, nDir)]) := by
    show removeE (lT d) tmpW = _
    unfold removeE
    rw [findT, hw, hd]
    rfl
  unfold Dk.act
  rw [if_neg (by simp [Dk.off, kT]), if_pos (by simp [Eff.paths, tmpW_may.1]), if_pos (show (Eff.remove tmpW).right = true from rfl), e, if_pos rfl]
  rfl
theorem dropT (d : ByteArray) : dropR (kT d) tmpW = (0, kG d) := by
  unfold dropR
  rw [kT_read, if_neg (show ¬ (0 : Int) = 5 by decide), kG_made]
theorem dropG (d : ByteArray) : dropR (kG d) tmpW = (0, kG d) := by
  unfold dropR
  rw [kG_read, if_pos rfl]
theorem kF_run : DkRun 1 kF := by
  have := (DkRun.made (room := 65536) (by decide) (by decide)).act (.mkdir sF1)
  rw [kF_made] at this
  exact this
theorem kT_run (d : ByteArray) (hd : d.size ≤ 4096) : DkRun 2 (kT d) := by
  have := kF_run.act (.write tmpW d 5)
  rw [kT_made d hd] at this
  exact this
theorem kG_run (d : ByteArray) (hd : d.size ≤ 4096) : DkRun 3 (kG d) := by
  have := (kT_run d hd).act (.remove tmpW)
  rw [kG_made d] at this
  exact this
end Go.Proofs.YtldppmjjgljinaaGreatDoor

namespace Go.Proofs.YtldppmjjgljinaaGreatDoor
open Go.RowKit

def draftG (p : Nat) (r : RecS) (N : Nat) (name : ByteArray) (ps : List (Option (List UInt8))) : Gen where
  At w M I := ∃ g D cs bl, M = [g] ∧ DrIn w p g D cs bl I r N name ps
  lt := by
    rintro w M I ⟨g, D, cs, bl, rfl, h⟩
    exact ⟨fun b hb => (by rw [List.mem_singleton.1 hb]; exact ltB h.row), fun b hb => (h.imm b hb).2⟩
  kept := by
    rintro w w' M I ⟨g, D, cs, bl, rfl, h⟩ hs hk
    refine ⟨g, D, cs, bl, rfl, h.kept hs fun b hb hm => hk b hb ?_⟩
    rcases List.mem_cons.1 hm with rfl | hm
    · exact .inl (by simp)
    · exact .inr hm
abbrev Thing.draft (p : Nat) (r : RecS) (N : Nat) (name : ByteArray) (ps : List (Option (List UInt8))) : Thing := .gen (draftG p r N name ps)
/-- Two things of many, neither in the other's way. -/
theorem Things.opened2 {w0 w : World} {t s : Thing} {L : List Thing} (h : Things w0 w (t :: s :: L)) :
    ∃ M I M2 I2, ThAt w M I t ∧ ThAt w M2 I2 s ∧ Apart M I M2 I2 ∧ ∀ w' M' I' t', ThAt w' M' I' t' → DkStep w M I w' M' I' → Things w0 w' (t' :: s :: L) := by
  obtain ⟨x, X, hX, hall, hp⟩ := h
  obtain ⟨⟨t0, M, I⟩, X1, rfl, e1, hX1⟩ := List.map_eq_cons_iff.1 hX
  obtain ⟨⟨s0, M2, I2⟩, X2, rfl, e2, e3⟩ := List.map_eq_cons_iff.1 hX1
  simp only at e1 e2
  subst e1 e2 e3
  have hT : Things w0 w ([] ++ t0 :: (s0 :: X2.map (·.1))) := ⟨x, (t0, M, I) :: (s0, M2, I2) :: X2, rfl, hall, hp⟩
  obtain ⟨p1, p2⟩ := List.pairwise_cons.1 hp
  have hA := p1 (s0, M2, I2) (by simp)
  have hy := hall (t0, M, I) (by simp)
  refine ⟨M, I, M2, I2, hy.1, (hall (s0, M2, I2) (by simp)).1, hA, fun w' M' I' t' h' k => ?_⟩
  have hxe := k.ext x hy.2
  refine ⟨hxe.1, (t', M', I') :: (s0, M2, I2) :: X2, rfl, fun z hz => ?_, List.pairwise_cons.2 ⟨fun z hz => ?_, p2⟩⟩
  · rcases List.mem_cons.1 hz with rfl | hz
    · exact ⟨h', hxe.2⟩
    · have hz2 := hall z (List.mem_cons_of_mem _ hz)
      exact ⟨hz2.1.step k (p1 z hz), hz2.2⟩
  · have hz2 := hall z (List.mem_cons_of_mem _ hz)
    exact (p1 z hz).step k hz2.1.lt.1 hz2.1.lt.2
section
variable {w0 w : World} {A B : List Thing} {p : Nat} {r : RecS} {N : Nat} {name : ByteArray} {ps : List (Option (List UInt8))}
theorem draft_ext {F : FuncId} {args : Array Value} {P : Ending → World → Prop} (h : Things w0 w (A ++ .draft p r N name ps :: B)) (hc : ∀ g D cs bl I, DrIn w p g D cs bl I r N name ps → Calls Tryz.prog F args w P) : Calls Tryz.prog F args w P := by
  obtain ⟨M, I, ⟨g, D, cs, bl, _, h1⟩, _⟩ := h.opened
  exact hc g D cs bl I h1
theorem thave_many (h : Things w0 w (A ++ .draft p r N name ps :: B)) (hnm : name.toList.isEmpty = false) :
    Calls Tryz.prog 19 #[.pointer (some ⟨p, 0, none⟩)] w fun e w' => ∃ u, e = .returned u ∧ Hid (w'.ownsRow w.heap.size 3 1 u ((List.range (countN N)).filter (haveB ps)).length (((List.range (countN N)).filter (haveB ps)).map iv) ∧ Ext w w') :=
  draft_ext h fun _ _ _ _ _ hd => have_any w _ _ _ _ _ _ _ _ _ _ hd hnm
theorem tasked_many (h : Things w0 w (A ++ .draft p r N name ps :: B)) (hnm : name.toList.isEmpty = false) :
    Calls Tryz.prog 21 #[.pointer (some ⟨p, 0, none⟩)] w fun e w' => ∃ u, e = .returned u ∧ Hid (w'.ownsRow w.heap.size 3 1 u ((List.range (countN N)).filter (askB N r.hs ps)).length (((List.range (countN N)).filter (askB N r.hs ps)).map iv) ∧ Ext w w') :=
  draft_ext h fun _ _ _ _ _ hd => asked_any w _ _ _ _ _ _ _ _ _ _ hd hnm
theorem tdone_many (h : Things w0 w (A ++ .draft p r N name ps :: B)) (hnm : name.toList.isEmpty = false) :
    Calls Tryz.prog 24 #[.pointer (some ⟨p, 0, none⟩)] w fun e w' => e = .returned (.bool (doneB N r.hs ps)) ∧ Ext w w' :=
  draft_ext h fun _ _ _ _ _ hd => tdone_any w _ _ _ _ _ _ _ _ _ _ hd hnm
theorem tdata_many (h : Things w0 w (A ++ .draft p r N name ps :: B)) (hnm : name.toList.isEmpty = false) (ho : PsOk N r.hs ps) :
    Calls Tryz.prog 22 #[.pointer (some ⟨p, 0, none⟩)] w fun e w' => ∃ u, e = .returned (.tuple #[u, .bool (doneB N r.hs ps)]) ∧ Hid (Ext w w' ∧ (doneB N r.hs ps = false → u = .slice none 0 0) ∧ (doneB N r.hs ps = true → w'.ownsRow w.heap.size 5 1 u N ((farL N ps).map bv))) :=
  draft_ext h fun _ _ _ _ _ hd => tdata_any w _ _ _ _ _ _ _ _ _ _ hd hnm ho
/-- A right block is put. -/
theorem tput_many (h : Things w0 w (A ++ .draft p r N name ps :: B)) (T : ShaTabs w) (hnm : name.toList.isEmpty = false) (i : Nat) (hi : i < countN N) (l : List UInt8) (v : Value) (hv : BytesOff w.heap.size w v l) (hr : rightB N r.hs i l = true) :
    Calls Tryz.prog 16 #[.pointer (some ⟨p, 0, none⟩), .int .i64 i, v] w fun e w' => e = .returned (.int .i64 0) ∧ Things w0 w' (A ++ .draft p r N name (fillP N r.hs i l ps) :: B) := by
  obtain ⟨M, I, ⟨g, D, cs, bl, rfl, h1⟩, _, h3⟩ := h.opened
  refine (put_any w T p g D cs bl I r N name ps h1 hnm i hi l v hv (by have := right_len hr; have := lenN_le N i; omega)).mono ?_
  rintro e w' hp
  obtain ⟨he, I', cs', hk, hd⟩ := hp.yes hr
  exact ⟨he, h3 w' [g] I' (.draft p r N name (fillP N r.hs i l ps)) ⟨g, D, cs', bl, rfl, hd⟩ hk⟩
theorem tput_wrong (h : Things w0 w (A ++ .draft p r N name ps :: B)) (T : ShaTabs w) (hnm : name.toList.isEmpty = false) (i : Nat) (hi : i < countN N) (l : List UInt8) (v : Value) (hv : BytesOff w.heap.size w v l) (hl : l.length ≤ 1048576) (hr : rightB N r.hs i l = false) :
    Calls Tryz.prog 16 #[.pointer (some ⟨p, 0, none⟩), .int .i64 i, v] w fun e w' => e = .returned (.int .i64 14) ∧ Ext w w' := by
  obtain ⟨M, I, ⟨g, D, cs, bl, rfl, h1⟩, _, h3⟩ := h.opened
  exact (put_any w T p g D cs bl I r N name ps h1 hnm i hi l v hv hl).mono fun e w' hp => hp.no hr
theorem tsave_many {d : Nat} {K K' : Dk} {c : Int} (h : Things w0 w (.disk d K :: .draft p r N name ps :: B)) (E : Env w) (hnm : name.toList.isEmpty = false) (ho : PsOk N r.hs ps) (hnz : name.size < 4294967281) (O : DkFit K) (hR : K.act (.write name (bytesB (farL N ps)) r.time) = (c, K')) :
    Calls Tryz.prog 18 #[.pointer (some ⟨p, 0, none⟩), .pointer (some ⟨d, 0, none⟩)] w fun e w' => e = .returned (.int .i64 c) ∧ Things w0 w' (.disk d K' :: .draft p r N name ps :: B) := by
  obtain ⟨M, I, M2, I2, h1, ⟨g, D, cs, bl, rfl, h2⟩, hA, h3⟩ := h.opened2
  refine (save_any w E p g D cs bl I2 r N name ps h2 hnm ho hnz d M I K h1 O (fun hm => hA.mi p hm h2.self)).mono ?_
  rw [hR]
  rintro e w' ⟨he, M', I', h4, h5⟩
  exact ⟨he, h3 w' M' I' (.disk d K') h4 h5⟩
theorem tdrop_many {d : Nat} {K K' : Dk} {c : Int} (h : Things w0 w (.disk d K :: .draft p r N name ps :: B)) (E : Env w) (hnm : name.toList.isEmpty = false) (hnz : name.size < 4294967281) (O : DkFit K) (hR : dropR K name = (c, K')) :
    Calls Tryz.prog 48 #[.pointer (some ⟨p, 0, none⟩), .pointer (some ⟨d, 0, none⟩)] w fun e w' => e = .returned (.int .i64 c) ∧ Things w0 w' (.disk d K' :: .draft p r N name ps :: B) := by
  obtain ⟨M, I, M2, I2, h1, ⟨g, D, cs, bl, rfl, h2⟩, hA, h3⟩ := h.opened2
  refine (drop_any w E p D _ name h2.blk h2.c27 hnm hnz d M I K h1 O).mono ?_
  rw [hR]
  rintro e w' ⟨he, M', I', h4, h5⟩
  exact ⟨he, h3 w' M' I' (.disk d K') h4 h5⟩
/-- A draft is opened. -/
theorem topen_many {d : Nat} {K : Dk} (h : Things w0 w (A ++ .disk d K :: B)) (root : ByteArray) (r : RecS) (C : Array Value) (bl : Value) (N : Nat) (hC : RecC C r bl) (G : r.Good N) (hb : HashesAt w bl r.hs) (hsh : ∃ a n c, bl = .slice a n c ∧ (a = none ∨ ∃ g o, a = some ⟨g, o, none⟩)) (E : Env w) (T : ShaTabs w) (hs : r.path.size < 4294967281) (hr : root.size ≤ 2147483648) (hp : placeB root r.path = true)
    (hdt : (readE K.live (placeS root r.path)).1.data.size ≤ 1048576) :
    Calls Tryz.prog 15 #[.pointer (some ⟨d, 0, none⟩), .string root, .agg C, .pointer none] w fun e w' => ∃ p, e = .returned (.tuple #[.pointer (some ⟨p, 0, none⟩), .int .i64 0]) ∧ Hid (Ext w w' ∧ Things w0 w' (A ++ .disk d K :: B ++ [.draft p r N (placeS root r.path) (openTo N r.hs (readE K.live (placeS root r.path)).1.data.toList (countN N))])) := by
  obtain ⟨M, I, h1, h2, _⟩ := h.opened
  refine (open_ok root r C bl N w hC G hb hsh E T hs hr hp d M I K h1 hdt).mono ?_
  rintro e w' ⟨p, g, D, cs, u, J, he, hh⟩
  obtain ⟨hx, hd, hg, hJ⟩ := hh.out
  exact ⟨p, he, hx, h.add hx (M := [g]) (I := J) ⟨g, D, cs, u, rfl, hd⟩ (fun b hb => (by rw [List.mem_singleton.1 hb]; exact hg)) hJ⟩
end
end Go.Proofs.YtldppmjjgljinaaGreatDoor

namespace Go.Proofs.YtldppmjjgljinaaGreatDoor
open Go.RowKit

def repS (c : UInt8) (n : Nat) : ByteArray := ⟨(List.replicate n c).toArray⟩
theorem repeatL_one (c : UInt8) : ∀ n, Lib.repeatL [c] n = List.replicate n c
  | 0 => rfl
  | n + 1 => by
    rw [show Lib.repeatL [c] (n + 1) = [c] ++ Lib.repeatL [c] n from rfl, repeatL_one c n]
    rfl
set_option maxRecDepth 100000 in
theorem times_any (c : UInt8) (n : Nat) (w : World) (hn : n ≤ 100000) : Calls Tryz.prog 69 #[.string ⟨#[c]⟩, .int .i64 n] w fun e w' => e = .returned (.string (repS c n)) ∧ Ext w w' := by
  have HR := Lib.hid (show Calls Tryz.prog 63 #[.string ⟨#[c]⟩, .int .i64 n] w (fun e w' => e = .returned (.string (repS c n)) ∧ Ext w w') from by
    have := Tryz.strings_Repeat ⟨#[c]⟩ n w (by omega) (by rw [show (⟨#[c]⟩ : ByteArray).size = 1 from rfl]; omega)
    rw [show (⟨#[c]⟩ : ByteArray).data.toList = [c] from rfl, repeatL_one] at this
    exact this)
  clear hn
  go_enter Tryz.func69, Tryz.ntmps69
  go_wp2_with fail
  refine HR.out.mono ?_
  rintro e w1 ⟨rfl, x1⟩
  have HX := Lib.hid x1
  clear x1
  go_wp2_with fail
  go_ret
  exact ⟨rfl, HX.out⟩

set_option maxRecDepth 100000 in
theorem made23_any {w0 w : World} {A : List Thing} (h : Things w0 w A) (E : Env w0) :
    Calls Tryz.prog 13 #[] w fun e w' => ∃ d, e = .returned (.pointer (some ⟨d, 0, none⟩)) ∧ Hid (Things w0 w' (A ++ [.disk d kF])) := by
  have H0 := Lib.hid (new_many h 65536 (by decide) (by decide))
  have HE := Lib.hid E
  clear h E
  go_enter Tryz.func13, Tryz.ntmps13
  go_wp2_with fail
  refine H0.out.mono ?_
  rintro e w1 ⟨d, rfl, h1⟩
  have H1 := Lib.hid (mkdir_many (A := A) (B := []) h1 ((DkRun.made (room := 65536) (by decide) (by decide)).fit (by decide)) (HE.out.ext h1.is_ext) sF1 (by decide) kF_made)
  clear h1
  go_wp2_with fail
  refine H1.out.mono ?_
  rintro e w2 ⟨rfl, h2⟩
  have H2 := Lib.hid h2
  clear h2
  go_wp2_with fail
  go_ret
  exact ⟨d, rfl, H2.out⟩

/-- The record of a file. -/
def wantedC (l : List UInt8) (bl : Value) : Array Value := #[.string sW, .int .i64 1, .bool false, .int .i64 (l.length : Nat), .int .i64 5, .int .i64 0, .int .u32 0, .int .u32 0, .int .u32 0, .int .u32 0, .int .u32 0, .int .u32 0, .int .u32 0, .int .u32 0, .int .u32 0, .int .u32 0, .int .u32 0, .int .u32 0, .int .u32 0, .int .u32 0, .int .u32 0, .int .u32 0, .int .i64 (sizeN l.length : Nat), bl, .string ⟨#[]⟩, .int .i64 0, .int .i64 0]
def wantedR (l : List UInt8) : RecS := ⟨sW, 1, false, (l.length : Nat), 5, (sizeN l.length : Nat), hashesL l⟩
theorem wantedC_rec (l : List UInt8) (bl : Value) : RecC (wantedC l bl) (wantedR l) bl := ⟨rfl, rfl, rfl, rfl, rfl, rfl, rfl, rfl⟩
theorem wantedR_good (l : List UInt8) (hl : l.length ≤ 4096) : (wantedR l).Good l.length := ⟨rfl, rfl, rfl, hl, rfl, by show (hashesL l).length = _; rw [hashesL_len]⟩
theorem owns_touch {w w' : World} {base g k n : Nat} {e : TypeId} {v : Value} {xs : List Value} (h : w.ownsRow base e k v n xs) (x : Touch g w w') (hg : g < base) : w'.ownsRow (g + 1) e k v n xs := by
  refine ⟨h.1, ?_⟩
  rcases h.2 with h1 | ⟨b, cap, cur, hv, hb, hh, hr⟩
  · exact .inl h1
  · exact .inr ⟨b, cap, cur, hv, by omega, (x.block b (ltB hh) (fun e => by have := Option.some.inj e; omega)).trans hh, hr⟩
set_option maxRecDepth 100000 in
set_option maxHeartbeats 1000000 in
theorem wanted23_any (l : List UInt8) (v : Value) (w : World) (T : ShaTabs w) (hv : BytesOff w.heap.size w v l) (hl : l.length ≤ 4096) :
    Calls Tryz.prog 14 #[v] w fun e w' => ∃ a c, e = .returned (.agg (wantedC l (.slice a (countN l.length) c))) ∧ Hid (w'.ownsRow (w.heap.size + 1) 45 32 (.slice a (countN l.length) c) (countN l.length) (hrow (hashesL l)) ∧ Ext w w') := by
  have HX := Lib.hid ((Ext.refl w).alloc (.cells (wantedC [] (.slice none 0 0)) 31))
  have HLi := fun w' (x : Ext w w') => Lib.hid (blist_any l v w' (T.ext x) (bytesOff_any hv x x.size) hl)
  have HSz := fun w' => Lib.hid (bsize_any (l.length : Int) w' (by omega) (by omega))
  rw [show sizeZ (l.length : Int) = (sizeN l.length : Nat) from by unfold sizeZ; rw [if_neg (by omega)]; simp] at HSz
  have HW := Lib.hid (show ∀ bl, wantedC l bl = #[.string sW, .int .i64 1, .bool false, .int .i64 (l.length : Nat), .int .i64 5, .int .i64 0, .int .u32 0, .int .u32 0, .int .u32 0, .int .u32 0, .int .u32 0, .int .u32 0, .int .u32 0, .int .u32 0, .int .u32 0, .int .u32 0, .int .u32 0, .int .u32 0, .int .u32 0, .int .u32 0, .int .u32 0, .int .u32 0, .int .i64 (sizeN l.length : Nat), bl, .string ⟨#[]⟩, .int .i64 0, .int .i64 0] from fun _ => rfl)
  obtain ⟨a, cap, rfl, _⟩ := hv
  generalize wantedC l = WC at *
  generalize hashesL l = hs at *
  generalize sizeN l.length = sz at *
  generalize countN l.length = cn at *
  generalize l.length = ln at *
  clear T hl
  go_enter Tryz.func14, Tryz.ntmps14
  go_wp2_with fail
  refine (HLi _ ((Ext.refl w).alloc _)).out.mono ?_
  rintro e w2 ⟨u, rfl, h2⟩
  have H2 := h2
  obtain ⟨sa, cap2, rfl⟩ := rowk_shape h2.out.1
  have HX2 := Lib.hid (((Ext.refl w).alloc _).trans h2.out.2)
  have HZ := Lib.hid ((h2.out.2.block (by rw [size_alloc]; exact Nat.lt_succ_self _)).trans (block_alloc_new w _))
  have HA1 := Lib.hid (show (Tryz.prog.info? 31).map (·.size) = some (WC (.slice sa cn cap2)).size from by rw [HW.out]; kernel_rfl)
  have HA2 := Lib.hid (show 27 = (WC (.slice sa cn cap2)).size from by rw [HW.out]; rfl)
  have HA3 := Lib.hid (show (WC (.slice sa cn cap2)).all (·.oneCell') = true from by rw [HW.out]; simp [Value.oneCell'])
  clear h2 HX
  go_wp2_with fail
  refine (HSz _).out.mono ?_
  rintro e w3 ⟨rfl, hw⟩
  obtain rfl := hw.symm
  clear hw
  go_wp2_with (first
    | (refine wpList_buildAs (WC (.slice sa cn cap2)) rfl _ _ rfl (by rw [HW.out]; kernel_rfl) ?_; go_frame)
    | (refine wpList_storeT rfl _ _ _ rfl w.heap.size (WC (.slice sa cn cap2)) rfl rfl 31 _ HZ.out HA1.out HA2.out HA3.out ?_; intro w6 hb6 ht6; have HB6 := Lib.hid hb6; have HT6 := Lib.hid ht6; clear hb6 ht6; go_frame))
  have HT := HT6.out.fresh HX2.out (Nat.le_refl _)
  refine bodyPost_ret (results_cell_row rfl _ _ w.heap.size 31 _ (0, 0) _ rfl HB6.out Tryz.underlying31 rfl HA1.out) rfl ⟨_, _, rfl, ?_, HT⟩
  exact owns_touch H2.out.1 HT6.out (by rw [size_alloc]; exact Nat.lt_succ_self _)
theorem conv_byte1 (w : World) (c : UInt8) : (convert 22 9 (.slice (some ⟨w.heap.size, 0, none⟩) 1 1)).run Tryz.prog (w.alloc (.cells #[.int .u8 c.toNat] 5)) = .ok (.string ⟨#[c]⟩) (w.alloc (.cells #[.int .u8 c.toNat] 5)) := by
  exact run_convert_bytes_back (w.alloc (.cells #[.int .u8 c.toNat] 5)) 22 9 5 ⟨w.heap.size, 0, none⟩ 1 [c] Tryz.underlying22 (by kernel_rfl) Tryz.underlying9 (fun j hj => by
    have : j = 0 := by simp at hj; exact hj
    subst this
    rw [show (⟨w.heap.size, 0, none⟩ : Addr).add 0 = ⟨w.heap.size, 0, none⟩ from rfl, cellB (heap_alloc_new w _)]; rfl)
/-- Numbers as digits. -/
def digS (L : List Nat) : ByteArray := ⟨(L.map fun k => UInt8.ofNat (48 + k % 10)).toArray⟩
theorem digS_next {L : List Nat} {k x : Nat} (h : L[k]? = some x) : digS (L.take (k + 1)) = digS (L.take k) ++ ⟨#[UInt8.ofNat (48 + x % 10)]⟩ := by
  apply ba_ext
  unfold digS
  rw [List.take_add_one, h, toList_mk, toList_append, toList_mk]
  rw [show (⟨#[UInt8.ofNat (48 + x % 10)]⟩ : ByteArray).toList = [UInt8.ofNat (48 + x % 10)] from toList_mk _]
  simp
theorem digS_size (L : List Nat) : (digS L).size = L.length := by
  unfold digS
  rw [size_mk]; simp
set_option maxRecDepth 100000 in
set_option maxHeartbeats 1000000 in
theorem ltext_any (L : List Nat) (v : Value) (base : Nat) (w : World) (hv : w.ownsRow base 3 1 v L.length (L.map iv)) (hL : L.length ≤ 100) (hb : ∀ k ∈ L, k ≤ 1000) :
    Calls Tryz.prog 71 #[v] w fun e w' => e = .returned (.string (digS L)) ∧ Ext w w' := by
  have HO := Lib.hid hv
  obtain ⟨a, cap, rfl⟩ := rowk_shape hv
  have HC := Lib.hid (show ∀ (k x : Nat), L[k]? = some x → ∃ g, a = some ⟨g, 0, none⟩ ∧ x ≤ 1000 ∧ ∀ wr, Ext w wr → wr.cell? ⟨g, k, none⟩ = some (.int .i64 (x : Nat)) from fun k x hx => by
    rcases hv.2 with ⟨he, h0⟩ | ⟨g, cap', cur, he, hg, hh, _⟩
    · have := (List.getElem?_eq_some_iff.1 hx).1
      omega
    · cases he
      refine ⟨g, rfl, hb x (List.mem_of_getElem? hx), fun wr xr => ?_⟩
      have := hv.cells (g := g) rfl k (iv x) (by rw [List.getElem?_map, hx]; rfl)
      rw [append_kw.add_off, Nat.zero_add] at this
      exact (xr.cell (ltB hh)).trans this)
  have HS := Lib.hid (digS_size L)
  obtain ⟨F, hF⟩ : ∃ F, F = digS L := ⟨_, rfl⟩
  have HF := Lib.hid hF
  rw [← hF]
  obtain ⟨n, hn⟩ : ∃ n, n = L.length := ⟨_, rfl⟩
  have HN := Lib.hid hn
  rw [← hn] at hL ⊢
  clear hF hv hb hn
  go_enter Tryz.func71, Tryz.ntmps71
  go_wp2_with fail
  go_loopw [3, 4] (fun sv iv wr => Hid (∃ (k : Nat) (s : ByteArray), k ≤ n ∧ iv = .int .i64 k ∧ sv = .string s ∧ s = digS (L.take k) ∧ s.size = k ∧ Ext w wr)) (fun _ iv _ => n - (intOf iv).toNat)
  case atStart => exact ⟨0, ⟨#[]⟩, Nat.zero_le _, rfl, rfl, rfl, rfl, Ext.refl _⟩
  case round =>
    obtain ⟨k, s, hk, rfl, rfl, hs, hz, hx⟩ := hrel.out
    clear hrel
    have HX := Lib.hid hx
    have HSs := Lib.hid hs
    by_cases hlt : k < n
    · obtain ⟨x, hxk⟩ : ∃ x, L[k]? = some x := ⟨_, List.getElem?_eq_getElem (by have := HN.out; omega)⟩
      obtain ⟨g, rfl, hxl, hcell⟩ := HC.out k x hxk
      have ck := hcell wr hx
      obtain ⟨c, hc⟩ : ∃ c, c = UInt8.ofNat (48 + x % 10) := ⟨_, rfl⟩
      have hcn : (48 : Int) + (x : Int) % 10 = (c.toNat : Int) := by rw [hc, UInt8.toNat_ofNat']; omega
      have HNx := Lib.hid (show digS (L.take (k + 1)) = s ++ ⟨#[c]⟩ from by rw [digS_next hxk, ← hc, hs])
      have hcv := conv_byte1 wr c
      have hcl := c.toNat_lt
      clear hc hs hx hcell
      go_wp2_with fail
      refine ⟨⟨k + 1, s ++ ⟨#[c]⟩, by omega, by go_num, rfl, HNx.out.symm, ?_, HX.out.alloc _⟩, by simp [intOf]; omega⟩
      rw [ByteArray.size_append, hz]; rfl
    · obtain rfl : k = n := by omega
      have HK := Lib.hid (show s = F from by rw [HF.out, hs, List.take_of_length_le (by rw [← HN.out]; exact Nat.le_refl _)])
      clear hs hx
      go_wp2_with fail
      go_ret
      exact ⟨ret_str HK.out, HX.out⟩
end Go.Proofs.YtldppmjjgljinaaGreatDoor

namespace Go.Proofs.YtldppmjjgljinaaGreatDoor
open Go.RowKit

def gL : List UInt8 := List.replicate 32 120 ++ List.replicate 8 121
def gS : ByteArray := repS 120 32 ++ repS 121 8
theorem repS_list (c : UInt8) (n : Nat) : (repS c n).toList = List.replicate n c := toList_mk _
theorem repS_size (c : UInt8) (n : Nat) : (repS c n).size = n := by rw [← len_toList, repS_list]; simp
theorem gS_list : gS.toList = gL := by
  unfold gS gL
  rw [toList_append, repS_list, repS_list]
theorem gS_size : gS.size = 40 := by
  unfold gS
  rw [ByteArray.size_append, repS_size, repS_size]
theorem hashes_row {w : World} {base n c : Nat} {a : Option Addr} {l : List UInt8} (h : w.ownsRow base 45 32 (.slice a n c) (countN l.length) (hrow (hashesL l))) :
    HashesAt w (.slice a n c) (hashesL l) ∧ ∃ a' n' c', (.slice a n c : Value) = .slice a' n' c' ∧ (a' = none ∨ ∃ g o, a' = some ⟨g, o, none⟩) := by
  have h1 := hashes_of_own (hs := hashesL l) (by rw [hashesL_len]; exact h) (fun y hy => by
    unfold hashesL at hy
    obtain ⟨i, _, rfl⟩ := List.mem_map.1 hy
    exact shaL_len _)
  refine ⟨h1.1, a, n, c, rfl, ?_⟩
  rcases h1.2.2 with e | ⟨g, c', e⟩
  · cases e; exact .inl rfl
  · cases e; exact .inr ⟨g, 0, rfl⟩

set_option maxRecDepth 100000 in
set_option maxHeartbeats 1000000 in
theorem given23_any (w : World) (T : ShaTabs w) :
    Calls Tryz.prog 68 #[] w fun e w' => ∃ a c, e = .returned (.agg (wantedC gL (.slice a 3 c))) ∧ Hid (w'.ownsRow (w.heap.size + 1) 45 32 (.slice a 3 c) 3 (hrow (hashesL gL)) ∧ Ext w w') := by
  have HT1 := fun w' => Lib.hid (times_any 120 32 w' (by decide))
  have HT2 := fun w' => Lib.hid (times_any 121 8 w' (by decide))
  have HW := fun w' v (x : Ext w w') (hv : BytesOff w'.heap.size w' v gL) => Lib.hid (wanted23_any gL v w' (T.ext x) hv (by decide))
  rw [show countN gL.length = 3 from by decide] at HW
  have HG := Lib.hid (show repS 120 32 ++ repS 121 8 = gS from rfl)
  have hs1 := repS_size 120 32
  have hs2 := repS_size 121 8
  have HL := Lib.hid gS_list
  have HS := Lib.hid gS_size
  have HA1 := fun a c => Lib.hid (show (Tryz.prog.info? 31).map (·.size) = some (wantedC gL (.slice a 3 c)).size from by kernel_rfl)
  have HA3 := fun a c => Lib.hid (show (wantedC gL (.slice a 3 c)).all (·.oneCell') = true from by simp [wantedC, Value.oneCell'])
  have HA2 := fun a c => Lib.hid (show 27 = (wantedC gL (.slice a 3 c)).size from rfl)
  generalize repS 120 32 = s1 at *
  generalize repS 121 8 = s2 at *
  generalize gS = s3 at *
  generalize wantedC gL = WC at *
  generalize hashesL gL = HH at *
  clear T
  go_enter Tryz.func68, Tryz.ntmps68
  go_wp2_with fail
  refine (HT1 _).out.mono ?_
  rintro e w1 ⟨rfl, x1⟩
  have HX1 := Lib.hid (((Ext.refl w).alloc _).trans x1)
  have HZ1 := Lib.hid ((x1.block (by rw [size_alloc]; exact Nat.lt_succ_self _)).trans (block_alloc_new w _))
  clear x1
  go_wp2_with fail
  refine (HT2 _).out.mono ?_
  rintro e w2 ⟨rfl, x2⟩
  have HX2 := Lib.hid (HX1.out.trans x2)
  have HZ2 := Lib.hid ((x2.block (ltB HZ1.out)).trans HZ1.out)
  clear x2
  obtain ⟨cv, w3, hcv, hbo, x3⟩ := conv_bytes s3 w2 (by rw [HS.out]; decide)
  rw [HL.out] at hbo
  have HX3 := Lib.hid (HX2.out.trans x3)
  have HZ3 := Lib.hid ((x3.block (ltB HZ2.out)).trans HZ2.out)
  have HWc := HW w3 cv HX3.out hbo
  have hg := HG.out
  clear x3 hbo HT1 HT2 HW
  go_wp2_with fail
  refine HWc.out.mono ?_
  rintro e w4 ⟨a, c, rfl, h4⟩
  have H4 := h4
  have HX4 := Lib.hid (HX3.out.trans h4.out.2)
  have HZ4 := Lib.hid ((h4.out.2.block (ltB HZ3.out)).trans HZ3.out)
  clear h4 HWc hcv hg
  go_wp2_with (refine wpList_storeT rfl _ _ _ rfl w.heap.size (WC (.slice a 3 c)) rfl rfl 31 _ HZ4.out (HA1 _ _).out (HA2 _ _).out (HA3 _ _).out ?_; intro w6 hb6 ht6; have HB6 := Lib.hid hb6; have HT6 := Lib.hid ht6; clear hb6 ht6; go_frame)
  have HT := HT6.out.fresh HX4.out (Nat.le_refl _)
  refine bodyPost_ret (results_cell_row rfl _ _ w.heap.size 31 _ (0, 0) _ rfl HB6.out Tryz.underlying31 rfl (HA1 _ _).out) rfl ⟨_, _, rfl, ?_, HT⟩
  have hlt := ltB HZ3.out
  exact owns_touch (owns_low H4.out.1 (by omega : w.heap.size + 1 ≤ w3.heap.size + 1)) HT6.out (by omega)

/-- A draft of the file l beside f1. -/
abbrev dr (p : Nat) (l : List UInt8) (ps : List (Option (List UInt8))) : Thing := .draft p (wantedR l) l.length tmpW ps
theorem open_any23 {w0 w : World} {A B : List Thing} {d : Nat} {K : Dk} {l : List UInt8} {base c : Nat} {a : Option Addr} {nd : Nd} {z : Int} (h : Things w0 w (A ++ .disk d K :: B)) (E : Env w) (T : ShaTabs w) (hl : l.length ≤ 4096) (hr : w.ownsRow base 45 32 (.slice a (countN l.length) c) (countN l.length) (hrow (hashesL l)))
    (hR : readE K.live tmpW = (nd, z)) (hd : nd.data.size ≤ 1048576) :
    Calls Tryz.prog 15 #[.pointer (some ⟨d, 0, none⟩), .string sF1, .agg (wantedC l (.slice a (countN l.length) c)), .pointer none] w fun e w' => ∃ p, e = .returned (.tuple #[.pointer (some ⟨p, 0, none⟩), .int .i64 0]) ∧ Hid (Ext w w' ∧ Things w0 w' (A ++ .disk d K :: B ++ [dr p l (openTo l.length (hashesL l) nd.data.toList (countN l.length))])) := by
  obtain ⟨h1, h2⟩ := hashes_row hr
  have := topen_many h sF1 (wantedR l) (wantedC l (.slice a (countN l.length) c)) (.slice a (countN l.length) c) l.length (wantedC_rec _ _) (wantedR_good l hl) h1 h2 E T (show sW.size < 4294967281 from by decide) (by decide) tmpW_place (by
    rw [show placeS sF1 (wantedR l).path = tmpW from rfl, hR]; exact hd)
  rw [show placeS sF1 (wantedR l).path = tmpW from rfl, hR] at this
  exact this
theorem open_new23 {w0 w : World} {A B : List Thing} {d : Nat} {l : List UInt8} {base c : Nat} {a : Option Addr} (h : Things w0 w (A ++ .disk d kF :: B)) (E : Env w) (T : ShaTabs w) (hl : l.length ≤ 4096) (hr : w.ownsRow base 45 32 (.slice a (countN l.length) c) (countN l.length) (hrow (hashesL l))) :
    Calls Tryz.prog 15 #[.pointer (some ⟨d, 0, none⟩), .string sF1, .agg (wantedC l (.slice a (countN l.length) c)), .pointer none] w fun e w' => ∃ p, e = .returned (.tuple #[.pointer (some ⟨p, 0, none⟩), .int .i64 0]) ∧ Hid (Ext w w' ∧ Things w0 w' (A ++ .disk d kF :: B ++ [dr p l (List.replicate (countN l.length) none)])) := by
  have := open_any23 h E T hl hr kF_read (by decide)
  rw [show nd0.data.toList = [] from toList_mk [], openTo_none _ _ _ (Nat.le_refl _)] at this
  exact this
/-- What some numbers are as text. -/
theorem text_row {w w1 : World} {base : Nat} {u : Value} {L : List Nat} {s : ByteArray} (h : w.ownsRow base 3 1 u L.length (L.map iv)) (x : Ext w w1) (hL : L.length ≤ 100) (hb : ∀ k ∈ L, k ≤ 1000) (hs : digS L = s) :
    Calls Tryz.prog 71 #[u] w1 fun e w' => e = .returned (.string s) ∧ Ext w1 w' := by
  rw [← hs]
  exact ltext_any L u base w1 (owns_ext h x) hL hb

theorem gl_len : gL.length = 40 := by decide
theorem gc_len : countN gL.length = 3 := by decide
def g0 : List (Option (List UInt8)) := [none, none, none]
def x16 : List UInt8 := List.replicate 16 120
def g1 : List (Option (List UInt8)) := fillP 40 (hashesL gL) 1 x16 g0
theorem g_ask0 : (List.range (countN 40)).filter (askB 40 (hashesL gL) g0) = [0, 2] := by decide +kernel
theorem g_right1 : rightB 40 (hashesL gL) 1 x16 = true := by decide +kernel
theorem g_have1 : (List.range (countN 40)).filter (haveB g1) = [0, 1] := by decide +kernel
theorem g_ask1 : (List.range (countN 40)).filter (askB 40 (hashesL gL) g1) = [2] := by decide +kernel
theorem g_done0 : doneB 40 (hashesL gL) g0 = false := by unfold doneB; rw [g_ask0]; rfl
set_option maxRecDepth 100000 in
set_option maxHeartbeats 2000000 in
theorem awake23_any (w : World) (E : Env w) (T : ShaTabs w) : Calls Tryz.prog 12 #[] w fun e w' => e = .returned (.bool true) ∧ Ext w w' := by
  have H0 := Lib.hid (made23_any (Things.start (Ext.refl w)) E)
  have HE := Lib.hid E
  have HT := Lib.hid T
  clear E T
  go_enter Tryz.func12, Tryz.ntmps12
  go_wp2_with fail
  refine H0.out.mono ?_
  rintro e w1 ⟨d, rfl, h1⟩
  have H1 := h1
  have HGv := Lib.hid (given23_any w1 (HT.out.ext h1.out.is_ext))
  clear h1 H0
  go_wp2_with fail
  refine HGv.out.mono ?_
  rintro e w2 ⟨a, c, rfl, h2⟩
  have HT2 := Lib.hid (H1.out.ext h2.out.2)
  have hO := open_new23 (A := []) (B := []) (l := gL) HT2.out (HE.out.ext HT2.out.is_ext) (HT.out.ext HT2.out.is_ext) (by rw [gl_len]; decide) (by rw [gc_len]; exact h2.out.1)
  rw [gc_len] at hO
  have HO := Lib.hid hO
  clear h2 hO HGv H1
  go_wp2_with fail
  refine HO.out.mono ?_
  rintro e w3 ⟨p, rfl, h3⟩
  have HT3 := Lib.hid (show Things w w3 ([.disk d kF] ++ dr p gL g0 :: []) from h3.out.2)
  have hA := tasked_many HT3.out tmpW_some
  rw [gl_len, show (wantedR gL).hs = hashesL gL from rfl, g_ask0] at hA
  have HA := Lib.hid hA
  clear h3 hA HO
  go_wp2_with fail
  refine HA.out.mono ?_
  rintro e w4 ⟨u, rfl, h4⟩
  have HTx := Lib.hid (text_row h4.out.1 (Ext.refl w4) (by decide) (by decide) (show digS [0, 2] = ⟨#[48, 50]⟩ from rfl))
  have HT4 := Lib.hid (HT3.out.ext h4.out.2)
  clear h4 HA
  go_wp2_with fail
  refine HTx.out.mono ?_
  rintro e w5 ⟨rfl, x5⟩
  have HT5 := Lib.hid (HT4.out.ext x5)
  have hD := tdone_many HT5.out tmpW_some
  rw [gl_len, show (wantedR gL).hs = hashesL gL from rfl, g_done0] at hD
  have HD := Lib.hid hD
  clear x5 hD HTx
  go_wp2_with fail
  refine HD.out.mono ?_
  rintro e w6 ⟨rfl, x6⟩
  have HT6 := Lib.hid (HT5.out.ext x6)
  have HTm := Lib.hid (times_any 120 16 w6 (by decide))
  clear x6 HD
  go_wp2_with fail
  refine HTm.out.mono ?_
  rintro e w7 ⟨rfl, x7⟩
  have HT7 := Lib.hid (HT6.out.ext x7)
  obtain ⟨cv, w8, hcv, hbo, x8⟩ := conv_bytes (repS 120 16) w7 (by rw [repS_size]; decide)
  rw [repS_list] at hbo
  have HT8 := Lib.hid (HT7.out.ext x8)
  have HP := Lib.hid (tput_many HT8.out (HT.out.ext HT8.out.is_ext) tmpW_some 1 (by decide) x16 cv hbo g_right1)
  clear x7 x8 hbo HTm
  go_wp2_with fail
  refine HP.out.mono ?_
  rintro e w9 ⟨rfl, h9⟩
  have HT9 := Lib.hid (show Things w w9 ([.disk d kF] ++ dr p gL g1 :: []) from h9)
  have hA := thave_many HT9.out tmpW_some
  rw [gl_len, g_have1] at hA
  have HA := Lib.hid hA
  clear h9 hcv hA HP
  go_wp2_with fail
  refine HA.out.mono ?_
  rintro e w10 ⟨u, rfl, h4⟩
  have HTx := Lib.hid (text_row h4.out.1 (Ext.refl w10) (by decide) (by decide) (show digS [0, 1] = ⟨#[48, 49]⟩ from rfl))
  have HT10 := Lib.hid (HT9.out.ext h4.out.2)
  clear h4 HA
  go_wp2_with fail
  refine HTx.out.mono ?_
  rintro e w11 ⟨rfl, x5⟩
  have HT11 := Lib.hid (HT10.out.ext x5)
  have hA := tasked_many HT11.out tmpW_some
  rw [gl_len, show (wantedR gL).hs = hashesL gL from rfl, g_ask1] at hA
  have HA := Lib.hid hA
  clear x5 HTx hA
  go_wp2_with fail
  refine HA.out.mono ?_
  rintro e w12 ⟨u, rfl, h4⟩
  have HTx := Lib.hid (text_row h4.out.1 (Ext.refl w12) (by decide) (by decide) (show digS [2] = ⟨#[50]⟩ from rfl))
  have HT12 := Lib.hid (HT11.out.ext h4.out.2)
  clear h4 HA
  go_wp2_with fail
  refine HTx.out.mono ?_
  rintro e w13 ⟨rfl, x5⟩
  have HT13 := Lib.hid (HT12.out.ext x5)
  clear x5 HTx
  go_wp2_with fail
  go_ret
  exact ⟨rfl, HT13.out.is_ext⟩
end Go.Proofs.YtldppmjjgljinaaGreatDoor

namespace Go.Proofs.YtldppmjjgljinaaGreatDoor
open Go.RowKit

theorem bytesOff_in {w : World} {v : Value} {l : List UInt8} (h : BytesIn w v l) : BytesOff w.heap.size w v l := by
  obtain ⟨a, cap, rfl, h1, h2, h3, h4⟩ := h
  refine ⟨a, cap, rfl, h1, h2, fun hp => ?_⟩
  obtain ⟨g, o, rfl, hc⟩ := h4 0 _ (List.getElem?_eq_getElem hp)
  have hlt := lt_of_cell hc
  refine ⟨g, o, rfl, by omega, hlt, fun j x hj => ?_⟩
  obtain ⟨g', o', e, hc'⟩ := h4 j x hj
  cases e
  exact hc'
theorem bytes_get {w w1 : World} {a : Option Addr} {n cap : Nat} {l : List UInt8} (h : BytesIn w (.slice a n cap) l) (x : Ext w w1) (k : Nat) (u : UInt8) (hk : l[k]? = some u) : ∃ g o, a = some ⟨g, o, none⟩ ∧ w1.cell? ⟨g, o + k, none⟩ = some (.int .u8 u.toNat) := by
  obtain ⟨a', cap', e, h1, h2, h3, h4⟩ := h
  cases e
  obtain ⟨g, o, e, hc⟩ := h4 k u hk
  exact ⟨g, o, e, (x.cell (lt_of_cell hc)).trans hc⟩
theorem row_get {w : World} {base c : Nat} {a : Option Addr} {L : List Nat} (h : w.ownsRow base 3 1 (.slice a L.length c) L.length (L.map iv)) (k x : Nat) (hx : L[k]? = some x) : ∃ g, a = some ⟨g, 0, none⟩ ∧ ∀ wr, Ext w wr → wr.cell? ⟨g, k, none⟩ = some (.int .i64 (x : Nat)) := by
  rcases h.2 with ⟨he, h0⟩ | ⟨g, cap', cur, he, hg, hh, _⟩
  · have := (List.getElem?_eq_some_iff.1 hx).1
    omega
  · cases he
    refine ⟨g, rfl, fun wr xr => ?_⟩
    have := h.cells (g := g) rfl k (iv x) (by rw [List.getElem?_map, hx]; rfl)
    rw [append_kw.add_off, Nat.zero_add] at this
    exact (xr.cell (ltB hh)).trans this
theorem mod_byte (x : UInt8) (n : Nat) : (wrap64 (x.toNat : Int)).tmod (n : Int) = ((x.toNat % n : Nat) : Int) := by
  have hx := x.toNat_lt
  rw [show wrap64 (x.toNat : Int) = (x.toNat : Int) from by unfold wrap64; omega]
  exact (Int.ofNat_tmod _ _).symm
end Go.Proofs.YtldppmjjgljinaaGreatDoor
