/- A disk's tree in plain words: nodes in the order of paths; putting in, taking out, and what stays true. No program in sight. A disk's tree in plain words: a node and all that lies within it moved to another path. No program in sight. A disk in plain words: what each effect answers and leaves; Sync, Crash, Fuse; what stays true. No program in sight. -/
import Derived.Test.YtldppmjjgljinaaGreatDoorNodes
import Derived.Test.YtldppmjjgljinaaGreatDoorBehindL
namespace Go.Proofs.YtldppmjjgljinaaGreatDoor
open Go.RowKit

def Sorted (l : Nodes) : Prop := l.Pairwise fun x y => cmpL x.1.toList y.1.toList = -1
def insS : Nodes → ByteArray → Nd → Nodes
  | [], p, n => [(p, n)]
  | (q, m) :: r, p, n => if p = q then (p, n) :: r else if cmpL p.toList q.toList = -1 then (p, n) :: (q, m) :: r else (q, m) :: insS r p n
def usedL : Nodes → Nat
  | [] => 0
  | x :: r => 64 + x.2.data.size + usedL r
def oldU (l : Nodes) (p : ByteArray) : Nat := match findA l p with | some o => 64 + o.data.size | none => 0

theorem cmp_lt_ne {a b : ByteArray} (h : cmpL a.toList b.toList = -1) : a ≠ b := fun e => by rw [e, cmpL_self] at h; cases h
theorem cmp_total {a b : ByteArray} (h : a ≠ b) (k : ¬ cmpL a.toList b.toList = -1) : cmpL b.toList a.toList = -1 := by
  rcases cmpL_vals a.toList b.toList with e | e | e
  · exact absurd e k
  · exact absurd (ba_ext (cmpL_zero _ _ e)) h
  · rw [cmpL_anti, e]
theorem Sorted.nodup {l : Nodes} (h : Sorted l) : (l.map (·.1)).Nodup := List.pairwise_map.2 (h.imp fun k => cmp_lt_ne k)
theorem ins_mem {l : Nodes} {p : ByteArray} {n : Nd} {x : ByteArray × Nd} (h : x ∈ insS l p n) : x = (p, n) ∨ x ∈ l := by
  induction l with
  | nil => simp [insS] at h; exact .inl h
  | cons y r ih =>
    obtain ⟨q, m⟩ := y
    unfold insS at h
    split at h
    · rcases List.mem_cons.1 h with h | h
      · exact .inl h
      · exact .inr (List.mem_cons_of_mem _ h)
    · split at h
      · rcases List.mem_cons.1 h with h | h
        · exact .inl h
        · exact .inr h
      · rcases List.mem_cons.1 h with h | h
        · exact .inr (by rw [h]; exact List.mem_cons_self)
        · rcases ih h with h | h
          · exact .inl h
          · exact .inr (List.mem_cons_of_mem _ h)
theorem ins_find (l : Nodes) (p : ByteArray) (n : Nd) (s : ByteArray) : findA (insS l p n) s = if s = p then some n else findA l s := by
  induction l with
  | nil =>
    unfold insS findA
    by_cases e : s = p
    · rw [if_pos e, if_pos e.symm]
    · rw [if_neg e, if_neg (Ne.symm e)]; rfl
  | cons y r ih =>
    obtain ⟨q, m⟩ := y
    unfold insS
    by_cases hpq : p = q
    · rw [if_pos hpq]
      subst hpq
      by_cases e : s = p
      · rw [if_pos e, findA, if_pos e.symm]
      · rw [if_neg e, findA, if_neg (Ne.symm e), findA, if_neg (Ne.symm e)]
    · rw [if_neg hpq]
      split
      · by_cases e : s = p
        · rw [if_pos e, findA, if_pos e.symm]
        · rw [if_neg e, findA, if_neg (Ne.symm e)]
      · rw [findA]
        by_cases e : q = s
        · rw [if_pos e, if_neg (fun e2 => hpq (e2.symm.trans e.symm)), findA, if_pos e]
        · rw [if_neg e, ih, findA, if_neg e]
theorem Sorted.ins {l : Nodes} (h : Sorted l) (p : ByteArray) (n : Nd) : Sorted (insS l p n) := by
  induction l with
  | nil => exact List.pairwise_singleton _ _
  | cons y r ih =>
    obtain ⟨q, m⟩ := y
    obtain ⟨h1, h2⟩ := List.pairwise_cons.1 h
    unfold insS
    split
    · rename_i e
      subst e
      exact List.pairwise_cons.2 ⟨h1, h2⟩
    · rename_i hne
      split
      · rename_i hlt
        refine List.pairwise_cons.2 ⟨fun z hz => ?_, h⟩
        rcases List.mem_cons.1 hz with rfl | hz
        · exact hlt
        · exact cmpL_trans _ _ _ hlt (h1 z hz)
      · rename_i hge
        refine List.pairwise_cons.2 ⟨fun z hz => ?_, ih h2⟩
        rcases ins_mem hz with rfl | hz
        · exact cmp_total hne hge
        · exact h1 z hz
theorem Sorted.drop {l : Nodes} (h : Sorted l) (p : ByteArray) : Sorted (dropA l p) := List.Pairwise.sublist List.filter_sublist h
theorem Sorted.filter {l : Nodes} (h : Sorted l) (f : ByteArray × Nd → Bool) : Sorted (l.filter f) := List.Pairwise.sublist List.filter_sublist h
theorem ins_perm {l : Nodes} {p : ByteArray} {n : Nd} (h : ∀ x ∈ l, x.1 ≠ p) : (insS l p n).Perm ((p, n) :: l) := by
  induction l with
  | nil => exact List.Perm.refl _
  | cons y r ih =>
    obtain ⟨q, m⟩ := y
    unfold insS
    rw [if_neg (Ne.symm (h (q, m) List.mem_cons_self))]
    split
    · exact List.Perm.refl _
    · exact ((ih fun x hx => h x (List.mem_cons_of_mem _ hx)).cons _).trans (List.Perm.swap _ _ _)
theorem sorted_ext {a b : Nodes} (ha : Sorted a) (hb : Sorted b) (h : a.Perm b) : a = b := by
  refine List.Perm.eq_of_pairwise (le := fun (x y : ByteArray × Nd) => cmpL x.1.toList y.1.toList = -1) (fun x y _ _ h1 h2 => ?_) ha hb h
  rw [cmpL_anti, h1] at h2
  cases h2
theorem nodup_of_keys {l : Nodes} (h : (l.map (·.1)).Nodup) : l.Nodup := (List.pairwise_map.1 h).imp fun k e => k (by rw [e])
theorem perm_of_find {a b : Nodes} (ha : (a.map (·.1)).Nodup) (hb : (b.map (·.1)).Nodup) (h : ∀ s, findA a s = findA b s) : a.Perm b := by
  refine (List.perm_ext_iff_of_nodup (nodup_of_keys ha) (nodup_of_keys hb)).2 fun x => ?_
  obtain ⟨s, n⟩ := x
  constructor
  · intro hx; exact findA_mem ((h s).symm.trans (findA_of_mem ha hx))
  · intro hx; exact findA_mem ((h s).trans (findA_of_mem hb hx))
theorem usedL_perm {a b : Nodes} (h : a.Perm b) : usedL a = usedL b := by
  induction h with
  | nil => rfl
  | cons x _ ih => show _ + usedL _ = _ + usedL _; rw [ih]
  | swap x y l => show _ + (_ + usedL _) = _ + (_ + usedL _); omega
  | trans _ _ ih1 ih2 => exact ih1.trans ih2
theorem usedL_append (a b : Nodes) : usedL (a ++ b) = usedL a + usedL b := by
  induction a with
  | nil => simp [usedL]
  | cons x r ih => show _ + usedL (r ++ b) = _ + usedL r + _; rw [ih]; omega
theorem usedL_drop_none {l : Nodes} {p : ByteArray} (h : findA l p = none) : dropA l p = l := by
  unfold dropA
  refine List.filter_eq_self.2 fun x hx => ?_
  have : x.1 ≠ p := fun e => by
    have := findA_isSome.2 (List.mem_map.2 ⟨x, hx, e⟩)
    rw [h] at this; cases this
  simpa using this
theorem drop_used {l : Nodes} (h : (l.map (·.1)).Nodup) (p : ByteArray) : usedL (dropA l p) + oldU l p = usedL l := by
  induction l with
  | nil => rfl
  | cons y r ih =>
    obtain ⟨q, m⟩ := y
    rw [List.map_cons, List.nodup_cons] at h
    unfold oldU findA
    by_cases e : q = p
    · rw [if_pos e]
      have hn : findA r p = none := by
        cases hf : findA r p with
        | none => rfl
        | some o => exact absurd (List.mem_map.2 ⟨_, findA_mem hf, e.symm⟩) h.1
      have : dropA ((q, m) :: r) p = r := by
        unfold dropA
        rw [List.filter_cons, if_neg (by simpa using e)]
        exact usedL_drop_none hn
      rw [this]
      show usedL r + (64 + m.data.size) = 64 + m.data.size + usedL r
      omega
    · rw [if_neg e]
      have : dropA ((q, m) :: r) p = (q, m) :: dropA r p := by
        unfold dropA
        rw [List.filter_cons, if_pos (by simpa using e)]
      rw [this]
      have h2 := ih h.2
      show 64 + m.data.size + usedL (dropA r p) + oldU r p = 64 + m.data.size + usedL r
      omega
theorem ins_drop (l : Nodes) (p : ByteArray) (n : Nd) (h : Sorted l) : (insS l p n).Perm ((p, n) :: dropA l p) :=
  perm_of_find (h.ins p n).nodup (by
    rw [List.map_cons, List.nodup_cons]
    refine ⟨fun hm => ?_, dropA_nodup h.nodup p⟩
    obtain ⟨y, hy, e⟩ := List.mem_map.1 hm
    have := (List.mem_filter.1 hy).2
    simp at this
    exact this e) fun s => by
    rw [ins_find, findA, findA_drop]
    by_cases e : s = p
    · rw [if_pos e, if_pos e.symm]
    · rw [if_neg e, if_neg (Ne.symm e), if_neg e]
theorem ins_used {l : Nodes} (h : Sorted l) (p : ByteArray) (n : Nd) : usedL (insS l p n) + oldU l p = usedL l + (64 + n.data.size) := by
  rw [usedL_perm (ins_drop l p n h)]
  have := drop_used h.nodup p
  show 64 + n.data.size + usedL (dropA l p) + oldU l p = _
  omega
theorem mem_used {l : Nodes} {x : ByteArray × Nd} (h : x ∈ l) : 64 + x.2.data.size ≤ usedL l := by
  induction l with
  | nil => cases h
  | cons y r ih =>
    rcases List.mem_cons.1 h with rfl | h
    · show _ ≤ 64 + x.2.data.size + usedL r; omega
    · have := ih h; show _ ≤ 64 + y.2.data.size + usedL r; omega
theorem len_used (l : Nodes) : 64 * l.length ≤ usedL l := by
  induction l with
  | nil => exact Nat.le_refl _
  | cons y r ih => show 64 * (r.length + 1) ≤ 64 + y.2.data.size + usedL r; omega

def kindAt (l : Nodes) (p : ByteArray) : Int := if p.toList.isEmpty then 2 else match findA l p with | some n => n.kind | none => 0
def dirE (l : Nodes) (p : ByteArray) : Int := if kindAt l p = 0 then 5 else if kindAt l p = 2 then 0 else 12
def homeE (l : Nodes) (p : ByteArray) : Int := dirE l (parentR p)
def fileE (l : Nodes) (p : ByteArray) : Int := match findA l p with | some n => if n.kind = 2 then 12 else if n.kind = 3 then 11 else 0 | none => 0

/-- What a disk's tree is. -/
structure TreeOk (l : Nodes) (room : Nat) : Prop where
  sorted : Sorted l
  may : ∀ x ∈ l, mayB x.1 = true
  kind : ∀ x ∈ l, x.2.kind = 1 ∨ x.2.kind = 2 ∨ x.2.kind = 3
  home : ∀ x ∈ l, kindAt l (parentS x.1) = 2
  used : usedL l ≤ room
  target : ∀ x ∈ l, x.2.target.size ≤ 160

theorem mayB_size {s : ByteArray} (h : mayB s = true) : s.size ≤ 160 := by
  unfold mayB at h
  simp only [Bool.and_eq_true, decide_eq_true_eq] at h
  exact h.1.1
theorem empty_of {s : ByteArray} : s.toList.isEmpty = true ↔ s.toList = [] := by cases s.toList <;> simp
theorem mayB_nonempty {s : ByteArray} (h : mayB s = true) : s.toList.isEmpty = false := by
  cases e : s.toList.isEmpty with
  | false => rfl
  | true => exact absurd (empty_of.1 e) (mayB_ne h)
theorem parentR_may {s : ByteArray} (h : mayB s = true) : parentR s = parentS s := by unfold parentR; rw [if_pos h]
theorem kindAt_two {l : Nodes} {p : ByteArray} (h : kindAt l p = 2) (hp : p.toList.isEmpty = false) : ∃ o, findA l p = some o ∧ o.kind = 2 := by
  unfold kindAt at h
  rw [hp] at h
  cases hf : findA l p with
  | none => rw [hf] at h; cases h
  | some o => rw [hf] at h; exact ⟨o, rfl, h⟩
theorem within_of_form {p d : ByteArray} (hp : mayB p = true) (hd : mayB d = true) {r : List UInt8} (h : p.toList = d.toList ++ 47 :: r) : withinB p d = true := by
  unfold withinB
  rw [hp, hd, (hasPrefix_iff _ _).2 ⟨r, by rw [h]; simp⟩]
  simp
/-- The parent of what lies within a directory: that directory, or what lies within it. -/
theorem parent_split {p : ByteArray} {d r : List UInt8} (h : p.toList = d ++ 47 :: r) : (parentS p).toList = d ∨ ∃ r', (parentS p).toList = d ++ 47 :: r' ∧ (parentS p).toList.length < p.toList.length := by
  rw [(split_toList p).1, h]
  rcases last_slash r with hr | ⟨c, e, rfl, he⟩
  · rw [aheadL_at d r hr]; exact .inl rfl
  · refine .inr ⟨c, ?_⟩
    have : d ++ 47 :: (c ++ 47 :: e) = (d ++ 47 :: c) ++ 47 :: e := by simp
    rw [this, aheadL_at _ e he]
    refine ⟨rfl, ?_⟩
    simp
theorem parent_form {p : ByteArray} (h : (parentS p).toList ≠ []) : ∃ b, p.toList = (parentS p).toList ++ 47 :: b := by
  rw [(split_toList p).1] at h ⊢
  rcases last_slash p.toList with hn | ⟨a, b, e, hb⟩
  · rw [aheadL_no hn] at h; exact absurd rfl h
  · rw [e, aheadL_at a b hb]; exact ⟨b, rfl⟩
theorem within_parent {p d : ByteArray} (hp : mayB p = true) (hd : mayB d = true) (h : parentS p = d) : withinB p d = true := by
  obtain ⟨b, hb⟩ := parent_form (p := p) (by rw [h]; exact mayB_ne hd)
  exact within_of_form hp hd (by rw [hb, h])
/-- What something lies within is a directory. -/
theorem TreeOk.inside {l : Nodes} {room : Nat} (T : TreeOk l room) {d : ByteArray} (hd : mayB d = true) : ∀ (k : Nat) (x : ByteArray × Nd), x ∈ l → x.1.toList.length ≤ k → withinB x.1 d = true → ∃ o, findA l d = some o ∧ o.kind = 2 := by
  intro k
  induction k with
  | zero =>
    intro x hx hk hw
    exact absurd (List.length_eq_zero_iff.1 (by omega)) (mayB_ne (T.may x hx))
  | succ k ih =>
    intro x hx hk hw
    obtain ⟨r, hr⟩ := within_form hd hw
    have hh := T.home x hx
    rcases parent_split hr with h | ⟨r', h, hlt⟩
    · have e : parentS x.1 = d := ba_ext h
      rw [e] at hh
      exact kindAt_two hh (mayB_nonempty hd)
    · have hne : (parentS x.1).toList.isEmpty = false := by rw [h]; simp
      obtain ⟨o, ho, _⟩ := kindAt_two hh hne
      have hm := findA_mem ho
      exact ih _ hm (by show (parentS x.1).toList.length ≤ k; omega) (within_of_form (T.may _ hm) hd h)
theorem kindAt_congr {l m : Nodes} {p : ByteArray} (h : findA l p = findA m p) : kindAt l p = kindAt m p := by unfold kindAt; rw [h]
theorem homeE_zero {l : Nodes} {p : ByteArray} (hp : mayB p = true) (h : homeE l p = 0) : kindAt l (parentS p) = 2 := by
  unfold homeE dirE at h
  rw [parentR_may hp] at h
  split at h
  · cases h
  · split at h
    · assumption
    · cases h
/-- The parent is another path. -/
theorem parent_ne {p : ByteArray} (hp : mayB p = true) : parentS p ≠ p := by
  intro e
  by_cases hn : (parentS p).toList = []
  · rw [e] at hn; exact mayB_ne hp hn
  · obtain ⟨b, hb⟩ := parent_form hn
    have := congrArg List.length hb
    rw [e] at this
    simp at this
theorem TreeOk.find_may {l : Nodes} {room : Nat} (T : TreeOk l room) {p : ByteArray} {n : Nd} (h : findA l p = some n) : mayB p = true := T.may _ (findA_mem h)
theorem TreeOk.put {l : Nodes} {room : Nat} (T : TreeOk l room) {p : ByteArray} {n : Nd} (hp : mayB p = true) (hh : kindAt l (parentS p) = 2) (hk : n.kind = 1 ∨ n.kind = 2 ∨ n.kind = 3) (ho : ∀ o, findA l p = some o → o.kind ≠ 2)
    (hu : usedL (insS l p n) ≤ room) (ht : n.target.size ≤ 160) : TreeOk (insS l p n) room := by
  have other : ∀ q, q ≠ p → kindAt (insS l p n) q = kindAt l q := fun q hq => kindAt_congr (by rw [ins_find, if_neg hq])
  have ne : ∀ q, kindAt l q = 2 → q ≠ p := fun q hq e => by
    subst e
    obtain ⟨o, h1, h2⟩ := kindAt_two hq (mayB_nonempty hp)
    exact ho o h1 h2
  refine ⟨T.sorted.ins p n, fun x hx => ?_, fun x hx => ?_, fun x hx => ?_, hu, fun x hx => ?_⟩
  · rcases ins_mem hx with rfl | hx
    · exact hp
    · exact T.may x hx
  · rcases ins_mem hx with rfl | hx
    · exact hk
    · exact T.kind x hx
  · rcases ins_mem hx with rfl | hx
    · rw [other _ (parent_ne hp)]; exact hh
    · rw [other _ (ne _ (T.home x hx))]; exact T.home x hx
  · rcases ins_mem hx with rfl | hx
    · exact ht
    · exact T.target x hx
theorem mem_drop {l : Nodes} {p : ByteArray} {x : ByteArray × Nd} : x ∈ dropA l p ↔ x ∈ l ∧ x.1 ≠ p := by
  unfold dropA
  rw [List.mem_filter]
  simp
theorem TreeOk.drop {l : Nodes} {room : Nat} (T : TreeOk l room) {p : ByteArray} (hp : mayB p = true) (hw : ∀ x ∈ l, withinB x.1 p = false) : TreeOk (dropA l p) room := by
  refine ⟨T.sorted.drop p, fun x hx => T.may x (mem_drop.1 hx).1, fun x hx => T.kind x (mem_drop.1 hx).1, fun x hx => ?_, ?_, fun x hx => T.target x (mem_drop.1 hx).1⟩
  · obtain ⟨h1, _⟩ := mem_drop.1 hx
    have hne : parentS x.1 ≠ p := fun e => by
      have := within_parent (T.may x h1) hp e
      rw [hw x h1] at this
      cases this
    exact (kindAt_congr (m := l) (by rw [findA_drop, if_neg hne])).trans (T.home x h1)
  · have := drop_used T.sorted.nodup p
    have := T.used
    omega
end Go.Proofs.YtldppmjjgljinaaGreatDoor

namespace Go.Proofs.YtldppmjjgljinaaGreatDoor
open Go.RowKit

def newP (a b k : ByteArray) : ByteArray := b ++ k.extract a.size k.size
def movedB (a k : ByteArray) : Bool := decide (k = a) || withinB k a
def newX (a b : ByteArray) (x : ByteArray × Nd) : ByteArray × Nd := (newP a b x.1, x.2)
def movL (l : Nodes) (a : ByteArray) : Nodes := l.filter fun x => movedB a x.1
def restL (l : Nodes) (a b : ByteArray) : Nodes := (dropA l b).filter fun x => !movedB a x.1
def moveL (l : Nodes) (a b : ByteArray) : Nodes := ((movL l a).map (newX a b)).foldl (fun o x => insS o x.1 x.2) (restL l a b)
/-- One step of the program's moving. -/
def stepM (a b : ByteArray) (cur : Nodes) (k : ByteArray) : Nodes := dropA ((newP a b k, (findA cur k).getD nd0) :: dropA cur (newP a b k)) k

theorem newP_toList (a b k : ByteArray) : (newP a b k).toList = b.toList ++ k.toList.drop a.size := by
  unfold newP
  rw [toList_append, toList_extract, List.take_of_length_le (by simp [len_toList])]
theorem moved_form {a k : ByteArray} (ha : mayB a = true) (h : movedB a k = true) : ∃ t, k.toList = a.toList ++ t ∧ (k = a ∧ t = [] ∨ ∃ r, t = 47 :: r ∧ withinB k a = true) := by
  unfold movedB at h
  simp only [Bool.or_eq_true, decide_eq_true_eq] at h
  rcases h with rfl | h
  · exact ⟨[], by simp, .inl ⟨rfl, rfl⟩⟩
  · obtain ⟨r, hr⟩ := within_form ha h
    exact ⟨47 :: r, hr, .inr ⟨r, rfl, h⟩⟩
theorem newP_form {a b k : ByteArray} {t : List UInt8} (h : k.toList = a.toList ++ t) : (newP a b k).toList = b.toList ++ t := by
  rw [newP_toList, h, ← len_toList a, List.drop_left]
theorem newP_self (a b : ByteArray) : newP a b a = b := ba_ext (by rw [newP_form (t := []) (by simp)]; simp)
theorem newP_inj {a b k j : ByteArray} (ha : mayB a = true) (hk : movedB a k = true) (hj : movedB a j = true) (h : newP a b k = newP a b j) : k = j := by
  obtain ⟨t, e1, _⟩ := moved_form ha hk
  obtain ⟨u, e2, _⟩ := moved_form ha hj
  have := congrArg ByteArray.toList h
  rw [newP_form e1, newP_form e2] at this
  exact ba_ext (by rw [e1, e2, List.append_cancel_left this])

/-- What must be for a move. -/
structure MoveOk (l : Nodes) (room : Nat) (a b : ByteArray) : Prop where
  tree : TreeOk l room
  ma : mayB a = true
  mb : mayB b = true
  ne : a ≠ b
  out : withinB b a = false
  is : (findA l a).isSome = true
  home : kindAt l (parentS b) = 2
  dirs : ∀ o, findA l b = some o → o.kind ≠ 2
  may : ∀ x ∈ l, withinB x.1 a = true → mayB (newP a b x.1) = true

theorem mem_mov {l : Nodes} {a : ByteArray} {x : ByteArray × Nd} : x ∈ movL l a ↔ x ∈ l ∧ movedB a x.1 = true := by unfold movL; rw [List.mem_filter]
theorem mem_rest {l : Nodes} {a b : ByteArray} {x : ByteArray × Nd} : x ∈ restL l a b ↔ x ∈ l ∧ x.1 ≠ b ∧ movedB a x.1 = false := by
  unfold restL; rw [List.mem_filter, mem_drop, and_assoc]; simp
theorem MoveOk.notb {l : Nodes} {room : Nat} {a b : ByteArray} (M : MoveOk l room a b) : movedB a b = false := by
  unfold movedB
  rw [M.out, decide_eq_false (Ne.symm M.ne)]; rfl
theorem MoveOk.newMay {l : Nodes} {room : Nat} {a b : ByteArray} (M : MoveOk l room a b) {x : ByteArray × Nd} (h : x ∈ movL l a) : mayB (newP a b x.1) = true := by
  obtain ⟨h1, h2⟩ := mem_mov.1 h
  obtain ⟨t, ht, h3⟩ := moved_form M.ma h2
  rcases h3 with ⟨e, _⟩ | ⟨r, _, hw⟩
  · rw [e, newP_self]; exact M.mb
  · exact M.may x h1 hw
theorem MoveOk.fresh {l : Nodes} {room : Nat} {a b : ByteArray} (M : MoveOk l room a b) {x y : ByteArray × Nd} (hx : x ∈ movL l a) (hy : y ∈ l) (hb : y.1 ≠ b) : y.1 ≠ newP a b x.1 := by
  obtain ⟨h1, h2⟩ := mem_mov.1 hx
  obtain ⟨t, ht, h3⟩ := moved_form M.ma h2
  rcases h3 with ⟨e, _⟩ | ⟨r, rfl, hw⟩
  · rw [e, newP_self]; exact hb
  · intro e
    have hf := newP_form (b := b) ht
    rw [← e] at hf
    obtain ⟨o, ho, hk⟩ := M.tree.inside M.mb _ y hy (Nat.le_refl _) (within_of_form (M.tree.may y hy) M.mb hf)
    exact M.dirs o ho hk
theorem mov_ne {l : Nodes} {room : Nat} {a b : ByteArray} (M : MoveOk l room a b) {x : ByteArray × Nd} (hx : x ∈ movL l a) : x.1 ≠ b := fun e => by
  have := (mem_mov.1 hx).2
  rw [e, M.notb] at this
  cases this
theorem keys_nodup_map {a b : ByteArray} {N : Nodes} (ha : mayB a = true) (h : (N.map (·.1)).Nodup) (hm : ∀ x ∈ N, movedB a x.1 = true) : ((N.map (newX a b)).map (·.1)).Nodup := by
  have h' := List.pairwise_map.1 h
  rw [List.map_map]
  refine List.pairwise_map.2 ?_
  refine List.Pairwise.imp_of_mem ?_ h'
  intro x y hx hy hne e
  exact hne (newP_inj ha (hm x hx) (hm y hy) e)
/-- Behind j steps. -/
theorem MoveOk.keys {l : Nodes} {room : Nat} {a b : ByteArray} (M : MoveOk l room a b) {P R : Nodes} (h : (P ++ R).Perm (movL l a)) : ((P.map (newX a b) ++ (R ++ restL l a b)).map (·.1)).Nodup := by
  have hn : ((P ++ R).map (·.1)).Nodup := (h.map _).nodup_iff.2 ((M.tree.sorted.filter _).nodup)
  have hin : ∀ x, x ∈ P ∨ x ∈ R → x ∈ movL l a := fun x hx => h.mem_iff.1 (List.mem_append.2 hx)
  rw [List.map_append] at hn
  obtain ⟨n1, n2, n3⟩ := List.nodup_append.1 hn
  rw [List.map_append, List.nodup_append]
  refine ⟨keys_nodup_map M.ma n1 fun x hx => (mem_mov.1 (hin x (.inl hx))).2, ?_, ?_⟩
  · rw [List.map_append, List.nodup_append]
    refine ⟨n2, ((M.tree.sorted.drop b).filter _).nodup, ?_⟩
    intro k hk j hj e
    obtain ⟨x, hx, rfl⟩ := List.mem_map.1 hk
    obtain ⟨y, hy, rfl⟩ := List.mem_map.1 hj
    have h1 := (mem_mov.1 (hin x (.inr hx))).2
    have h2 := (mem_rest.1 hy).2.2
    rw [e, h2] at h1
    cases h1
  · intro k hk j hj e
    obtain ⟨x', hx', rfl⟩ := List.mem_map.1 hk
    obtain ⟨x, hx, rfl⟩ := List.mem_map.1 hx'
    obtain ⟨y, hy, rfl⟩ := List.mem_map.1 hj
    rcases List.mem_append.1 hy with hy | hy
    · exact M.fresh (hin x (.inl hx)) (mem_mov.1 (hin y (.inr hy))).1 (mov_ne M (hin y (.inr hy))) e.symm
    · exact M.fresh (hin x (.inl hx)) (mem_rest.1 hy).1 (mem_rest.1 hy).2.1 e.symm
theorem drop_none {l : Nodes} {p : ByteArray} (h : p ∉ l.map (·.1)) : dropA l p = l := by
  unfold dropA
  refine List.filter_eq_self.2 fun x hx => ?_
  have : x.1 ≠ p := fun e => h (List.mem_map.2 ⟨x, hx, e⟩)
  simpa using this
theorem dropA_append (l m : Nodes) (p : ByteArray) : dropA (l ++ m) p = dropA l p ++ dropA m p := by unfold dropA; rw [List.filter_append]
theorem dropA_cons_self (p : ByteArray) (n : Nd) (l : Nodes) : dropA ((p, n) :: l) p = dropA l p := by unfold dropA; rw [List.filter_cons, if_neg (by simp)]
theorem dropA_cons_ne {p q : ByteArray} (n : Nd) (l : Nodes) (h : q ≠ p) : dropA ((q, n) :: l) p = (q, n) :: dropA l p := by unfold dropA; rw [List.filter_cons, if_pos (by simpa using h)]
theorem snoc_perm (a b : ByteArray) (x : ByteArray × Nd) (P Q : Nodes) : ((P ++ [x]).map (newX a b) ++ Q).Perm (newX a b x :: (P.map (newX a b) ++ Q)) := by
  rw [List.map_append]
  simp only [List.map_cons, List.map_nil, List.append_assoc, List.singleton_append]
  exact List.perm_middle
theorem MoveOk.step {l : Nodes} {room : Nat} {a b : ByteArray} (M : MoveOk l room a b) {P R cur : Nodes} {x : ByteArray × Nd} (h : (P ++ x :: R).Perm (movL l a)) (hc : cur.Perm (P.map (newX a b) ++ (x :: R ++ restL l a b))) :
    findA cur x.1 = some x.2 ∧ (stepM a b cur x.1).Perm ((P ++ [x]).map (newX a b) ++ (R ++ restL l a b)) := by
  have k1 := M.keys h
  have k2 := M.keys (P := P ++ [x]) (R := R) (by simpa using h)
  have hcn : (cur.map (·.1)).Nodup := (hc.map _).nodup_iff.2 k1
  have hxm : x ∈ movL l a := h.mem_iff.1 (by simp)
  have hfx : findA cur x.1 = some x.2 := findA_of_mem hcn (hc.mem_iff.2 (by simp))
  have hnx : x.1 ≠ newP a b x.1 := M.fresh hxm (mem_mov.1 hxm).1 (mov_ne M hxm)
  refine ⟨hfx, ?_⟩
  have hnew : newP a b x.1 ∉ cur.map (·.1) := fun hm => by
    have hm2 := ((hc.map (·.1)).mem_iff).1 hm
    have k3 : (newP a b x.1 :: ((P.map (newX a b) ++ (R ++ restL l a b)).map (·.1))).Nodup := by
      have := (snoc_perm a b x P (R ++ restL l a b)).map (·.1)
      exact this.nodup_iff.1 k2
    rw [List.nodup_cons] at k3
    refine k3.1 ?_
    rw [List.map_append, List.mem_append] at hm2 ⊢
    rcases hm2 with h | h
    · exact .inl h
    · rw [List.cons_append, List.map_cons, List.mem_cons] at h
      rcases h with h | h
      · exact absurd h.symm hnx
      · exact .inr h
  unfold stepM
  rw [hfx, Option.getD_some, drop_none hnew, dropA_cons_ne _ _ (Ne.symm hnx)]
  have hd : (dropA cur x.1).Perm (P.map (newX a b) ++ (R ++ restL l a b)) := by
    have h1 : (dropA cur x.1).Perm (dropA (P.map (newX a b) ++ (x :: R ++ restL l a b)) x.1) := hc.filter _
    refine h1.trans ?_
    have hn : x.1 ∉ (P.map (newX a b)).map (·.1) ∧ x.1 ∉ (R ++ restL l a b).map (·.1) := by
      rw [List.map_append, List.nodup_append, List.cons_append, List.map_cons, List.nodup_cons] at k1
      exact ⟨fun hm => k1.2.2 _ hm _ (List.mem_cons_self) rfl, k1.2.1.1⟩
    rw [dropA_append, drop_none hn.1, List.cons_append]
    obtain ⟨xk, xn⟩ := x
    rw [dropA_cons_self, drop_none hn.2]
  exact (hd.cons _).trans (snoc_perm a b x P _).symm
theorem foldl_ins_perm : ∀ (N B : Nodes), ((N ++ B).map (·.1)).Nodup → (N.foldl (fun o x => insS o x.1 x.2) B).Perm (N ++ B)
  | [], _, _ => List.Perm.refl _
  | x :: N, B, h => by
    have hx : ∀ y ∈ B, y.1 ≠ x.1 := fun y hy e => by
      rw [List.cons_append, List.map_cons, List.nodup_cons] at h
      exact h.1 (List.mem_map.2 ⟨y, List.mem_append.2 (.inr hy), e⟩)
    have hp : (N ++ insS B x.1 x.2).Perm (x :: (N ++ B)) := ((ins_perm hx).append_left N).trans List.perm_middle
    refine (foldl_ins_perm N (insS B x.1 x.2) ?_).trans hp
    exact ((hp.map (·.1)).nodup_iff).2 h
theorem foldl_ins_sorted : ∀ (N B : Nodes), Sorted B → Sorted (N.foldl (fun o x => insS o x.1 x.2) B)
  | [], _, h => h
  | x :: N, _, h => foldl_ins_sorted N _ (h.ins x.1 x.2)
theorem MoveOk.perm {l : Nodes} {room : Nat} {a b : ByteArray} (M : MoveOk l room a b) : (moveL l a b).Perm ((movL l a).map (newX a b) ++ restL l a b) := by
  refine foldl_ins_perm _ _ ?_
  have := M.keys (P := movL l a) (R := []) (by simp)
  simpa using this
theorem MoveOk.sorted {l : Nodes} {room : Nat} {a b : ByteArray} (M : MoveOk l room a b) : Sorted (moveL l a b) := foldl_ins_sorted _ _ ((M.tree.sorted.drop b).filter _)
theorem usedL_map (a b : ByteArray) (N : Nodes) : usedL (N.map (newX a b)) = usedL N := by
  induction N with
  | nil => rfl
  | cons x r ih => show 64 + x.2.data.size + usedL (r.map (newX a b)) = _; rw [ih]; rfl
theorem MoveOk.used {l : Nodes} {room : Nat} {a b : ByteArray} (M : MoveOk l room a b) : usedL (moveL l a b) = usedL (dropA l b) := by
  rw [usedL_perm M.perm, usedL_append, usedL_map]
  have h := List.filter_append_perm (fun x : ByteArray × Nd => movedB a x.1) (dropA l b)
  rw [← usedL_perm h, usedL_append]
  have : (dropA l b).filter (fun x => movedB a x.1) = movL l a := by
    unfold dropA movL
    rw [List.filter_filter]
    refine List.filter_congr fun x hx => ?_
    cases hm : movedB a x.1 with
    | false => rfl
    | true =>
      have : x.1 ≠ b := fun e => by rw [e, M.notb] at hm; cases hm
      simpa using this
  rw [this]
  rfl
theorem MoveOk.find_new {l : Nodes} {room : Nat} {a b : ByteArray} (M : MoveOk l room a b) {x : ByteArray × Nd} (hx : x ∈ movL l a) : findA (moveL l a b) (newP a b x.1) = some x.2 :=
  findA_of_mem M.sorted.nodup (M.perm.mem_iff.2 (List.mem_append.2 (.inl (List.mem_map.2 ⟨x, hx, rfl⟩))))
theorem MoveOk.find_rest {l : Nodes} {room : Nat} {a b : ByteArray} (M : MoveOk l room a b) {x : ByteArray × Nd} (hx : x ∈ restL l a b) : findA (moveL l a b) x.1 = some x.2 :=
  findA_of_mem M.sorted.nodup (M.perm.mem_iff.2 (List.mem_append.2 (.inr hx)))
theorem kindAt_some {l : Nodes} {p : ByteArray} {o : Nd} (h : findA l p = some o) (hk : o.kind = 2) : kindAt l p = 2 := by
  unfold kindAt
  split
  · rfl
  · rw [h]; exact hk
theorem kindAt_nil {l : Nodes} {p : ByteArray} (h : p.toList = []) : kindAt l p = 2 := by unfold kindAt; rw [h]; rfl
/-- A parent that is no moved path, and not the goal, stays. -/
theorem MoveOk.stays {l : Nodes} {room : Nat} {a b q : ByteArray} (M : MoveOk l room a b) (h : kindAt l q = 2) (hm : movedB a q = false) : kindAt (moveL l a b) q = 2 := by
  by_cases hq : q.toList = []
  · exact kindAt_nil hq
  · obtain ⟨o, ho, hk⟩ := kindAt_two h (by cases e : q.toList with | nil => exact absurd e hq | cons _ _ => rfl)
    have hb : q ≠ b := fun e => M.dirs o (e ▸ ho) hk
    exact kindAt_some (M.find_rest (mem_rest.2 ⟨findA_mem ho, hb, hm⟩)) hk
theorem withinB_trans {p q d : ByteArray} (hp : mayB p = true) (hd : mayB d = true) (hq : mayB q = true) (h1 : withinB p q = true) (h2 : withinB q d = true) : withinB p d = true := by
  obtain ⟨r, hr⟩ := within_form hq h1
  obtain ⟨t, ht⟩ := within_form hd h2
  exact within_of_form hp hd (r := t ++ 47 :: r) (by rw [hr, ht]; simp)
theorem parent_moved {a y : ByteArray} (ha : mayB a = true) (hy : mayB y = true) (hp : mayB (parentS y) = true) (h : movedB a (parentS y) = true) : movedB a y = true := by
  have hw : withinB y (parentS y) = true := within_parent hy hp rfl
  unfold movedB at h ⊢
  simp only [Bool.or_eq_true, decide_eq_true_eq] at h ⊢
  rcases h with h | h
  · rw [h] at hw; exact .inr hw
  · exact .inr (withinB_trans hy ha hp hw h)
theorem ne_empty {s : ByteArray} (h : s.toList ≠ []) : s.toList.isEmpty = false := by cases e : s.toList with | nil => exact absurd e h | cons _ _ => rfl
theorem MoveOk.parMay {l : Nodes} {room : Nat} {a b q : ByteArray} (M : MoveOk l room a b) (h : kindAt l q = 2) (hm : movedB a q = true) : mayB q = true := by
  by_cases hn : q.toList = []
  · exfalso
    obtain ⟨u, hu, _⟩ := moved_form M.ma hm
    rw [hn] at hu
    exact mayB_ne M.ma (List.append_eq_nil_iff.1 hu.symm).1
  · obtain ⟨o, ho, _⟩ := kindAt_two h (ne_empty hn)
    exact M.tree.find_may ho
/-- Within what is moved: the parent of the new path is the new path of the parent. -/
theorem MoveOk.homeIn {l : Nodes} {room : Nat} {a b : ByteArray} (M : MoveOk l room a b) {y : ByteArray × Nd} (h1 : y ∈ l) {r : List UInt8} (ht : y.1.toList = a.toList ++ 47 :: r) : kindAt (moveL l a b) (parentS (newP a b y.1)) = 2 := by
  have hnf := newP_form (b := b) ht
  have hpne : (parentS y.1).toList ≠ [] := by
    rcases parent_split ht with h | ⟨r', h, _⟩
    · rw [h]; exact mayB_ne M.ma
    · rw [h]; simp
  obtain ⟨o, ho, hk⟩ := kindAt_two (M.tree.home y h1) (ne_empty hpne)
  have hpm := M.tree.find_may ho
  have hmv : movedB a (parentS y.1) = true := by
    unfold movedB
    simp only [Bool.or_eq_true, decide_eq_true_eq]
    rcases parent_split ht with h | ⟨r', h, _⟩
    · exact .inl (ba_ext h)
    · exact .inr (within_of_form hpm M.ma h)
  have he : parentS (newP a b y.1) = newP a b (parentS y.1) := by
    refine ba_ext ?_
    rw [(split_toList (newP a b y.1)).1, hnf]
    have hyp := (split_toList y.1).1
    rw [ht] at hyp
    rcases last_slash r with hr | ⟨c, e, hce, he⟩
    · rw [aheadL_at _ r hr] at hyp ⊢
      rw [newP_form (a := a) (b := b) (t := []) (by rw [hyp]; simp)]; simp
    · rw [hce] at hyp ⊢
      have e1 : b.toList ++ 47 :: (c ++ 47 :: e) = (b.toList ++ 47 :: c) ++ 47 :: e := by simp
      have e2 : a.toList ++ 47 :: (c ++ 47 :: e) = (a.toList ++ 47 :: c) ++ 47 :: e := by simp
      rw [e1, aheadL_at _ e he]
      rw [e2, aheadL_at _ e he] at hyp
      rw [newP_form (a := a) (b := b) hyp]
  rw [he]
  exact kindAt_some (M.find_new (x := (parentS y.1, o)) (mem_mov.2 ⟨findA_mem ho, hmv⟩)) hk
theorem MoveOk.ok {l : Nodes} {room : Nat} {a b : ByteArray} (M : MoveOk l room a b) : TreeOk (moveL l a b) room := by
  have cases : ∀ x ∈ moveL l a b, (∃ y ∈ movL l a, x = newX a b y) ∨ x ∈ restL l a b := fun x hx => by
    rcases List.mem_append.1 (M.perm.mem_iff.1 hx) with h | h
    · obtain ⟨y, hy, rfl⟩ := List.mem_map.1 h; exact .inl ⟨y, hy, rfl⟩
    · exact .inr h
  refine ⟨M.sorted, fun x hx => ?_, fun x hx => ?_, fun x hx => ?_, ?_, fun x hx => ?_⟩
  · rcases cases x hx with ⟨y, hy, rfl⟩ | h
    · exact M.newMay hy
    · exact M.tree.may x (mem_rest.1 h).1
  · rcases cases x hx with ⟨y, hy, rfl⟩ | h
    · exact M.tree.kind y (mem_mov.1 hy).1
    · exact M.tree.kind x (mem_rest.1 h).1
  · rcases cases x hx with ⟨y, hy, rfl⟩ | h
    · show kindAt (moveL l a b) (parentS (newP a b y.1)) = 2
      obtain ⟨h1, h2⟩ := mem_mov.1 hy
      obtain ⟨t, ht, h3⟩ := moved_form M.ma h2
      rcases h3 with ⟨e, _⟩ | ⟨r, rfl, hw⟩
      · rw [e, newP_self]
        refine M.stays M.home ?_
        cases hm : movedB a (parentS b) with
        | false => rfl
        | true =>
          have hpm : mayB (parentS b) = true := M.parMay M.home hm
          have := parent_moved M.ma M.mb hpm hm
          rw [M.notb] at this
          cases this
      · exact M.homeIn h1 ht
    · obtain ⟨h1, h2, h3⟩ := mem_rest.1 h
      refine M.stays (M.tree.home x h1) ?_
      cases hm : movedB a (parentS x.1) with
      | false => rfl
      | true =>
        have hpm : mayB (parentS x.1) = true := M.parMay (M.tree.home x h1) hm
        have := parent_moved M.ma (M.tree.may x h1) hpm hm
        rw [h3] at this
        cases this
  · rw [M.used]
    have := drop_used M.tree.sorted.nodup b
    have := M.tree.used
    omega
  · rcases cases x hx with ⟨y, hy, rfl⟩ | h
    · exact M.tree.target y (mem_mov.1 hy).1
    · exact M.tree.target x (mem_rest.1 h).1
end Go.Proofs.YtldppmjjgljinaaGreatDoor

namespace Go.Proofs.YtldppmjjgljinaaGreatDoor
open Go.RowKit

inductive Eff where
  | write (p data : ByteArray) (time : Int)
  | add (p data : ByteArray)
  | mkdir (p : ByteArray)
  | link (p target : ByteArray) (time : Int)
  | rename (p q : ByteArray)
  | remove (p : ByteArray)

def emp : ByteArray := ⟨#[]⟩
def cutTo (most : Nat) (d : ByteArray) : ByteArray := d.extract 0 (min most d.size)
def putE (l : Nodes) (room : Nat) (p : ByteArray) (n : Nd) : Int × Nodes := if usedL (insS l p n) ≤ room then (0, insS l p n) else (7, l)
def layE (l : Nodes) (room : Nat) (p : ByteArray) (n : Nd) : Int × Nodes :=
  if homeE l p = 0 then (if (findA l p).isSome then (6, l) else putE l room p n) else (homeE l p, l)
def writeE (l : Nodes) (room : Nat) (p data : ByteArray) (t : Int) : Int × Nodes :=
  if homeE l p = 0 then (if fileE l p = 0 then putE l room p ⟨1, data, emp, t⟩ else (fileE l p, l)) else (homeE l p, l)
def addE (l : Nodes) (room : Nat) (p data : ByteArray) : Int × Nodes :=
  match findA l p with
  | none => (5, l)
  | some n => if fileE l p = 0 then putE l room p ⟨n.kind, n.data ++ data, n.target, n.time⟩ else (fileE l p, l)
def removeE (l : Nodes) (p : ByteArray) : Int × Nodes :=
  if (findA l p).isSome then (if l.any fun x => withinB x.1 p then (22, l) else (0, dropA l p)) else (5, l)
/-- Is a directory at the goal, or something while a directory is moved? -/
def dirsB (l : Nodes) (a b : ByteArray) : Bool := match findA l b with | some o => decide (o.kind = 2) || decide (((findA l a).getD nd0).kind = 2) | none => false
def renameE (l : Nodes) (a b : ByteArray) : Int × Nodes :=
  if (findA l a).isSome then
    (if homeE l b = 0 then (if dirsB l a b then (12, l) else if l.all fun x => !withinB x.1 a || mayB (newP a b x.1) then (0, moveL l a b) else (10, l)) else (homeE l b, l))
  else (5, l)
/-- What an effect answers, and what it makes of a tree, of its data so many bytes alone. -/
def effE (l : Nodes) (room most : Nat) : Eff → Int × Nodes
  | .write p d t => writeE l room p (cutTo most d) t
  | .add p d => addE l room p (cutTo most d)
  | .mkdir p => layE l room p ⟨2, emp, emp, 0⟩
  | .link p g t => layE l room p ⟨3, emp, g, t⟩
  | .rename p q => renameE l p q
  | .remove p => removeE l p
def Eff.paths : Eff → List ByteArray
  | .write p _ _ => [p]
  | .add p _ => [p]
  | .mkdir p => [p]
  | .link p _ _ => [p]
  | .rename p q => [p, q]
  | .remove p => [p]
def clockB (t : Int) : Bool := decide (0 ≤ t) && decide (t ≤ 4294967295)
def Eff.right : Eff → Bool
  | .write _ _ t => clockB t
  | .add _ _ => true
  | .mkdir _ => true
  | .link _ g t => clockB t && decide (0 < g.size) && decide (g.size ≤ 160)
  | .rename p q => !decide (p = q) && !Lib.hasPrefix q.toList (p.toList ++ [47])
  | .remove _ => true
/-- The paths may be, and so may the arguments. -/
structure EffOk (x : Eff) : Prop where
  paths : ∀ p ∈ x.paths, mayB p = true
  right : x.right = true

theorem putE_ok {l : Nodes} {room : Nat} (T : TreeOk l room) {p : ByteArray} {n : Nd} (hp : mayB p = true) (hh : kindAt l (parentS p) = 2) (hk : n.kind = 1 ∨ n.kind = 2 ∨ n.kind = 3) (ho : ∀ o, findA l p = some o → o.kind ≠ 2) (ht : n.target.size ≤ 160) :
    TreeOk (putE l room p n).2 room := by
  unfold putE
  split
  · exact T.put hp hh hk ho ‹_› ht
  · exact T
theorem fileE_zero {l : Nodes} {p : ByteArray} (h : fileE l p = 0) : ∀ o, findA l p = some o → o.kind ≠ 2 ∧ o.kind ≠ 3 := by
  intro o ho
  unfold fileE at h
  rw [ho] at h
  dsimp only at h
  split at h
  · cases h
  · split at h
    · cases h
    · exact ⟨‹_›, ‹_›⟩
theorem layE_ok {l : Nodes} {room : Nat} (T : TreeOk l room) {p : ByteArray} {n : Nd} (hp : mayB p = true) (hk : n.kind = 1 ∨ n.kind = 2 ∨ n.kind = 3) (ht : n.target.size ≤ 160) : TreeOk (layE l room p n).2 room := by
  unfold layE
  split
  · rename_i hh
    split
    · exact T
    · rename_i hn
      refine putE_ok T hp (homeE_zero hp hh) hk (fun o ho => ?_) ht
      rw [ho] at hn
      simp at hn
  · exact T
theorem rename_ok {l : Nodes} {room : Nat} (T : TreeOk l room) {a b : ByteArray} (ha : mayB a = true) (hb : mayB b = true) (hr : (Eff.rename a b).right = true) (h1 : (findA l a).isSome = true) (h2 : homeE l b = 0) (h3 : dirsB l a b = false) (h4 : (l.all fun x => !withinB x.1 a || mayB (newP a b x.1)) = true) : MoveOk l room a b := by
  simp only [Eff.right, Bool.and_eq_true, Bool.not_eq_true', decide_eq_false_iff_not] at hr
  refine ⟨T, ha, hb, hr.1, ?_, h1, homeE_zero hb h2, fun o ho hk => ?_, fun x hx hw => ?_⟩
  · unfold withinB
    rw [ha, hb, mayB_nonempty ha, hr.2]; rfl
  · unfold dirsB at h3
    rw [ho] at h3
    simp [hk] at h3
  · have := List.all_eq_true.1 h4 x hx
    rw [hw] at this
    simpa using this
theorem effE_ok {l : Nodes} {room most : Nat} (T : TreeOk l room) {x : Eff} (h : EffOk x) : TreeOk (effE l room most x).2 room := by
  obtain ⟨hp, hr⟩ := h
  cases x with
  | write p d t =>
    have hm := hp p (by simp [Eff.paths])
    show TreeOk (writeE l room p (cutTo most d) t).2 room
    unfold writeE
    split
    · split
      · exact putE_ok T hm (homeE_zero hm ‹_›) (.inl rfl) (fun o ho => (fileE_zero ‹_› o ho).1) (show emp.size ≤ 160 by decide)
      · exact T
    · exact T
  | add p d =>
    have hm := hp p (by simp [Eff.paths])
    show TreeOk (addE l room p (cutTo most d)).2 room
    unfold addE
    split
    · exact T
    · rename_i n hn
      split
      · exact putE_ok T hm (T.home (p, n) (findA_mem hn)) (T.kind (p, n) (findA_mem hn)) (fun o ho => (fileE_zero ‹_› o ho).1) (T.target (p, n) (findA_mem hn))
      · exact T
  | mkdir p => exact layE_ok T (hp p (by simp [Eff.paths])) (.inr (.inl rfl)) (show emp.size ≤ 160 by decide)
  | link p g t =>
    refine layE_ok T (hp p (by simp [Eff.paths])) (.inr (.inr rfl)) ?_
    simp only [Eff.right, Bool.and_eq_true, decide_eq_true_eq] at hr
    exact hr.2
  | rename a b =>
    show TreeOk (renameE l a b).2 room
    unfold renameE
    split
    · split
      · split
        · exact T
        · split
          · exact (rename_ok T (hp a (by simp [Eff.paths])) (hp b (by simp [Eff.paths])) hr ‹_› ‹_› (by simpa using ‹¬ dirsB l a b = true›) ‹_›).ok
          · exact T
      · exact T
    · exact T
  | remove p =>
    have hm := hp p (by simp [Eff.paths])
    show TreeOk (removeE l p).2 room
    unfold removeE
    split
    · split
      · exact T
      · rename_i hn
        refine T.drop hm fun x hx => ?_
        cases hw : withinB x.1 p with
        | false => rfl
        | true => exact absurd (List.any_eq_true.2 ⟨x, hx, hw⟩) hn
    · exact T
/-- What fails leaves the tree. -/
theorem effE_fail {l : Nodes} {room most : Nat} {x : Eff} (h : (effE l room most x).1 ≠ 0) : (effE l room most x).2 = l := by
  have hput : ∀ p n, (putE l room p n).1 ≠ 0 → (putE l room p n).2 = l := fun p n => by unfold putE; split <;> simp
  have hlay : ∀ p n, (layE l room p n).1 ≠ 0 → (layE l room p n).2 = l := fun p n => by
    unfold layE
    split
    · split
      · simp
      · exact hput p n
    · simp
  cases x with
  | write p d t =>
    revert h
    show (writeE l room p (cutTo most d) t).1 ≠ 0 → (writeE l room p (cutTo most d) t).2 = l
    unfold writeE
    split
    · split
      · exact hput _ _
      · simp
    · simp
  | add p d =>
    revert h
    show (addE l room p (cutTo most d)).1 ≠ 0 → (addE l room p (cutTo most d)).2 = l
    unfold addE
    split
    · simp
    · split
      · exact hput _ _
      · simp
  | mkdir p => exact hlay _ _ h
  | link p g t => exact hlay _ _ h
  | rename a b =>
    revert h
    show (renameE l a b).1 ≠ 0 → (renameE l a b).2 = l
    unfold renameE
    split
    · split
      · split
        · simp
        · split <;> simp
      · simp
    · simp
  | remove p =>
    revert h
    show (removeE l p).1 ≠ 0 → (removeE l p).2 = l
    unfold removeE
    split
    · split <;> simp
    · simp

/-- A disk. -/
structure Dk where
  live : Nodes
  lasts : Nodes
  room : Nat
  log : List Eff
  fused : Bool
  left : Int
def Dk.made (room : Nat) : Dk := ⟨[], [], room, [], false, 0⟩
def Dk.off (d : Dk) : Bool := d.fused && decide (d.left = 0)
def full : Nat := 1048576
/-- An effect done: what is answered, and the disk behind it. -/
def Dk.act (d : Dk) (x : Eff) : Int × Dk :=
  if d.off then (20, d) else if x.paths.all mayB then (if x.right then
    (if (effE d.live d.room full x).1 = 0 then (0, { d with live := (effE d.live d.room full x).2, log := d.log ++ [x], left := d.left - 1 }) else ((effE d.live d.room full x).1, d))
  else (2, d)) else (10, d)
def Dk.sync (d : Dk) : Int × Dk := if d.off then (20, d) else (0, { d with lasts := d.live, log := [], left := d.left - 1 })
def Dk.fuse (d : Dk) (n : Int) : Int × Dk := if n < 0 then (2, d) else if d.off then (20, d) else (0, { d with fused := true, left := n })
/-- A logged effect at a crash: by its pick. -/
def pickE (room : Nat) (l : Nodes) (x : Eff) (k : Nat) : Nodes := if k = 0 then l else if k = 1 then (effE l room full x).2 else (effE l room (k - 2) x).2
def crashL (room : Nat) : Nodes → List Eff → List UInt8 → Nodes
  | l, x :: r, k :: ks => crashL room (pickE room l x k.toNat) r ks
  | l, _, _ => l
def Dk.crash (d : Dk) (picks : List UInt8) : Dk := { d with live := crashL d.room d.lasts d.log picks, lasts := crashL d.room d.lasts d.log picks, log := [], fused := false }

/-- What is true of every disk. -/
structure DkOk (d : Dk) : Prop where
  live : TreeOk d.live d.room
  lasts : TreeOk d.lasts d.room
  log : ∀ x ∈ d.log, EffOk x
  r1 : 1024 ≤ d.room
  r2 : d.room ≤ 1048576
  left : d.fused = true → 0 ≤ d.left
  same : d.log = [] → d.lasts = d.live
theorem TreeOk.nil (room : Nat) : TreeOk [] room := ⟨List.Pairwise.nil, fun _ h => (by cases h), fun _ h => (by cases h), fun _ h => (by cases h), Nat.zero_le _, fun _ h => (by cases h)⟩
theorem DkOk.made {room : Nat} (h1 : 1024 ≤ room) (h2 : room ≤ 1048576) : DkOk (Dk.made room) := ⟨TreeOk.nil _, TreeOk.nil _, fun _ h => (by cases h), h1, h2, fun h => (by cases h), fun _ => rfl⟩
theorem Dk.act_room (d : Dk) (x : Eff) : (d.act x).2.room = d.room := by
  unfold Dk.act
  split
  · rfl
  · split
    · split
      · split <;> rfl
      · rfl
    · rfl
theorem DkOk.act {d : Dk} (D : DkOk d) (x : Eff) : DkOk (d.act x).2 := by
  unfold Dk.act
  split
  · exact D
  · rename_i hoff
    split
    · rename_i hp
      split
      · rename_i hr
        split
        · have hx : EffOk x := ⟨fun p hp' => List.all_eq_true.1 hp p hp', hr⟩
          refine ⟨effE_ok D.live hx, D.lasts, fun y hy => ?_, D.r1, D.r2, fun hf => ?_, fun h => by simp at h⟩
          · rcases List.mem_append.1 hy with hy | hy
            · exact D.log y hy
            · simp at hy; subst hy; exact hx
          · have := D.left hf
            unfold Dk.off at hoff
            rw [show d.fused = true from hf] at hoff
            simp at hoff
            show 0 ≤ d.left - 1
            omega
        · exact D
      · exact D
    · exact D
theorem DkOk.sync {d : Dk} (D : DkOk d) : DkOk d.sync.2 := by
  unfold Dk.sync
  split
  · exact D
  · rename_i hoff
    refine ⟨D.live, D.live, fun _ h => (by cases h), D.r1, D.r2, fun hf => ?_, fun _ => rfl⟩
    have := D.left hf
    unfold Dk.off at hoff
    rw [show d.fused = true from hf] at hoff
    simp at hoff
    show 0 ≤ d.left - 1
    omega
theorem DkOk.fuse {d : Dk} (D : DkOk d) (n : Int) : DkOk (d.fuse n).2 := by
  unfold Dk.fuse
  split
  · exact D
  · split
    · exact D
    · exact ⟨D.live, D.lasts, D.log, D.r1, D.r2, fun _ => by show 0 ≤ n; omega, D.same⟩
theorem pickE_ok {l : Nodes} {room k : Nat} (T : TreeOk l room) {x : Eff} (h : EffOk x) : TreeOk (pickE room l x k) room := by
  unfold pickE
  split
  · exact T
  · split <;> exact effE_ok T h
theorem crashL_ok {room : Nat} : ∀ {log : List Eff} {picks : List UInt8} {l : Nodes}, TreeOk l room → (∀ x ∈ log, EffOk x) → TreeOk (crashL room l log picks) room
  | [], _, _, T, _ => by unfold crashL; exact T
  | _ :: _, [], _, T, _ => by unfold crashL; exact T
  | x :: r, k :: ks, l, T, h => by
    unfold crashL
    exact crashL_ok (pickE_ok T (h x List.mem_cons_self)) fun y hy => h y (List.mem_cons_of_mem _ hy)
theorem DkOk.crash {d : Dk} (D : DkOk d) (picks : List UInt8) : DkOk (d.crash picks) :=
  ⟨crashL_ok D.lasts D.log, crashL_ok D.lasts D.log, fun _ h => (by cases h), D.r1, D.r2, fun h => (by cases h), fun _ => rfl⟩
/-- One round of a crash. -/
theorem crashL_step {room : Nat} : ∀ (k : Nat) (log : List Eff) (picks : List UInt8) (l : Nodes) (x : Eff) (u : UInt8), log[k]? = some x → picks[k]? = some u → crashL room l (log.take (k + 1)) (picks.take (k + 1)) = pickE room (crashL room l (log.take k) (picks.take k)) x u.toNat
  | 0, y :: r, v :: vs, l, x, u, h1, h2 => by
    cases h1; cases h2
    simp [crashL]
  | k + 1, y :: r, v :: vs, l, x, u, h1, h2 => by
    have := crashL_step (room := room) k r vs (pickE room l y v.toNat) x u (by simpa using h1) (by simpa using h2)
    simp only [List.take_succ_cons, crashL]
    exact this
  | _, [], _, _, _, _, h1, _ => by simp at h1
  | _, _ :: _, [], _, _, _, _, h2 => by simp at h2
theorem crashL_end {room : Nat} : ∀ (log : List Eff) (picks : List UInt8) (l : Nodes) (k : Nat), log.length ≤ k ∨ picks.length ≤ k → crashL room l (log.take k) (picks.take k) = crashL room l log picks
  | [], picks, l, k, _ => by simp [crashL]
  | _ :: _, [], l, k, _ => by simp [crashL]
  | x :: r, u :: us, l, 0, h => by simp at h
  | x :: r, u :: us, l, k + 1, h => by
    simp only [List.take_succ_cons, crashL]
    exact crashL_end r us _ k (by simp at h; omega)
end Go.Proofs.YtldppmjjgljinaaGreatDoor
