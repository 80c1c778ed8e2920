/- Acts on a disk in plain words; what stays true of it, whatever is done. No program in sight. What stays of a disk behind Sync. No program in sight. The document's tree in plain words: putting in (caravanref09's with), and what an effect makes of it, are the same as the program's. No program in sight. -/
import Derived.Test.YtldppmjjgljinaaGreatDoorTreeE
import Derived.Test.YtldppmjjgljinaaGreatDoorActD
namespace Go.Proofs.YtldppmjjgljinaaGreatDoor
open Go.RowKit

def Dk.done (D : Dk) (a : ActR) (k : Int) : Int × Dk :=
  if k = 1 then D.act (.write a.p a.data a.time) else if k = 2 then D.act (.add a.p a.data) else if k = 3 then D.act (.mkdir a.p) else if k = 4 then D.act (.link a.p a.data a.time)
  else if k = 5 then D.act (.rename a.p a.q) else if k = 6 then D.act (.remove a.p) else if k = 7 then (0, D.crash a.picks) else if k = 8 then D.fuse a.long else D.sync
def Dk.doA (D : Dk) (a : ActR) : Int × Dk := D.done a (a.kind % 16)
def playD (D : Dk) (l : List ActR) : Dk := l.foldl (fun d a => (d.doA a).2) D
theorem playD_snoc (D : Dk) (l : List ActR) (a : ActR) : playD D (l ++ [a]) = ((playD D l).doA a).2 := by simp [playD]
theorem take_next {α : Type} {l : List α} {k : Nat} {a : α} (h : l[k]? = some a) : l.take (k + 1) = l.take k ++ [a] := by rw [List.take_add_one, h]; rfl
theorem playD_next {D : Dk} {l : List ActR} {k : Nat} {a : ActR} (h : l[k]? = some a) : playD D (l.take (k + 1)) = ((playD D (l.take k)).doA a).2 := by rw [take_next h, playD_snoc]

/-- What holds of a disk behind at most k acts. -/
structure DkRun (k : Nat) (D : Dk) : Prop where
  ok : DkOk D
  len : D.log.length ≤ k
  lo : -(k : Int) ≤ D.left
  hi : D.left ≤ 9223372036854775807
  again : crashL D.room D.lasts D.log (List.replicate D.log.length 1) = D.live
theorem DkRun.mono {k m : Nat} {D : Dk} (R : DkRun k D) (h : k ≤ m) : DkRun m D := ⟨R.ok, Nat.le_trans R.len h, by have := R.lo; omega, R.hi, R.again⟩
theorem DkRun.made {room : Nat} (h1 : 1024 ≤ room) (h2 : room ≤ 1048576) : DkRun 0 (Dk.made room) :=
  ⟨DkOk.made h1 h2, Nat.le_refl _, by show -((0 : Nat) : Int) ≤ (0 : Int); omega, by show (0 : Int) ≤ _; omega, rfl⟩
theorem again_snoc {room : Nat} {l l' : Nodes} {log : List Eff} (x : Eff) (h : crashL room l log (List.replicate log.length 1) = l') : crashL room l (log ++ [x]) (List.replicate (log ++ [x]).length 1) = (effE l' room full x).2 := by
  have hs := crashL_step (room := room) log.length (log ++ [x]) (List.replicate (log.length + 1) 1) l x 1 (by simp) (by rw [List.getElem?_replicate, if_pos (by omega)])
  rw [List.take_of_length_le (by simp), List.take_of_length_le (by simp), List.take_left, List.take_replicate, Nat.min_eq_left (by omega), h] at hs
  rw [List.length_append, List.length_singleton, hs]
  rfl
theorem DkRun.act {k : Nat} {D : Dk} (R : DkRun k D) (x : Eff) : DkRun (k + 1) (D.act x).2 := by
  have h0 := R.ok.act x
  have hlo := R.lo
  have hhi := R.hi
  unfold Dk.act at h0 ⊢
  split
  · exact R.mono (by omega)
  · rename_i h1
    rw [if_neg h1] at h0
    split
    · rename_i h2
      rw [if_pos h2] at h0
      split
      · rename_i h3
        rw [if_pos h3] at h0
        split
        · rename_i h4
          rw [if_pos h4] at h0
          exact ⟨h0, by have := R.len; simp; omega, by show _ ≤ D.left - 1; omega, by show D.left - 1 ≤ _; omega, again_snoc x R.again⟩
        · exact R.mono (by omega)
      · exact R.mono (by omega)
    · exact R.mono (by omega)
theorem DkRun.sync {k : Nat} {D : Dk} (R : DkRun k D) : DkRun (k + 1) D.sync.2 := by
  have h0 := R.ok.sync
  have hlo := R.lo
  have hhi := R.hi
  unfold Dk.sync at h0 ⊢
  split
  · exact R.mono (by omega)
  · rename_i h1
    rw [if_neg h1] at h0
    exact ⟨h0, by simp, by show _ ≤ D.left - 1; omega, by show D.left - 1 ≤ _; omega, rfl⟩
theorem DkRun.fuse {k : Nat} {D : Dk} (R : DkRun k D) {n : Int} (hn : n ≤ 9223372036854775807) : DkRun (k + 1) (D.fuse n).2 := by
  have h0 := R.ok.fuse n
  have hlo := R.lo
  have hhi := R.hi
  unfold Dk.fuse at h0 ⊢
  split
  · exact R.mono (by omega)
  · rename_i h1
    rw [if_neg h1] at h0
    split
    · exact R.mono (by omega)
    · rename_i h2
      rw [if_neg h2] at h0
      exact ⟨h0, by have := R.len; show D.log.length ≤ _; omega, by show _ ≤ n; omega, hn, R.again⟩
theorem DkRun.crash {k : Nat} {D : Dk} (R : DkRun k D) (picks : List UInt8) : DkRun (k + 1) (D.crash picks) :=
  ⟨R.ok.crash picks, by simp [Dk.crash], by have := R.lo; show _ ≤ D.left; omega, R.hi, rfl⟩
theorem DkRun.done {k : Nat} {D : Dk} (R : DkRun k D) (a : ActR) (j : Int) (hn : a.long ≤ 9223372036854775807) : DkRun (k + 1) (D.done a j).2 := by
  unfold Dk.done
  repeat (first | (split; exact R.act _) | (split; exact R.crash _) | (split; exact R.fuse hn))
  exact R.sync
theorem DkRun.doA {k : Nat} {D : Dk} (R : DkRun k D) (a : ActR) (hn : a.long ≤ 9223372036854775807) : DkRun (k + 1) (D.doA a).2 := R.done a _ hn
theorem DkRun.play {D : Dk} {n : Nat} (R : DkRun n D) : ∀ (l : List ActR), (∀ a ∈ l, a.long ≤ 9223372036854775807) → DkRun (n + l.length) (playD D l)
  | [], _ => R
  | a :: r, h => by
    have := (R.doA a (h a List.mem_cons_self)).play r fun b hb => h b (List.mem_cons_of_mem _ hb)
    rw [List.length_cons, Nat.add_comm r.length 1, ← Nat.add_assoc]
    exact this

/-- What a disk tells of one of its own nodes. -/
theorem TreeOk.at {l : Nodes} {room : Nat} (T : TreeOk l room) {k : Nat} {x : ByteArray × Nd} (h : l[k]? = some x) : findA l x.1 = some x.2 ∧ mayB x.1 = true ∧ kindAt l (parentS x.1) = 2 :=
  ⟨findA_of_mem T.sorted.nodup (List.mem_of_getElem? h), T.may x (List.mem_of_getElem? h), T.home x (List.mem_of_getElem? h)⟩
theorem Sorted.next {l : Nodes} (h : Sorted l) {k : Nat} {x y : ByteArray × Nd} (hx : l[k]? = some x) (hy : l[k + 1]? = some y) : cmpL x.1.toList y.1.toList = -1 := by
  obtain ⟨h1, e1⟩ := List.getElem?_eq_some_iff.1 hx
  obtain ⟨h2, e2⟩ := List.getElem?_eq_some_iff.1 hy
  have := List.pairwise_iff_getElem.1 h k (k + 1) h1 h2 (by omega)
  rw [e1, e2] at this
  exact this
theorem usedL_take {l : Nodes} {k : Nat} {x : ByteArray × Nd} (h : l[k]? = some x) : usedL (l.take (k + 1)) = usedL (l.take k) + (64 + x.2.data.size) := by
  rw [take_next h, usedL_append]; rfl
theorem usedL_take_le (l : Nodes) (k : Nat) : usedL (l.take k) ≤ usedL l := by
  have := usedL_append (l.take k) (l.drop k)
  rw [List.take_append_drop] at this
  omega
end Go.Proofs.YtldppmjjgljinaaGreatDoor

namespace Go.Proofs.YtldppmjjgljinaaGreatDoor
open Go.RowKit

theorem act_lasts (D : Dk) (x : Eff) : (D.act x).2.lasts = D.lasts := by
  unfold Dk.act
  repeat (first | rfl | split)
theorem done_lasts (D : Dk) (a : ActR) {k : Int} (h1 : 1 ≤ k) (h6 : k ≤ 6) : (D.done a k).2.lasts = D.lasts := by
  unfold Dk.done
  repeat (first | (split; exact act_lasts _ _))
  rw [if_neg (by omega), if_neg (by omega)]
  exfalso; omega
/-- An act that is no Sync, no crash, no fuse. -/
def ActR.soft (a : ActR) : Bool := decide (1 ≤ a.kind % 16) && decide (a.kind % 16 ≤ 6)
def Dk.softA (D : Dk) (a : ActR) : Dk := if a.soft then (D.doA a).2 else D
def softD (D : Dk) (l : List ActR) : Dk := l.foldl Dk.softA D
theorem softD_next {D : Dk} {l : List ActR} {k : Nat} {a : ActR} (h : l[k]? = some a) : softD D (l.take (k + 1)) = (softD D (l.take k)).softA a := by
  rw [take_next h]; simp [softD]
theorem softA_lasts (D : Dk) (a : ActR) : (D.softA a).lasts = D.lasts := by
  unfold Dk.softA
  split
  · rename_i h
    unfold ActR.soft at h
    rw [Bool.and_eq_true, decide_eq_true_eq, decide_eq_true_eq] at h
    exact done_lasts D a h.1 h.2
  · rfl
theorem softD_lasts : ∀ (l : List ActR) (D : Dk), (softD D l).lasts = D.lasts
  | [], _ => rfl
  | a :: r, D => (softD_lasts r (D.softA a)).trans (softA_lasts D a)
theorem DkRun.softA {k : Nat} {D : Dk} (R : DkRun k D) (a : ActR) (hn : a.long ≤ 9223372036854775807) : DkRun (k + 1) (D.softA a) := by
  unfold Dk.softA
  split
  · exact R.doA a hn
  · exact R.mono (by omega)
theorem DkRun.soft : ∀ (l : List ActR) {D : Dk} {n : Nat}, DkRun n D → (∀ a ∈ l, a.long ≤ 9223372036854775807) → DkRun (n + l.length) (softD D l)
  | [], _, _, R, _ => R
  | a :: r, _, _, R, h => by
    have := DkRun.soft r (R.softA a (h a List.mem_cons_self)) fun b hb => h b (List.mem_cons_of_mem _ hb)
    rw [List.length_cons, Nat.add_comm r.length 1, ← Nat.add_assoc]
    exact this
theorem crash_nil (room : Nat) (l : Nodes) (log : List Eff) : crashL room l log [] = l := by cases log <;> rfl
theorem crash_none (room : Nat) (l : Nodes) (ks : List UInt8) : crashL room l [] ks = l := rfl
theorem off_crash (D : Dk) (ks : List UInt8) : (D.crash ks).off = false := rfl
theorem sync_on {D : Dk} (h : D.off = false) : D.sync = (0, { D with lasts := D.live, log := [], left := D.left - 1 }) := by
  unfold Dk.sync
  rw [h]; rfl
end Go.Proofs.YtldppmjjgljinaaGreatDoor

namespace Go.Proofs.YtldppmjjgljinaaGreatDoor
open Go.RowKit

def withStep (p : ByteArray) (n : Nd) (s : Bool × Nodes) (x : ByteArray × Nd) : Bool × Nodes :=
  if !s.1 && decide (cmpL p.toList x.1.toList ≤ 0) then (true, if x.1 = p then s.2 ++ [(p, n)] else s.2 ++ [(p, n)] ++ [x]) else (s.1, if x.1 = p then s.2 else s.2 ++ [x])
def withF (l : Nodes) (p : ByteArray) (n : Nd) : Bool × Nodes := l.foldl (withStep p n) (false, [])
theorem withF_next {l : Nodes} {p : ByteArray} {n : Nd} {k : Nat} {x : ByteArray × Nd} (h : l[k]? = some x) : withF (l.take (k + 1)) p n = withStep p n (withF (l.take k) p n) x := by
  unfold withF
  rw [take_next h, List.foldl_append]; rfl
theorem with_done {p : ByteArray} {n : Nd} : ∀ (l o : Nodes), (∀ x ∈ l, x.1 ≠ p) → l.foldl (withStep p n) (true, o) = (true, o ++ l)
  | [], o, _ => by simp
  | x :: r, o, h => by
    rw [List.foldl_cons, show withStep p n (true, o) x = (true, o ++ [x]) from by unfold withStep; simp [h x List.mem_cons_self], with_done r _ fun y hy => h y (List.mem_cons_of_mem _ hy)]
    simp
theorem with_go {p : ByteArray} {n : Nd} : ∀ (l o : Nodes), Sorted l → (let s := l.foldl (withStep p n) (false, o); if s.1 then s.2 else s.2 ++ [(p, n)]) = o ++ insS l p n
  | [], o, _ => by simp [insS]
  | (q, m) :: r, o, h => by
    obtain ⟨h1, h2⟩ := List.pairwise_cons.1 h
    rw [List.foldl_cons]
    by_cases hpq : p = q
    · subst hpq
      rw [show withStep p n (false, o) (p, m) = (true, o ++ [(p, n)]) from by unfold withStep; simp [cmpL_self]]
      rw [with_done r _ fun x hx e => cmp_lt_ne (h1 x hx) e.symm]
      simp [insS]
    · by_cases hlt : cmpL p.toList q.toList = -1
      · rw [show withStep p n (false, o) (q, m) = (true, o ++ [(p, n)] ++ [(q, m)]) from by unfold withStep; simp [hlt, Ne.symm hpq]]
        rw [with_done r _ fun x hx e => by
          have h3 := cmpL_trans _ _ _ hlt (h1 x hx)
          rw [e, cmpL_self] at h3
          cases h3]
        simp [insS, hpq, hlt]
      · have hgt : ¬ cmpL p.toList q.toList ≤ 0 := by
          rcases cmpL_vals p.toList q.toList with e | e | e
          · exact absurd e hlt
          · exact absurd (ba_ext (cmpL_zero _ _ e)) hpq
          · rw [e]; decide
        rw [show withStep p n (false, o) (q, m) = (false, o ++ [(q, m)]) from by unfold withStep; simp [hgt, Ne.symm hpq]]
        have := with_go (p := p) (n := n) r (o ++ [(q, m)]) h2
        rw [this]
        simp [insS, hpq, hlt]
theorem withF_end {l : Nodes} (h : Sorted l) (p : ByteArray) (n : Nd) : (if (withF l p n).1 then (withF l p n).2 else (withF l p n).2 ++ [(p, n)]) = insS l p n := by
  have := with_go (p := p) (n := n) l [] h
  rw [List.nil_append] at this
  exact this
theorem withF_len (p : ByteArray) (n : Nd) : ∀ (l : Nodes) (s : Bool × Nodes), (l.foldl (withStep p n) s).2.length ≤ s.2.length + l.length + (if s.1 then 0 else 1)
  | [], s => by simp
  | x :: r, s => by
    rw [List.foldl_cons]
    have := withF_len p n r (withStep p n s x)
    have h2 : (withStep p n s x).2.length + (if (withStep p n s x).1 then 0 else 1) ≤ s.2.length + 1 + (if s.1 then 0 else 1) := by
      unfold withStep
      split
      · rename_i h
        simp only [Bool.and_eq_true, Bool.not_eq_true'] at h
        rw [h.1]
        by_cases e : x.1 = p <;> simp [e]
      · by_cases e : x.1 = p <;> simp [e] <;> split <;> omega
    simp only [List.length_cons]
    omega
theorem insS_len (l : Nodes) (p : ByteArray) (n : Nd) : (insS l p n).length ≤ l.length + 1 := by
  induction l with
  | nil => simp [insS]
  | cons y r ih =>
    obtain ⟨q, m⟩ := y
    unfold insS
    split
    · simp
    · split <;> simp
      omega

/-- Where a path stands. -/
def idxA (l : Nodes) (p : ByteArray) : Nat := l.findIdx fun x => decide (x.1 = p)
theorem idx_some : ∀ {l : Nodes} {p : ByteArray} {n : Nd}, findA l p = some n → l[idxA l p]? = some (p, n)
  | [], _, _, h => by cases h
  | (k, m) :: r, p, n, h => by
    unfold findA at h
    unfold idxA
    rw [List.findIdx_cons]
    by_cases e : k = p
    · rw [if_pos e] at h
      cases h
      subst e
      simp
    · rw [if_neg e] at h
      have := idx_some (l := r) h
      simpa [e, idxA] using this
theorem idx_first {l : Nodes} {p : ByteArray} {k : Nat} {x : ByteArray × Nd} (h : l[k]? = some x) (hx : x.1 = p) (hb : ∀ y ∈ l.take k, y.1 ≠ p) : findA l p = some x.2 ∧ idxA l p = k := by
  induction l generalizing k with
  | nil => simp at h
  | cons y r ih =>
    obtain ⟨q, m⟩ := y
    cases k with
    | zero =>
      simp at h; subst h
      simp only at hx
      subst hx
      exact ⟨by unfold findA; rw [if_pos rfl], by unfold idxA; rw [List.findIdx_cons]; simp⟩
    | succ k =>
      have hq : q ≠ p := hb (q, m) (by simp)
      obtain ⟨h1, h2⟩ := ih (k := k) (by simpa using h) fun y hy => hb y (by simp [hy])
      refine ⟨by unfold findA; rw [if_neg hq]; exact h1, ?_⟩
      unfold idxA at h2 ⊢
      rw [List.findIdx_cons]
      simp [hq, h2]
theorem idx_none {l : Nodes} {p : ByteArray} (hb : ∀ y ∈ l, y.1 ≠ p) : findA l p = none := findA_none hb

/-- Taking out all that moves. -/
theorem drop_many : ∀ (N o : Nodes), N.foldl (fun o x => dropA o x.1) o = o.filter fun y => !N.any fun z => decide (y.1 = z.1)
  | [], o => by simp only [List.foldl_nil, List.any_nil, Bool.not_false]; exact (List.filter_eq_self.2 fun _ _ => rfl).symm
  | x :: r, o => by
    rw [List.foldl_cons, drop_many r]
    unfold dropA
    rw [List.filter_filter]
    refine List.filter_congr fun y _ => ?_
    by_cases e : y.1 = x.1
    · simp [e]
    · simp [e]
def outM (l : Nodes) (a b : ByteArray) (k : Nat) : Nodes := (movL (l.take k) a).foldl (fun o x => dropA o x.1) (dropA l b)
def outN (l : Nodes) (a b : ByteArray) (k : Nat) : Nodes := ((movL (l.take k) a).map (newX a b)).foldl (fun o x => insS o x.1 x.2) (restL l a b)
theorem movL_next {l : Nodes} {a : ByteArray} {k : Nat} {x : ByteArray × Nd} (h : l[k]? = some x) : movL (l.take (k + 1)) a = movL (l.take k) a ++ (if movedB a x.1 then [x] else []) := by
  unfold movL
  rw [take_next h, List.filter_append]
  by_cases e : movedB a x.1 = true <;> simp [e]
theorem outM_start (l : Nodes) (a b : ByteArray) : outM l a b 0 = dropA l b := by simp [outM, movL]
theorem outM_skip {l : Nodes} {a b : ByteArray} {k : Nat} {x : ByteArray × Nd} (h : l[k]? = some x) (hm : movedB a x.1 = false) : outM l a b (k + 1) = outM l a b k := by
  unfold outM
  rw [movL_next h, hm]; simp
theorem outM_take {l : Nodes} {a b : ByteArray} {k : Nat} {x : ByteArray × Nd} (h : l[k]? = some x) (hm : movedB a x.1 = true) : outM l a b (k + 1) = dropA (outM l a b k) x.1 := by
  unfold outM
  rw [movL_next h, hm, if_pos rfl, List.foldl_append]; rfl
theorem outM_end (l : Nodes) (a b : ByteArray) : outM l a b l.length = restL l a b := by
  unfold outM restL
  rw [List.take_length, drop_many]
  refine List.filter_congr fun y hy => ?_
  have hyl := (mem_drop.1 hy).1
  congr 1
  rw [Bool.eq_iff_iff, List.any_eq_true]
  constructor
  · rintro ⟨z, hz, e⟩
    rw [decide_eq_true_eq] at e
    rw [e]
    exact (mem_mov.1 hz).2
  · intro h
    exact ⟨y, mem_mov.2 ⟨hyl, h⟩, decide_eq_true rfl⟩
theorem outN_start (l : Nodes) (a b : ByteArray) : outN l a b 0 = restL l a b := by simp [outN, movL]
theorem outN_skip {l : Nodes} {a b : ByteArray} {k : Nat} {x : ByteArray × Nd} (h : l[k]? = some x) (hm : movedB a x.1 = false) : outN l a b (k + 1) = outN l a b k := by
  unfold outN
  rw [movL_next h, hm]; simp
theorem outN_take {l : Nodes} {a b : ByteArray} {k : Nat} {x : ByteArray × Nd} (h : l[k]? = some x) (hm : movedB a x.1 = true) : outN l a b (k + 1) = insS (outN l a b k) (newP a b x.1) x.2 := by
  unfold outN
  rw [movL_next h, hm, if_pos rfl, List.map_append, List.foldl_append]; rfl
theorem outN_end (l : Nodes) (a b : ByteArray) : outN l a b l.length = moveL l a b := by
  unfold outN moveL
  rw [List.take_length]
theorem outN_sorted {l : Nodes} (h : Sorted l) (a b : ByteArray) (k : Nat) : Sorted (outN l a b k) := foldl_ins_sorted _ _ ((h.drop b).filter _)
theorem foldl_ins_len : ∀ (N B : Nodes), (N.foldl (fun o x => insS o x.1 x.2) B).length ≤ B.length + N.length
  | [], _ => by simp
  | x :: N, B => by
    rw [List.foldl_cons]
    have h1 := foldl_ins_len N (insS B x.1 x.2)
    have h2 := insS_len B x.1 x.2
    simp only [List.length_cons]
    omega
theorem outN_len (l : Nodes) (a b : ByteArray) (k : Nat) : (outN l a b k).length ≤ 2 * l.length := by
  have h1 := foldl_ins_len ((movL (l.take k) a).map (newX a b)) (restL l a b)
  have h2 : (restL l a b).length ≤ l.length := Nat.le_trans (List.length_filter_le _ _) (List.length_filter_le _ _)
  have h3 : (movL (l.take k) a).length ≤ l.length := by
    unfold movL
    refine Nat.le_trans (List.length_filter_le _ _) ?_
    rw [List.length_take]; omega
  rw [List.length_map] at h1
  unfold outN
  omega
theorem outM_len (l : Nodes) (a b : ByteArray) (k : Nat) : (outM l a b k).length ≤ l.length := by
  unfold outM
  rw [drop_many]
  exact Nat.le_trans (List.length_filter_le _ _) (List.length_filter_le _ _)
/-- The second loop's end: all new paths may be. -/
def mayK (l : Nodes) (a b : ByteArray) (k : Nat) : Prop := ∀ x ∈ l.take k, movedB a x.1 = true → mayB (newP a b x.1) = true
theorem may_all {l : Nodes} {a b : ByteArray} (h : mayK l a b l.length) : (l.all fun x => !withinB x.1 a || mayB (newP a b x.1)) = true := by
  rw [List.all_eq_true]
  intro x hx
  cases hw : withinB x.1 a with
  | false => rfl
  | true =>
    have := h x (by rw [List.take_length]; exact hx) (by unfold movedB; rw [hw, Bool.or_true])
    rw [this]; rfl
theorem may_not {l : Nodes} {a b : ByteArray} (hb : mayB b = true) {x : ByteArray × Nd} (hx : x ∈ l) (hm : movedB a x.1 = true) (hn : mayB (newP a b x.1) = false) : (l.all fun x => !withinB x.1 a || mayB (newP a b x.1)) = false := by
  rw [List.all_eq_false]
  refine ⟨x, hx, ?_⟩
  have hw : withinB x.1 a = true := by
    cases hw : withinB x.1 a with
    | true => rfl
    | false =>
      unfold movedB at hm
      rw [hw, Bool.or_false, decide_eq_true_eq] at hm
      rw [hm, newP_self, hb] at hn
      cases hn
  rw [hw, hn]; decide
/-- An effect with all its fields. -/
structure RE where
  k : Int
  p : ByteArray
  q : ByteArray
  data : ByteArray
  time : Int
def RE.eff (x : RE) : Eff := if x.k = 1 then .write x.p x.data x.time else if x.k = 2 then .add x.p x.data else if x.k = 3 then .mkdir x.p else if x.k = 4 then .link x.p x.data x.time else if x.k = 5 then .rename x.p x.q else .remove x.p
end Go.Proofs.YtldppmjjgljinaaGreatDoor
