/- Nodes by paths, as a list of pairs in whatever order: looking up, dropping. -/
import Derived.Test.YtldppmjjgljinaaGreatDoorBase
namespace Go.Proofs.YtldppmjjgljinaaGreatDoor
open Go.RowKit

/-- A node. -/
structure Nd where
  kind : Int
  data : ByteArray
  target : ByteArray
  time : Int
deriving DecidableEq
def nv (n : Nd) : Value := .agg #[.int .i64 n.kind, .string n.data, .string n.target, .int .i64 n.time]
def nd0 : Nd := ⟨0, ⟨#[]⟩, ⟨#[]⟩, 0⟩
abbrev Nodes := List (ByteArray × Nd)
def findA : Nodes → ByteArray → Option Nd
  | [], _ => none
  | (k, n) :: r, s => if k = s then some n else findA r s
def dropA (l : Nodes) (s : ByteArray) : Nodes := l.filter fun x => !decide (x.1 = s)
theorem findA_none {l : Nodes} {s : ByteArray} (h : ∀ x ∈ l, x.1 ≠ s) : findA l s = none := by
  induction l with
  | nil => rfl
  | cons x r ih =>
    obtain ⟨k, n⟩ := x
    unfold findA
    rw [if_neg (h (k, n) (by simp)), ih fun y hy => h y (by simp [hy])]
theorem findA_mem {l : Nodes} {s : ByteArray} {n : Nd} (h : findA l s = some n) : (s, n) ∈ l := by
  induction l with
  | nil => cases h
  | cons x r ih =>
    obtain ⟨k, m⟩ := x
    unfold findA at h
    split at h
    · rename_i e; cases h; subst e; simp
    · exact List.mem_cons_of_mem _ (ih h)
theorem findA_of_mem {l : Nodes} {s : ByteArray} {n : Nd} (hn : (l.map (·.1)).Nodup) (h : (s, n) ∈ l) : findA l s = some n := by
  induction l with
  | nil => cases h
  | cons x r ih =>
    obtain ⟨k, m⟩ := x
    rw [List.map_cons, List.nodup_cons] at hn
    unfold findA
    rcases List.mem_cons.1 h with e | e
    · cases e; rw [if_pos rfl]
    · rw [if_neg (fun ek => hn.1 (by rw [show k = s from ek]; exact List.mem_map.2 ⟨_, e, rfl⟩)), ih hn.2 e]
theorem findA_isSome {l : Nodes} {s : ByteArray} : (findA l s).isSome = true ↔ s ∈ l.map (·.1) := by
  constructor
  · intro h
    obtain ⟨n, hn⟩ := Option.isSome_iff_exists.1 h
    exact List.mem_map.2 ⟨_, findA_mem hn, rfl⟩
  · intro h
    cases e : findA l s with
    | some n => rfl
    | none =>
      exfalso
      induction l with
      | nil => cases h
      | cons x r ih =>
        obtain ⟨k, m⟩ := x
        unfold findA at e
        split at e
        · cases e
        · rename_i hne
          rw [List.map_cons, List.mem_cons] at h
          rcases h with h | h
          · exact hne h.symm
          · exact ih h e
theorem findA_drop (l : Nodes) (s x : ByteArray) : findA (dropA l s) x = if x = s then none else findA l x := by
  induction l with
  | nil => unfold dropA; simp [findA]
  | cons y r ih =>
    obtain ⟨k, m⟩ := y
    unfold dropA at *
    rw [List.filter_cons]
    by_cases hk : k = s
    · subst hk
      rw [if_neg (by simp), ih]
      by_cases hx : x = k
      · rw [if_pos hx, if_pos hx]
      · rw [if_neg hx, if_neg hx, findA, if_neg (Ne.symm hx)]
    · rw [if_pos (by simpa using hk), findA, ih]
      by_cases hx : x = s
      · subst hx; simp [hk]
      · rw [if_neg hx, if_neg hx, findA]
theorem dropA_nodup {l : Nodes} (h : (l.map (·.1)).Nodup) (s : ByteArray) : ((dropA l s).map (·.1)).Nodup := by
  unfold dropA
  exact (List.Sublist.map _ (List.filter_sublist)).nodup h
theorem perm_find {l m : Nodes} (hl : (l.map (·.1)).Nodup) (h : l.Perm m) (s : ByteArray) : findA l s = findA m s := by
  have hm : (m.map (·.1)).Nodup := (h.map _).nodup_iff.1 hl
  cases e : findA m s with
  | some n => exact findA_of_mem hl (h.mem_iff.2 (findA_mem e))
  | none =>
    cases e2 : findA l s with
    | none => rfl
    | some n => rw [findA_of_mem hm (h.mem_iff.1 (findA_mem e2))] at e; cases e
end Go.Proofs.YtldppmjjgljinaaGreatDoor
