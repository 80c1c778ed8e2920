/- Contracts of caravan/path: split, and what May calls on each part. -/
import Derived.Test.YtldppmjjgljinaaGreatDoorPathA
import Derived.Test.YtldppmjjgljinaaGreatDoorShelf
import Derived.Test.YtldppmjjgljinaaGreatDoorEnv
namespace Go.Proofs.YtldppmjjgljinaaGreatDoor
open Go.RowKit

def bs (l : List UInt8) : ByteArray := ⟨l.toArray⟩
def parentS (s : ByteArray) : ByteArray := s.extract 0 (max (Lib.lastIndexByte s 47) 0).toNat
def baseS (s : ByteArray) : ByteArray := s.extract (Lib.lastIndexByte s 47 + 1).toNat s.size

theorem lastIdx_bd (s : ByteArray) (c : Int) (k : Nat) : -1 ≤ Lib.lastIdx s c k ∧ Lib.lastIdx s c k < k := by
  induction k with
  | zero => simp [Lib.lastIdx]
  | succ k ih => unfold Lib.lastIdx; split <;> omega
theorem lastIndexByte_bd (s : ByteArray) (c : Int) : -1 ≤ Lib.lastIndexByte s c ∧ Lib.lastIndexByte s c < s.size := lastIdx_bd s c s.size

set_option maxHeartbeats 400000 in
theorem split_any (s : ByteArray) (w : World) (hs : s.size < 4611686018427387904) :
    Calls Tryz.prog 93 #[.string s] w fun e w' => e = .returned (.tuple #[.string (parentS s), .string (baseS s)]) ∧ ∃ n, w' = w.drewN n := by
  have hb := lastIndexByte_bd s 47
  have C := Tryz.strings_LastIndexByte s 47 hs
  unfold parentS baseS
  generalize Lib.lastIndexByte s 47 = i at *
  have HC := Lib.hid C
  clear C
  obtain ⟨hb1, hb2⟩ := hb
  go_enter Tryz.func93, Tryz.ntmps93
  go_wp2_with (go_at_call 159; refine (HC.out _).mono ?_; rintro e w' ⟨rfl, rfl⟩)
  go_quiet (fail)
  go_wp2
  go_ret2
  exact ⟨rfl, nq, rfl⟩

def piecesOf (s : ByteArray) : List ByteArray := Lib.splitB ⟨#[47]⟩ 0 (Lib.countB s ⟨#[47]⟩) s

set_option maxHeartbeats 400000 in
theorem mayEach_any (s : ByteArray) (b : Nat) (g : Bool) (w : World) (hs : s.size ≤ maxLen) (hc : w.cell? ⟨b, 0, none⟩ = some (.bool g)) (hf : w.frozen? ⟨b, 0, none⟩ = false) :
    Calls Tryz.prog 157 #[.string s, .pointer (some ⟨b, 0, none⟩)] w fun e w' => e = .returned (.tuple #[]) ∧ w' = w.setCell ⟨b, 0, none⟩ (.bool (g && nameB s.toList)) := by
  cases g
  · go_enter Tryz.func157, Tryz.ntmps157
    go_wp2
    go_end0
    exact ⟨rfl, rfl⟩
  · go_enter Tryz.func157, Tryz.ntmps157
    go_wp2_with (go_at_call 158; refine (name_any _ _ hs).mono ?_; rintro e w' ⟨rfl, rfl⟩)
    go_end0
    exact ⟨rfl, rfl⟩
end Go.Proofs.YtldppmjjgljinaaGreatDoor
