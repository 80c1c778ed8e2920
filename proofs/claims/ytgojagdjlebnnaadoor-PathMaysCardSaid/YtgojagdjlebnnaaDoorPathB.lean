/- Contracts of caravan/path: split, beside; of caravanlaw02: cut. -/
import Derived.Test.YtgojagdjlebnnaaDoorPathA
import Derived.Test.YtgojagdjlebnnaaDoorShelf
namespace Go.Proofs.YtgojagdjlebnnaaDoor
open Go.RowKit

def bs (l : List UInt8) : ByteArray := ⟨l.toArray⟩
def parentS (s : ByteArray) : ByteArray := s.extract 0 (max (Lib.lastIndexByte s 47) 0).toNat
def baseS (s : ByteArray) : ByteArray := s.extract (Lib.lastIndexByte s 47 + 1).toNat s.size

theorem lastIdx_bd (s : ByteArray) (c : Int) (k : Nat) : -1 ≤ Lib.lastIdx s c k ∧ Lib.lastIdx s c k < k := by
  induction k with
  | zero => simp [Lib.lastIdx]
  | succ k ih => unfold Lib.lastIdx; split <;> omega
theorem lastIndexByte_bd (s : ByteArray) (c : Int) : -1 ≤ Lib.lastIndexByte s c ∧ Lib.lastIndexByte s c < s.size := lastIdx_bd s c s.size

set_option maxHeartbeats 400000 in
theorem split_any (s : ByteArray) (w : World) (hs : s.size < 4611686018427387904) :
    Calls Tryd.prog 40 #[.string s] w fun e w' => e = .returned (.tuple #[.string (parentS s), .string (baseS s)]) ∧ ∃ n, w' = w.drewN n := by
  have hb := lastIndexByte_bd s 47
  have C := Tryd.strings_LastIndexByte s 47 hs
  unfold parentS baseS
  generalize Lib.lastIndexByte s 47 = i at *
  have HC := Lib.hid C
  clear C
  obtain ⟨hb1, hb2⟩ := hb
  go_enter Tryd.func40, Tryd.ntmps40
  go_wp2_with (go_at_call 41; refine (HC.out _).mono ?_; rintro e w' ⟨rfl, rfl⟩)
  go_quiet (fail)
  go_wp2
  go_ret2
  exact ⟨rfl, nq, rfl⟩

def cutS (s : ByteArray) : ByteArray := s.extract 0 (min (s.size : Int) 400).toNat
theorem cutS_le (s : ByteArray) : (cutS s).size ≤ 400 := by
  unfold cutS; simp; omega
theorem cut_any (s : ByteArray) (w : World) (hs : s.size ≤ maxLen) :
    Calls Tryd.prog 13 #[.string s] w fun e w' => e = .returned (.string (cutS s)) ∧ w' = w := by
  unfold maxLen at hs
  go_enter Tryd.func13, Tryd.ntmps13
  go_wp2
  go_ret
  exact ⟨rfl, rfl⟩

def besideS (p b : ByteArray) : ByteArray := if p.toList.isEmpty then b else p ++ ⟨#[47]⟩ ++ b
theorem beside_any (p b : ByteArray) (w : World) (hs : p.size + b.size < 9223372036854775807) :
    Calls Tryd.prog 42 #[.string p, .string b] w fun e w' => e = .returned (.string (besideS p b)) ∧ w' = w := by
  unfold besideS
  cases h : p.toList.isEmpty
  · go_enter Tryd.func42, Tryd.ntmps42
    go_wp2
    go_ret
    exact ⟨rfl, rfl⟩
  · go_enter Tryd.func42, Tryd.ntmps42
    go_wp2
    go_ret
    exact ⟨rfl, rfl⟩

/-- The library's variables that the walks read. -/
structure Env (w : World) : Prop where
  maxlen : ∃ m, w.cell? ⟨0, 0, none⟩ = some (.int .i64 m)
  pow10 : Lib.TabIs Tryd.prog w "internal/strconv.uint64pow10" .u64 Lib.pow10Tab
theorem Env.ext {w w' : World} (h : Env w) (k : Ext w w') : Env w' :=
  ⟨let ⟨m, hm⟩ := h.maxlen; ⟨m, by rw [k.cell (lt_of_cell hm)]; exact hm⟩, Go.Joins.tab_stays (g := 3) (by kernel_rfl) h.pow10 k (Nat.le_refl _)⟩

def piecesOf (s : ByteArray) : List ByteArray := Lib.splitB ⟨#[47]⟩ 0 (Lib.countB s ⟨#[47]⟩) s

set_option maxHeartbeats 400000 in
theorem mayEach_any (s : ByteArray) (b : Nat) (g : Bool) (w : World) (hs : s.size ≤ maxLen) (hc : w.cell? ⟨b, 0, none⟩ = some (.bool g)) (hf : w.frozen? ⟨b, 0, none⟩ = false) :
    Calls Tryd.prog 49 #[.string s, .pointer (some ⟨b, 0, none⟩)] w fun e w' => e = .returned (.tuple #[]) ∧ w' = w.setCell ⟨b, 0, none⟩ (.bool (g && nameB s.toList)) := by
  cases g
  · go_enter Tryd.func49, Tryd.ntmps49
    go_wp2
    go_end0
    exact ⟨rfl, rfl⟩
  · go_enter Tryd.func49, Tryd.ntmps49
    go_wp2_with (go_at_call 27; refine (name_any _ _ hs).mono ?_; rintro e w' ⟨rfl, rfl⟩)
    go_end0
    exact ⟨rfl, rfl⟩
end Go.Proofs.YtgojagdjlebnnaaDoor
