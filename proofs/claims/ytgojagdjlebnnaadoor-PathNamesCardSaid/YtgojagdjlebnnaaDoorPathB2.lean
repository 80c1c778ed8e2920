/- Contracts of caravan/path: beside; of caravanlaw02: cut. -/
import Derived.Test.YtgojagdjlebnnaaDoorPathB
namespace Go.Proofs.YtgojagdjlebnnaaDoor
open Go.RowKit

def cutS (s : ByteArray) : ByteArray := s.extract 0 (min (s.size : Int) 400).toNat
theorem cutS_le (s : ByteArray) : (cutS s).size ≤ 400 := by
  unfold cutS; simp; omega
theorem cut_any (s : ByteArray) (w : World) (hs : s.size ≤ maxLen) :
    Calls Tryd.prog 13 #[.string s] w fun e w' => e = .returned (.string (cutS s)) ∧ w' = w := by
  unfold maxLen at hs
  go_enter Tryd.func13, Tryd.ntmps13
  go_wp2
  go_ret
  exact ⟨rfl, rfl⟩

def besideS (p b : ByteArray) : ByteArray := if p.toList.isEmpty then b else p ++ ⟨#[47]⟩ ++ b
theorem beside_any (p b : ByteArray) (w : World) (hs : p.size + b.size < 9223372036854775807) :
    Calls Tryd.prog 42 #[.string p, .string b] w fun e w' => e = .returned (.string (besideS p b)) ∧ w' = w := by
  unfold besideS
  cases h : p.toList.isEmpty
  · go_enter Tryd.func42, Tryd.ntmps42
    go_wp2
    go_ret
    exact ⟨rfl, rfl⟩
  · go_enter Tryd.func42, Tryd.ntmps42
    go_wp2
    go_ret
    exact ⟨rfl, rfl⟩

end Go.Proofs.YtgojagdjlebnnaaDoor
