import Derived.Test.YtldppmjjgljinaaGreatDoorTpC3
import Derived.Test.YtldppmjjgljinaaGreatDoorTpA2
open Go.Proofs.Tryz
namespace Go.Proofs.YtldppmjjgljinaaGreatDoor
open Go.RowKit
section
open Go.Sort (Holds)
open Go.Maps (has_true_of_atKey)
theorem owns_base {W:World} {base base':Nat} {e:TypeId} {size:Nat} {v:Value} {k:Nat} {xs:List Value} (h:W.ownsRow base e size v k xs) (hb:base'<=base):W.ownsRow base' e size v k xs:=by
 refine ⟨h.1,?_⟩;rcases h.2 with h1 | ⟨g,cap,cur,hv,hg,hh,hr⟩
 ·exact .inl h1
 ·exact .inr ⟨g,cap,cur,hv,Nat.le_trans hb hg,hh,hr⟩
end
section
open Go.Sort (Holds SWO)
open Go.Maps (has_true_of_atKey)
abbrev Txt160:={ l:List UInt8 // l.length<=160 }
instance:Inhabited Txt160:=⟨⟨[],Nat.zero_le _⟩⟩
end
section
end
section
end
end Go.Proofs.YtldppmjjgljinaaGreatDoor
