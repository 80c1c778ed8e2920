import Derived.Test.YtldppmjjgljinaaGreatDoorTpD1
import Derived.Test.YtldppmjjgljinaaGreatDoorTpC3
import Derived.Test.YtldppmjjgljinaaGreatDoorTpJ3
import Derived.Test.YtldppmjjgljinaaGreatDoorTpD3
import Derived.Sort.Walk0
import Derived.Laws.CopyOwn
open Go.Proofs.Tryz
namespace Go.Proofs.YtldppmjjgljinaaGreatDoor
open Go.RowKit
section
end
section
end
section
end
section
structure Fl (D:Dk):Prop where
 live:FileOk D.live
 lasts:FileOk D.lasts
theorem Fl.made (room:Nat):Fl (Dk.made room):=⟨FileOk.nil,FileOk.nil⟩
theorem Fl.act {D:Dk} (F:Fl D) (x:Eff):Fl (D.act x).2:=by
 unfold Dk.act
 repeat (first | exact F | exact ⟨F.live.eff _ _ x,F.lasts⟩ | split)
theorem DkRun.dofit {k:Nat} {D:Dk} (R:DkRun k D) (F:Fl D) (hk:k<=1048576):DoFit D:=⟨R.ok,F.live,by have:=R.len;omega,by have:=R.lo;omega,R.hi⟩
section
variable {w0 w:World} {A B:List Thing} {r:Nat} {D:Dk}
theorem ref_many {R:Int×Dk} {F:FuncId} {args:Array Value} (h:Things w0 w (A++.ref r D::B)) (hc:∀ M I,RkAt w r M I D->Calls prog F args w (RkPost w r M I R)) :
  Calls prog F args w fun e w'=>e=.returned (.int .i64 R.1)/\Things w0 w' (A++.ref r R.2::B):=by
 obtain ⟨M,I,h1,h2,h3⟩:=h.opened;refine (hc M I h1).mono ?_;rintro e w' ⟨he,M',I',h4,h5⟩;exact ⟨he,h3 w' M' I' (.ref r R.2) h4 h5⟩
theorem rmade_many (h:Things w0 w A) (room:Nat):Calls prog 42 #[.int .i64 (room:Nat)] w fun e w'=>∃ r,e=.returned (.pointer (some ⟨r,0,none⟩))/\Things w0 w' (A++[.ref r (Dk.made room)]):=by
 refine (rmade_any room w).mono ?_;rintro e w' ⟨r,M,I,he,h1,h2,h3,h4⟩;exact ⟨r,he,h.add h2 h1 h3 h4⟩
end
end
section
end
end Go.Proofs.YtldppmjjgljinaaGreatDoor
