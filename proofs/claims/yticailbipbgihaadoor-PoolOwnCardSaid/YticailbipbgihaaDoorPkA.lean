/- The pool's Apply. -/
import Derived.Test.YticailbipbgihaaDoorPk
import Derived.Test.YticailbipbgihaaDoorLast3
import Derived.Deep.RegionHeld3
namespace Go.Proofs.YticailbipbgihaaDoor
open Go.RowKit Go.Maps

/-- With a page. -/
def PSt.has (s : PSt) (i : Int) (q : Page) : PSt := { s with have_ := gput s.have_ i q, nh := (if (s.have_ i).isSome then s.nh else s.nh + 1) }
/-- No more wanted. -/
def PSt.unwant (s : PSt) (i : Int) : PSt := { s with wants := gdel s.wants i, nw := (if (s.wants i).isSome then s.nw - 1 else s.nw) }

end Go.Proofs.YticailbipbgihaaDoor
