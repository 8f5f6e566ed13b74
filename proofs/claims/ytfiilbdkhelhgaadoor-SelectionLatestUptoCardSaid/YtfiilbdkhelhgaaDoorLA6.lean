/- What came in, as the walks want it. -/
import Derived.Test.YtfiilbdkhelhgaaDoorOpen2
import Derived.Test.YtfiilbdkhelhgaaDoorWL3
namespace Go.Proofs.YtfiilbdkhelhgaaDoor
open Go.RowKit

theorem man_in {w : World} {y : ManW} (h : inW w 1048576 y) : ManLoose w y :=
  ⟨h.2.1, h.2.2.2.2, fun m hm => by
    rcases List.mem_cons.1 hm with rfl | hm
    · exact h.1
    · exact h.2.2.1 m hm⟩
theorem reg_in {w : World} {A : Option Addr} {L : List ManW} (hS : Sl w w.heap.size 5 encW A L) (hO : ∀ y ∈ L, inW w 1048576 y) (hl : L.length ≤ 1048576) : RegLoose w A L := ⟨hS, fun y hy => man_in (hO y hy), hl⟩
end Go.Proofs.YtfiilbdkhelhgaaDoor
