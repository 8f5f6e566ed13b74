/- What the walks ask of the package-level variables, and that it is kept. -/
import Derived.Test.YtfiilbdkhelhgaaDoorShelf
import Derived.Test.YtfiilbdkhelhgaaDoorG1
namespace Go.Proofs.YtfiilbdkhelhgaaDoor
open Go.RowKit

/-- the library's variables that are read hold what they hold -/
def Glob (w : World) : Prop := (∃ m, w.cell? ⟨0, 0, none⟩ = some (.int .i64 m)) ∧ True
theorem Glob.keep {w w' : World} (h : Glob w) (hb : Below w.heap.size w w') : Glob w' := by
  obtain ⟨⟨m, hm⟩, _⟩ := h
  exact ⟨⟨m, cell_keep hb hm⟩, trivial⟩
theorem Glob.alloc {w : World} (h : Glob w) (o : Obj) : Glob (w.alloc o) := h.keep ((Below.refl _ _).alloc (Nat.le_refl _) _)
theorem Glob.drew {w : World} (h : Glob w) : Glob w.drew := h.keep (Below.refl _ _).drew
end Go.Proofs.YtfiilbdkhelhgaaDoor
