/- What the walks ask of the package-level variables, and that it is kept. -/
import Derived.Test.YtbbdoibmcmkmnaaGreatDoorShelf
import Derived.Test.YtbbdoibmcmkmnaaGreatDoorMem
import Derived.Lib.SmallJoins
namespace Go.Proofs.YtbbdoibmcmkmnaaGreatDoor
open Go.RowKit

/-- the library's variables that are read hold what they hold -/
def Glob (w : World) : Prop :=
  (∃ m, w.cell? ⟨0, 0, none⟩ = some (.int .i64 m)) ∧ (∃ te pe, w.cell? ⟨1, 0, none⟩ = some (.iface te pe)) ∧ Lib.TabIs Tryz.prog w "internal/strconv.uint64pow10" .u64 Lib.pow10Tab
theorem gPow : Tryz.prog.globalNamed "internal/strconv.uint64pow10" = some 5 := by kernel_rfl
theorem Glob.keep {w w' : World} (h : Glob w) (hb : Below w.heap.size w w') : Glob w' := by
  obtain ⟨⟨m, hm⟩, ⟨te, pe, he⟩, ht⟩ := h
  exact ⟨⟨m, cell_keep hb hm⟩, ⟨te, pe, cell_keep hb he⟩, Go.Joins.tab_stays gPow ht hb (Nat.le_refl _)⟩
theorem Glob.alloc {w : World} (h : Glob w) (o : Obj) : Glob (w.alloc o) := h.keep ((Below.refl _ _).alloc (Nat.le_refl _) _)
theorem Glob.drew {w : World} (h : Glob w) : Glob w.drew := h.keep (Below.refl _ _).drew
end Go.Proofs.YtbbdoibmcmkmnaaGreatDoor
