/- What the laws on limits and on loosened texts share: a manifest's box; what a parse of a printed manifest gives. -/
import Derived.Test.YtbbdoibmcmkmnaaGreatDoorAL
import Derived.Test.YtbbdoibmcmkmnaaGreatDoorPZ
namespace Go.Proofs.YtbbdoibmcmkmnaaGreatDoor
open Go.RowKit Go.Sort

def manA (m : Mod) (A : Option Addr) (n c : Nat) : Array Value := #[.string ⟨m.1.toArray⟩, .int .i64 m.2.1, .int .i64 m.2.2.1, .int .i64 m.2.2.2, .slice A n c]
/-- the cells of a manifest's box -/
def ManC (W : World) (g : Nat) (m : Mod) (A : Option Addr) (n c : Nat) : Prop :=
  W.cell? ⟨g, 0, none⟩ = some (.string ⟨m.1.toArray⟩) ∧ W.cell? ⟨g, 1, none⟩ = some (.int .i64 m.2.1) ∧ W.cell? ⟨g, 2, none⟩ = some (.int .i64 m.2.2.1) ∧ W.cell? ⟨g, 3, none⟩ = some (.int .i64 m.2.2.2) ∧ W.cell? ⟨g, 4, none⟩ = some (.slice A n c)
theorem manC {W : World} {g : Nat} {m : Mod} {A : Option Addr} {n c : Nat} (h : Blk W g 28 (manA m A n c)) : ManC W g m A n c :=
  ⟨h.cell 0, h.cell 1, h.cell 2, h.cell 3, h.cell 4⟩
def ModC (W : World) (b o : Nat) (p : Mod) : Prop :=
  W.cell? ⟨b, o, none⟩ = some (.string ⟨p.1.toArray⟩) ∧ W.cell? ⟨b, o + 1, none⟩ = some (.int .i64 p.2.1) ∧ W.cell? ⟨b, o + 2, none⟩ = some (.int .i64 p.2.2.1) ∧ W.cell? ⟨b, o + 3, none⟩ = some (.int .i64 p.2.2.2)
theorem ModC.keep {W W' : World} {b o : Nat} {p : Mod} (h : ModC W b o p) (k : Below W.heap.size W W') : ModC W' b o p :=
  ⟨cell_keep k h.1, cell_keep k h.2.1, cell_keep k h.2.2.1, cell_keep k h.2.2.2⟩
theorem modC {W : World} {g : Nat} {p : Mod} (h : Blk W g 25 #[.string ⟨p.1.toArray⟩, .int .i64 p.2.1, .int .i64 p.2.2.1, .int .i64 p.2.2.2]) : ModC W g 0 p :=
  ⟨h.cell 0, h.cell 1, h.cell 2, h.cell 3⟩
theorem hB7 {wx wy W : World} (h : Below wx.heap.size wx wy) (k : Below wy.heap.size wy W) : Below wx.heap.size wx W := h.trans (k.mono h.size)
theorem dec_snoc (x y : Mod) (l : List Mod) : decide (x ∈ l ++ [y]) = (decide (x ∈ l) || decide (x = y)) := by
  rw [Bool.eq_iff_iff]
  simp
/-- what a parse of a printed manifest gives -/
theorem parse_back {m : Mod} {l : List Mod} (h : mcheck m l = 0) (W : World) (hG : Glob W) :
    Calls Tryz.prog 20 #[.string ⟨(mtext m l).toArray⟩] W fun e w' => ∃ A c, e = .returned (.tuple #[.agg #[.string ⟨m.1.toArray⟩, .int .i64 m.2.1, .int .i64 m.2.2.1, .int .i64 m.2.2.2, .slice A (msort l).length c], .agg #[.int .i64 0, .int .i64 0]]) ∧ Sl w' w'.heap.size 4 encM A (msort l) ∧ Below W.heap.size W w' := by
  have hp := mParse_any (mtext m l) mtext_len W hG
  unfold RetMan at hp
  rw [mparse_mtext h] at hp
  exact hp

end Go.Proofs.YtbbdoibmcmkmnaaGreatDoor
