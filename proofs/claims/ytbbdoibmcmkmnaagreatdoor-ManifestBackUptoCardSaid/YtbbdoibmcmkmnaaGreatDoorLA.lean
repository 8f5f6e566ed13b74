/- Walks: the laws on checks, texts and paths of manifests. -/
import Derived.Test.YtbbdoibmcmkmnaaGreatDoorAL
import Derived.Test.YtbbdoibmcmkmnaaGreatDoorWTx
namespace Go.Proofs.YtbbdoibmcmkmnaaGreatDoor
open Go.RowKit Go.Sort

theorem lsmall_any (m : Mod) (A : Option Addr) (c : Nat) (l : List Mod) (w : World) :
    Calls Tryz.prog 12 #[.agg #[.string ⟨m.1.toArray⟩, .int .i64 m.2.1, .int .i64 m.2.2.1, .int .i64 m.2.2.2, .slice A l.length c]] w fun e w' => e = .returned (.bool (decide (l.length ≤ 80))) ∧ Below w.heap.size w w' := by
  by_cases h : l.length ≤ 80
  · rw [decide_eq_true h]
    have h' : (l.length : Int) ≤ 80 := by omega
    go_enter Tryz.func12, Tryz.ntmps12
    go_wp2
    go_ret
    exact ⟨by first | rfl | simp [h'], (Below.refl _ _).alloc (Nat.le_refl _) _⟩
  · rw [decide_eq_false h]
    have h' : ¬ (l.length : Int) ≤ 80 := by omega
    go_enter Tryz.func12, Tryz.ntmps12
    go_wp2
    go_ret
    exact ⟨by first | rfl | simp [h'], (Below.refl _ _).alloc (Nat.le_refl _) _⟩

set_option maxRecDepth 100000 in
set_option maxHeartbeats 4000000 in
theorem text_walk (m : Mod) (A : Option Addr) (c : Nat) (l : List Mod) (w : World) (hA : Sl w w.heap.size 4 encM A l) (hl : l.length ≤ 1048576) (hx : ∀ x ∈ m :: l, x.1.length ≤ 1048576) (hG : Glob w) :
    Calls Tryz.prog 4 #[.agg #[.string ⟨m.1.toArray⟩, .int .i64 m.2.1, .int .i64 m.2.2.1, .int .i64 m.2.2.2, .slice A l.length c]] w fun e w' => e = .returned (.bool true) ∧ Below w.heap.size w w' := by
  have HA := Lib.hid hA
  have HG := Lib.hid hG
  have HX := Lib.hid hx
  have ca := Lib.hid (fun W hW => alive_any W hW)
  have cs0 := fun W => lsmall_any m A c l W
  have q0 := Blk.new w 28 #[.string ⟨m.1.toArray⟩, .int .i64 m.2.1, .int .i64 m.2.2.1, .int .i64 m.2.2.2, .slice A l.length c]
  have b0 : Below w.heap.size w (w.alloc (.cells #[.string ⟨m.1.toArray⟩, .int .i64 m.2.1, .int .i64 m.2.2.1, .int .i64 m.2.2.2, .slice A l.length c] 28)) := (Below.refl _ _).alloc (Nat.le_refl _) _
  have Q0 := Lib.hid q0
  have HB0 := Lib.hid b0
  clear hA hG hx q0 b0
  by_cases h80 : l.length ≤ 80
  · rw [decide_eq_true h80] at cs0
    have cs := Lib.hid cs0
    have cT := Lib.hid (fun W (hW : Below w.heap.size w W) => mText_any m A c l W ((HA.out.below hW).more hW.size) (by omega) (fun x hx' => by have := HX.out x hx'; unfold maxLen; omega) (HG.out.keep hW))
    have cR := Lib.hid (fun W (hW : Below w.heap.size w W) => refmText_any m A c l W ((HA.out.below hW).more hW.size) (by omega) (fun x hx' => by have := HX.out x hx'; omega))
    generalize mtext m l = T at cT cR
    generalize mcheck m l = E at cT cR
    clear cs0 h80
    go_enter Tryz.func4, Tryz.ntmps4
    go_wp2_with fail
    refine (cs.out _).mono ?_
    rintro e w1 ⟨rfl, hb1⟩
    have x1 := Lib.hid hb1
    have hB1 := Lib.hid (HB0.out.trans (hb1.mono HB0.out.size))
    have y := (Q0.out.keep hb1).cell
    have y0 := y 0
    have y1 := y 1
    have y2 := y 2
    have y3 := y 3
    have y4 := y 4
    simp at y0 y1 y2 y3 y4
    clear y hb1
    go_wp2_with fail
    refine (cT.out _ hB1.out).mono ?_
    rintro e w2 ⟨rfl, hb2⟩
    have hB2 := Lib.hid (hB1.out.trans (hb2.mono hB1.out.size))
    have z := ((Q0.out.keep x1.out).keep hb2).cell
    have z0 := z 0
    have z1 := z 1
    have z2 := z 2
    have z3 := z 3
    have z4 := z 4
    simp at z0 z1 z2 z3 z4
    clear z hb2 y0 y1 y2 y3 y4
    go_wp2_with fail
    refine (cR.out _ hB2.out).mono ?_
    rintro e w3 ⟨rfl, hb3⟩
    have hB3 := Lib.hid (hB2.out.trans (hb3.mono hB2.out.size))
    clear hb3 z0 z1 z2 z3 z4
    go_wp2_with fail
    refine (ca.out _ (HG.out.keep hB3.out)).mono ?_
    rintro e w4 ⟨rfl, hb4⟩
    go_wp2
    go_ret
    exact ⟨rfl, hB3.out.trans (hb4.mono hB3.out.size)⟩
  · rw [decide_eq_false h80] at cs0
    have cs := Lib.hid cs0
    clear cs0 h80
    go_enter Tryz.func4, Tryz.ntmps4
    go_wp2_with fail
    refine (cs.out _).mono ?_
    rintro e w1 ⟨rfl, hb1⟩
    have hB1 := Lib.hid (HB0.out.trans (hb1.mono HB0.out.size))
    clear hb1
    go_wp2_with fail
    refine (ca.out _ (HG.out.keep hB1.out)).mono ?_
    rintro e w4 ⟨rfl, hb4⟩
    go_wp2
    go_ret
    exact ⟨rfl, hB1.out.trans (hb4.mono hB1.out.size)⟩
end Go.Proofs.YtbbdoibmcmkmnaaGreatDoor
