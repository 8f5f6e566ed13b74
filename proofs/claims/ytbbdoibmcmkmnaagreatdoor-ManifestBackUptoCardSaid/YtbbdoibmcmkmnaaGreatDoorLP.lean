/- Walks: the laws on joined paths and on checks. -/
import Derived.Test.YtbbdoibmcmkmnaaGreatDoorLA
import Derived.Test.YtbbdoibmcmkmnaaGreatDoorWO
import Derived.Test.YtbbdoibmcmkmnaaGreatDoorPY
namespace Go.Proofs.YtbbdoibmcmkmnaaGreatDoor
open Go.RowKit Go.Sort

theorem below_step {w W W' : World} (k : Below W.heap.size W W') (h : Below w.heap.size w W) : Below w.heap.size w W' := h.trans (k.mono h.size)
theorem below_stepD {w W W' : World} (k : Below W.heap.size W.drew W') (h : Below w.heap.size w W) : Below w.heap.size w W' := h.drew.trans (k.mono h.size)

set_option maxRecDepth 100000 in
set_option maxHeartbeats 4000000 in
theorem paths_walk (a b : List UInt8) (w : World) (ha : a.length ≤ maxLen) (hb : b.length ≤ maxLen) (hG : Glob w) :
    Calls Tryz.prog 11 #[.string ⟨a.toArray⟩, .string ⟨b.toArray⟩] w fun e w' => e = .returned (.bool true) ∧ Below w.heap.size w w' := by
  unfold maxLen at ha hb
  have HG := Lib.hid hG
  have ca := Lib.hid (fun W hW => alive_any W hW)
  clear hG
  by_cases h1 : 200 < a.length
  · have ht : decide ((200 : Int) < (a.length : Int)) = true := decide_eq_true (by omega)
    go_enter Tryz.func11, Tryz.ntmps11
    go_wp2_with fail
    refine (ca.out _ HG.out).mono ?_
    rintro e w1 ⟨rfl, hb⟩
    go_wp2
    go_ret
    exact ⟨rfl, hb⟩
  have ht : decide ((200 : Int) < (a.length : Int)) = false := decide_eq_false (by omega)
  by_cases h2 : 200 < b.length
  · have ht2 : decide ((200 : Int) < (b.length : Int)) = true := decide_eq_true (by omega)
    go_enter Tryz.func11, Tryz.ntmps11
    go_wp2_with fail
    refine (ca.out _ HG.out).mono ?_
    rintro e w1 ⟨rfl, hb⟩
    go_wp2
    go_ret
    exact ⟨rfl, hb⟩
  have ht2 : decide ((200 : Int) < (b.length : Int)) = false := decide_eq_false (by omega)
  have n1 : ¬ 9223372036854775807 < a.length + 1 := by omega
  have n2 : ¬ 9223372036854775807 < a.length + 1 + b.length := by omega
  have cA := fun W (hW : Below w.heap.size w W) => Path_any a W (by unfold maxLen; omega) (HG.out.keep hW)
  have cB := fun W (hW : Below w.heap.size w W) => Path_any b W (by unfold maxLen; omega) (HG.out.keep hW)
  have cJ := fun W (hW : Below w.heap.size w W) => Path_any (a ++ [47] ++ b) W (by simp; unfold maxLen; omega) (HG.out.keep hW)
  have e : (⟨(a ++ [47] ++ b).toArray⟩ : ByteArray) = ⟨a.toArray⟩ ++ ⟨#[47]⟩ ++ ⟨b.toArray⟩ := by
    rw [show (⟨#[47]⟩ : ByteArray) = ⟨([47] : List UInt8).toArray⟩ from rfl]
    simp only [ByteArray.mk_append_mk]
  rw [e, pathOk_join] at cJ
  have hlt : decide ((a.length : Int) + (b.length : Int) < 60) = decide (a.length + b.length < 60) := decide_eq_decide.2 (by omega)
  have hn : a.length + b.length < 500 := by omega
  generalize decide (a.length + b.length < 60) = q at hlt cJ
  generalize pathOk a = x at cA cJ
  generalize pathOk b = y at cB cJ
  have CA := Lib.hid cA
  have CB := Lib.hid cB
  clear cA cB e h1 h2
  have HJ := Lib.hid cJ
  clear cJ
  cases x <;> cases y <;> cases q
  all_goals
    have cJ := HJ.out
    simp only [Bool.and_true, Bool.and_false] at cJ
    have CJ := Lib.hid cJ
    clear cJ
    go_enter Tryz.func11, Tryz.ntmps11
    go_wp2_with fail
    refine (CJ.out _ (Below.refl _ _)).mono ?_
    rintro e w1 ⟨rfl, hb1⟩
    have HB1 := Lib.hid hb1
    clear hb1
    go_wp2_with fail
    refine (CA.out _ HB1.out).mono ?_
    rintro e w2 ⟨rfl, hb2⟩
    have HB2 := Lib.hid (HB1.out.trans (hb2.mono HB1.out.size))
    clear hb2
    go_wp2_with fail
    first
    | (refine (CB.out _ HB2.out).mono ?_
       rintro e w3 ⟨rfl, hb3⟩
       have HB3 := Lib.hid (HB2.out.trans (hb3.mono HB2.out.size))
       clear hb3
       go_wp2_with fail
       refine (ca.out _ (HG.out.keep HB3.out)).mono ?_
       rintro e w4 ⟨rfl, hb4⟩
       go_wp2
       go_ret
       exact ⟨rfl, HB3.out.trans (hb4.mono HB3.out.size)⟩)
    | (refine (ca.out _ (HG.out.keep HB2.out)).mono ?_
       rintro e w4 ⟨rfl, hb4⟩
       go_wp2
       go_ret
       exact ⟨rfl, HB2.out.trans (hb4.mono HB2.out.size)⟩)

set_option maxRecDepth 100000 in
set_option maxHeartbeats 4000000 in
theorem check_walk (m : Mod) (A : Option Addr) (c : Nat) (l : List Mod) (s : List UInt8) (w : World) (hA : Sl w w.heap.size 4 encM A l) (hl : l.length ≤ 1048576) (hx : ∀ x ∈ m :: l, x.1.length ≤ 1048576) (hs : s.length ≤ maxLen) (hG : Glob w) :
    Calls Tryz.prog 3 #[.agg #[.string ⟨m.1.toArray⟩, .int .i64 m.2.1, .int .i64 m.2.2.1, .int .i64 m.2.2.2, .slice A l.length c], .string ⟨s.toArray⟩] w fun e w' => e = .returned (.bool true) ∧ Below w.heap.size w w' := by
  unfold maxLen at hs
  have HA := Lib.hid hA
  have HG := Lib.hid hG
  have HX := Lib.hid hx
  have ca := Lib.hid (fun W (hW : Below w.heap.size w W) => alive_any W (HG.out.keep hW))
  have cs0 := fun W => lsmall_any m A c l W
  have q0 := Blk.new w 28 #[.string ⟨m.1.toArray⟩, .int .i64 m.2.1, .int .i64 m.2.2.1, .int .i64 m.2.2.2, .slice A l.length c]
  have b0 : Below w.heap.size w (w.alloc (.cells #[.string ⟨m.1.toArray⟩, .int .i64 m.2.1, .int .i64 m.2.2.1, .int .i64 m.2.2.2, .slice A l.length c] 28)) := (Below.refl _ _).alloc (Nat.le_refl _) _
  have Q0 := Lib.hid q0
  have HB0 := Lib.hid b0
  clear hA hG hx q0 b0
  by_cases h80 : l.length ≤ 80
  · rw [decide_eq_true h80] at cs0
    have cs := Lib.hid cs0
    clear cs0
    by_cases h2 : 2000 < s.length
    · have ht : decide ((2000 : Int) < (s.length : Int)) = true := decide_eq_true (by omega)
      go_enter Tryz.func3, Tryz.ntmps3
      go_wp2_with fail
      refine (cs.out _).mono ?_
      rintro e w1 ⟨rfl, hb1⟩
      have hB1 := Lib.hid (HB0.out.trans (hb1.mono HB0.out.size))
      clear hb1
      go_wp2_with fail
      refine (ca.out _ hB1.out).mono ?_
      rintro e w4 ⟨rfl, hb4⟩
      go_wp2
      go_ret
      exact ⟨rfl, hB1.out.trans (hb4.mono hB1.out.size)⟩
    have ht : decide ((2000 : Int) < (s.length : Int)) = false := decide_eq_false (by omega)
    have cC := Lib.hid (fun W (hW : Below w.heap.size w W) => Check_any m A c l W ((HA.out.below hW).more hW.size) (by omega) (fun x hx' => by have := HX.out x hx'; unfold maxLen; omega) (HG.out.keep hW))
    have cD := Lib.hid (fun W (hW : Below w.heap.size w W) => refCheck_any m A c l W ((HA.out.below hW).more hW.size) (by omega) (fun x hx' => by have := HX.out x hx'; omega))
    have cP := Lib.hid (fun W (hW : Below w.heap.size w W) => Path_any s W (by unfold maxLen; omega) (HG.out.keep hW))
    have cQ := Lib.hid (fun W => refPath_any s W (by omega))
    generalize mcheck m l = E at cC cD
    generalize pathOk s = q at cP cQ
    clear h80
    go_enter Tryz.func3, Tryz.ntmps3
    go_wp2_with fail
    refine (cs.out _).mono ?_
    rintro e w1 ⟨rfl, hb1⟩
    have x1 := Lib.hid hb1
    have hB1 := HB0.out.trans (hb1.mono HB0.out.size)
    have y := (Q0.out.keep hb1).cell
    have y0 := y 0
    have y1 := y 1
    have y2 := y 2
    have y3 := y 3
    have y4 := y 4
    simp at y0 y1 y2 y3 y4
    clear y hb1
    go_upto_region 3 with fail
    go_region_held3 (fun W => Below w.heap.size w W ∧ W.cell? ⟨w.heap.size, 0, none⟩ = some (.string ⟨m.1.toArray⟩) ∧ W.cell? ⟨w.heap.size, 1, none⟩ = some (.int .i64 m.2.1) ∧ W.cell? ⟨w.heap.size, 2, none⟩ = some (.int .i64 m.2.2.1) ∧ W.cell? ⟨w.heap.size, 3, none⟩ = some (.int .i64 m.2.2.2) ∧ W.cell? ⟨w.heap.size, 4, none⟩ = some (.slice A l.length c))
      (first | (simp; done) | (go_split_ands; (repeat' apply And.intro) <;> (first | assumption | (apply cell_keep; assumption; assumption) | (apply below_step; assumption; assumption) | exact Below.drew (by assumption) | (apply below_stepD; assumption; assumption))))
      (first | (go_at_call 14; refine (cC.out _ (And.left (by assumption))).mono ?_; rintro e w2 ⟨rfl, hb2⟩) | (go_at_call 15; refine (cD.out _ (And.left (by assumption))).mono ?_; rintro e w2 ⟨rfl, hb2⟩) | (go_at_call 16; refine (cP.out _ (And.left (by assumption))).mono ?_; rintro e w2 ⟨rfl, hb2⟩) | (go_at_call 17; refine (cQ.out _).mono ?_; rintro e w2 ⟨rfl, hb2⟩) | (go_at_call 13; refine (ca.out _ (And.left (by assumption))).mono ?_; rintro e w2 ⟨rfl, hb2⟩))
    go_wp2
    go_ret
    exact ⟨by first | rfl | simp, And.left (by assumption)⟩
  · rw [decide_eq_false h80] at cs0
    have cs := Lib.hid cs0
    clear cs0 h80
    go_enter Tryz.func3, Tryz.ntmps3
    go_wp2_with fail
    refine (cs.out _).mono ?_
    rintro e w1 ⟨rfl, hb1⟩
    have hB1 := Lib.hid (HB0.out.trans (hb1.mono HB0.out.size))
    clear hb1
    go_wp2_with fail
    refine (ca.out _ hB1.out).mono ?_
    rintro e w4 ⟨rfl, hb4⟩
    go_wp2
    go_ret
    exact ⟨rfl, hB1.out.trans (hb4.mono hB1.out.size)⟩
end Go.Proofs.YtbbdoibmcmkmnaaGreatDoor
