/- Walk: the module of a line, by the document (ref44.module). -/
import Derived.Test.YtbbdoibmcmkmnaaGreatDoorVR
import Derived.Test.YtbbdoibmcmkmnaaGreatDoorPV
import Derived.Test.YtbbdoibmcmkmnaaGreatDoorWF
namespace Go.Proofs.YtbbdoibmcmkmnaaGreatDoor
open Go.RowKit

def retM : Option Mod → Value
  | some m => .tuple #[.agg #[.string ⟨m.1.toArray⟩, .int .i64 m.2.1, .int .i64 m.2.2.1, .int .i64 m.2.2.2], .bool true]
  | none => .tuple #[.agg #[.string ⟨#[]⟩, .int .i64 0, .int .i64 0, .int .i64 0], .bool false]
/-- a function hands back a module, or none -/
def RetM (w : World) (o : Option Mod) (e : Ending) (w' : World) : Prop := e = .returned (retM o) ∧ Below w.heap.size w w'
theorem retM_none {w w' : World} {o : Option Mod} (h : o = none) (hb : Below w.heap.size w w') : RetM w o (.returned (.tuple #[.agg #[.string ⟨#[]⟩, .int .i64 0, .int .i64 0, .int .i64 0], .bool false])) w' := by subst h; exact ⟨rfl, hb⟩
theorem retM_some {w w' : World} {o : Option Mod} {p : List UInt8} {x y z : Int} (h : o = some (p, x, y, z)) (hb : Below w.heap.size w w') : RetM w o (.returned (.tuple #[.agg #[.string ⟨p.toArray⟩, .int .i64 x, .int .i64 y, .int .i64 z], .bool true])) w' := by subst h; exact ⟨rfl, hb⟩

set_option maxRecDepth 100000 in
set_option maxHeartbeats 4000000 in
theorem refmodule_any (A : Option Addr) (c : Nat) (ws : List (List UInt8)) (first : List UInt8) (w : World) (hA : Sl w w.heap.size 1 encS A ws) (hl : ws.length ≤ 1099511627776) (hx : ∀ t ∈ ws, t.length ≤ 65536) :
    Calls Tryz.prog 47 #[.slice A ws.length c, .string ⟨first.toArray⟩] w (RetM w (wordM first ws)) := by
  have HB0 := Lib.hid (show Below w.heap.size w (w.alloc (.cells #[.string ⟨#[]⟩, .int .i64 0, .int .i64 0, .int .i64 0] 25)) from (Below.refl _ _).alloc (Nat.le_refl _) _)
  by_cases h3 : ws.length = 3
  · obtain ⟨a, p, v, rfl⟩ : ∃ a p v, ws = [a, p, v] := by
      match ws, h3 with
      | [a, p, v], _ => exact ⟨a, p, v, rfl⟩
    have hp := hx p (by simp)
    have hv := hx v (by simp)
    obtain ⟨b, off, rfl, hbB, g0⟩ := hA.str (i := 0) (by simp)
    have S1 := hA.str (i := 1) (by simp)
    have S2 := hA.str (i := 2) (by simp)
    obtain ⟨b1, off1, e1, _, g1⟩ := S1
    obtain ⟨b2, off2, e2, _, g2⟩ := S2
    simp only [Option.some.injEq, Addr.mk.injEq, and_true] at e1 e2
    obtain ⟨rfl, rfl⟩ := e1
    obtain ⟨rfl, rfl⟩ := e2
    simp only [List.getElem_cons_zero, List.getElem_cons_succ, Nat.add_zero] at g0 g1 g2
    have HW := Lib.hid (wordM_three first a p v)
    generalize wordM first [a, p, v] = O at HW ⊢
    have q0 := Blk.new w 25 #[.string ⟨#[]⟩, .int .i64 0, .int .i64 0, .int .i64 0]
    have Q0 := Lib.hid q0
    have z1 := cell_keep HB0.out g1
    have z2 := cell_keep HB0.out g2
    clear hx hl h3 hA q0
    generalize hR : RetM w O = R
    by_cases ha : a = first
    · subst ha
      have cp := fun W => refPath_any p W (by omega)
      cases hpo : pathOk p
      · have hn := Lib.hid (show O = none by rw [HW.out, if_neg (fun h => by rw [hpo] at h; cases h.2)])
        rw [hpo] at cp
        have cP := Lib.hid cp
        clear cp hpo HW
        go_enter Tryz.func47, Tryz.ntmps47
        go_wp2_with (go_at_call 17; refine (cP.out _).mono ?_; rintro e w1 ⟨rfl, hb1⟩; have Q1 := Q0.out.keep hb1; have HB1 := Lib.hid (HB0.out.trans (hb1.mono HB0.out.size)); have y0 := Q1.cell 0; have y1 := Q1.cell 1; have y2 := Q1.cell 2; have y3 := Q1.cell 3; have f0 := Q1.free 0; have f1 := Q1.free 1; have f2 := Q1.free 2; have f3 := Q1.free 3; simp at y0 y1 y2 y3; clear Q1 hb1 cP)
        refine bodyPost_ret (v := .tuple #[.agg #[.string ⟨#[]⟩, .int .i64 0, .int .i64 0, .int .i64 0], .bool false]) (by simp [results, Tryz.results47, go_sem, y0, y1, y2, y3]) rfl ?_
        rw [← hR]
        exact retM_none hn.out ((((HB1.out.setCell (p := ⟨w.heap.size, 0, none⟩) (Nat.le_refl _) _).setCell (p := ⟨w.heap.size, 1, none⟩) (Nat.le_refl _) _).setCell (p := ⟨w.heap.size, 2, none⟩) (Nat.le_refl _) _).setCell (p := ⟨w.heap.size, 3, none⟩) (Nat.le_refl _) _)
      · have HO := Lib.hid (show O = (vparse v).map fun x => (p, x) by rw [HW.out, if_pos ⟨rfl, hpo⟩])
        rw [hpo] at cp
        have cP := Lib.hid cp
        clear cp hpo HW
        have cV := Lib.hid (fun W => refvParse_any v W (by unfold maxLen; omega))
        go_enter Tryz.func47, Tryz.ntmps47
        go_wp2_with (first | (go_at_call 17; refine (cP.out _).mono ?_; rintro e w1 ⟨rfl, hb1⟩; have Q1 := Lib.hid (Q0.out.keep hb1); have HB1 := Lib.hid (HB0.out.trans (hb1.mono HB0.out.size)); have i1 := cell_keep hb1 z1; have i2 := cell_keep hb1 z2; clear hb1 cP g0 g1 g2 z1 z2) | fail)
        refine (cV.out _).mono ?_
        rintro e w2 ⟨rfl, hb2⟩
        have Q2 := Lib.hid (Q1.out.keep hb2)
        have HB2 := Lib.hid (HB1.out.trans (hb2.mono HB1.out.size))
        have h1 := cell_keep hb2 i1
        clear hb2 cV i1 i2
        unfold vver verr at *
        cases hvp : vparse v with
        | none =>
          have hn := Lib.hid (show O = none by rw [HO.out, hvp]; rfl)
          clear HO hvp
          have Q3 := Q2.out.keep ((Below.refl _ _).alloc (Nat.le_refl _) (.cells #[.int .i64 0, .int .i64 0, .int .i64 0] 23))
          have y0 := Q3.cell 0
          have y1 := Q3.cell 1
          have y2 := Q3.cell 2
          have y3 := Q3.cell 3
          have f0 := Q3.free 0
          have f1 := Q3.free 1
          have f2 := Q3.free 2
          have f3 := Q3.free 3
          simp at y0 y1 y2 y3
          clear Q3
          simp only [Option.getD_none, Option.isSome_none, Bool.false_eq_true, if_false]
          go_wp2
          refine bodyPost_ret (v := .tuple #[.agg #[.string ⟨#[]⟩, .int .i64 0, .int .i64 0, .int .i64 0], .bool false]) (by simp [results, Tryz.results47, go_sem, y0, y1, y2, y3]) rfl ?_
          rw [← hR]
          exact retM_none hn.out (((((HB2.out.alloc HB2.out.size _).setCell (p := ⟨w.heap.size, 0, none⟩) (Nat.le_refl _) _).setCell (p := ⟨w.heap.size, 1, none⟩) (Nat.le_refl _) _).setCell (p := ⟨w.heap.size, 2, none⟩) (Nat.le_refl _) _).setCell (p := ⟨w.heap.size, 3, none⟩) (Nat.le_refl _) _)
        | some q =>
          obtain ⟨x, y, z⟩ := q
          have hn := Lib.hid (show O = some (p, x, y, z) by rw [HO.out, hvp]; rfl)
          clear HO hvp
          simp only [Option.getD_some, Option.isSome_some, if_true]
          have Q3 := Q2.out.keep ((Below.refl _ _).alloc (Nat.le_refl _) (.cells #[.int .i64 x, .int .i64 y, .int .i64 z] 23))
          have y0 := Q3.cell 0
          have y1 := Q3.cell 1
          have y2 := Q3.cell 2
          have y3 := Q3.cell 3
          have f0 := Q3.free 0
          have f1 := Q3.free 1
          have f2 := Q3.free 2
          have f3 := Q3.free 3
          simp at y0 y1 y2 y3
          clear Q3
          have V3 := Blk.new w2 23 #[.int .i64 x, .int .i64 y, .int .i64 z]
          have HB3 := Lib.hid (HB2.out.alloc HB2.out.size (.cells #[.int .i64 x, .int .i64 y, .int .i64 z] 23))
          have j1 := cell_keep_alloc (.cells #[.int .i64 x, .int .i64 y, .int .i64 z] 23) h1
          have v0 := V3.cell 0
          have v1 := V3.cell 1
          have v2 := V3.cell 2
          simp at v0 v1 v2
          clear V3
          go_upto_region 6 with fail
          go_region
          all_goals
            go_wp2
            refine bodyPost_ret (v := .tuple #[.agg #[.string ⟨p.toArray⟩, .int .i64 x, .int .i64 y, .int .i64 z], .bool true]) (by simp [results, Tryz.results47, go_sem, y0, y1, y2, y3]) rfl ?_
            rw [← hR]
            have hB := HB3.out
            first
              | exact retM_some hn.out (((((hB.setCell (p := ⟨w.heap.size, 0, none⟩) (Nat.le_refl _) _).setCell (p := ⟨w.heap.size, 1, none⟩) (Nat.le_refl _) _).setCell (p := ⟨w.heap.size, 2, none⟩) (Nat.le_refl _) _).setCell (p := ⟨w.heap.size, 3, none⟩) (Nat.le_refl _) _).drew)
              | exact retM_some hn.out ((((hB.drew.setCell (p := ⟨w.heap.size, 0, none⟩) (Nat.le_refl _) _).setCell (p := ⟨w.heap.size, 1, none⟩) (Nat.le_refl _) _).setCell (p := ⟨w.heap.size, 2, none⟩) (Nat.le_refl _) _).setCell (p := ⟨w.heap.size, 3, none⟩) (Nat.le_refl _) _)
              | exact retM_some hn.out (((((hB.setCell (p := ⟨w.heap.size, 0, none⟩) (Nat.le_refl _) _).setCell (p := ⟨w.heap.size, 1, none⟩) (Nat.le_refl _) _).setCell (p := ⟨w.heap.size, 2, none⟩) (Nat.le_refl _) _).setCell (p := ⟨w.heap.size, 3, none⟩) (Nat.le_refl _) _).drewN _)
    · have ha' : (a == first) = false := beq_eq_false_iff_ne.2 ha
      have hn := Lib.hid (show O = none by rw [HW.out, if_neg (fun h => ha h.1)])
      clear ha HW
      go_enter Tryz.func47, Tryz.ntmps47
      go_wp2
      refine bodyPost_ret (v := .tuple #[.agg #[.string ⟨#[]⟩, .int .i64 0, .int .i64 0, .int .i64 0], .bool false]) (by simp [results, Tryz.results47, go_sem]) rfl ?_
      rw [← hR]
      exact retM_none hn.out HB0.out
  · have h3' : ¬ (ws.length : Int) = 3 := by omega
    have hn := Lib.hid (wordM_len (first := first) h3)
    clear h3 hA hx
    generalize hR : RetM w (wordM first ws) = R
    go_enter Tryz.func47, Tryz.ntmps47
    go_wp2
    refine bodyPost_ret (v := .tuple #[.agg #[.string ⟨#[]⟩, .int .i64 0, .int .i64 0, .int .i64 0], .bool false]) (by simp [results, Tryz.results47, go_sem]) rfl ?_
    rw [← hR]
    exact retM_none hn.out HB0.out
end Go.Proofs.YtbbdoibmcmkmnaaGreatDoor
