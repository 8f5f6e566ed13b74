/- Walk: the build list of a root (selection.BuildList). -/
import Derived.Test.YtfiilbdkhelhgaaDoorWS4
import Derived.Test.YtfiilbdkhelhgaaDoorG3
import Derived.Deep.RegionHeld3
namespace Go.Proofs.YtfiilbdkhelhgaaDoor
open Go.RowKit Go.Sort

theorem below_step {w W W' : World} (k : Below W.heap.size W W') (h : Below w.heap.size w W) : Below w.heap.size w W' := h.trans (k.mono h.size)
theorem below_stepD {w W W' : World} (k : Below W.heap.size W.drew W') (h : Below w.heap.size w W) : Below w.heap.size w W' := h.drew.trans (k.mono h.size)
/-- a function hands back modules and an error -/
def RetB (w : World) (r : List Mod × Int) (e : Ending) (w' : World) : Prop :=
  ∃ A c, e = .returned (.tuple #[.slice A r.1.length c, .int .i64 r.2]) ∧ r.1.length ≤ c ∧ Sl w' w'.heap.size 4 encM A r.1 ∧ Below w.heap.size w w'
theorem retB_nil {w w' : World} {r : List Mod × Int} {n : Int} (h : r = ([], n)) (hb : Below w.heap.size w w') : RetB w r (.returned (.tuple #[.slice none 0 0, .int .i64 n])) w' := by
  subst h
  exact ⟨none, 0, rfl, Nat.le_refl _, Sl.nil_, hb⟩
theorem retB_some {w w' : World} {r : List Mod × Int} {n : Nat} {L : List Mod} {A : Option Addr} {c : Nat} (h : r = (L, 0)) (hn : n = L.length) (hc : n ≤ c) (hS : Sl w' w'.heap.size 4 encM A L) (hb : Below w.heap.size w w') : RetB w r (.returned (.tuple #[.slice A n c, .int .i64 0])) w' := by
  subst h hn
  exact ⟨A, c, rfl, hc, hS, hb⟩
def manA (m : Mod) (A : Option Addr) (n c : Nat) : Array Value := #[.string ⟨m.1.toArray⟩, .int .i64 m.2.1, .int .i64 m.2.2.1, .int .i64 m.2.2.2, .slice A n c]
/-- the cells of a manifest's box -/
def ManC (W : World) (g : Nat) (m : Mod) (A : Option Addr) (n c : Nat) : Prop :=
  W.cell? ⟨g, 0, none⟩ = some (.string ⟨m.1.toArray⟩) ∧ W.cell? ⟨g, 1, none⟩ = some (.int .i64 m.2.1) ∧ W.cell? ⟨g, 2, none⟩ = some (.int .i64 m.2.2.1) ∧ W.cell? ⟨g, 3, none⟩ = some (.int .i64 m.2.2.2) ∧ W.cell? ⟨g, 4, none⟩ = some (.slice A n c)
theorem manC {W : World} {g : Nat} {m : Mod} {A : Option Addr} {n c : Nat} (h : Blk W g 29 (manA m A n c)) : ManC W g m A n c :=
  ⟨h.cell 0, h.cell 1, h.cell 2, h.cell 3, h.cell 4⟩

set_option maxRecDepth 100000 in
set_option maxHeartbeats 4000000 in
theorem BuildList_any (A : Option Addr) (c : Nat) (Y : List ManW) (y0 : ManW) (w : World) (hY : RegOk w w.heap.size A Y) (h0 : ManOk w w.heap.size y0) (hG : Glob w) :
    Calls Tryd.prog 10 #[.slice A Y.length c, .agg #[.string ⟨y0.1.1.toArray⟩, .int .i64 y0.1.2.1, .int .i64 y0.1.2.2.1, .int .i64 y0.1.2.2.2, .slice y0.2.1 y0.2.2.2.length y0.2.2.1]] w (RetB w (buildP (regW Y) y0.1 y0.2.2.2)) := by
  obtain ⟨rm, A0, c0, l0⟩ := y0
  simp only
  have HY := Lib.hid hY
  have H0 := Lib.hid h0
  have HG := Lib.hid hG
  have hYl := hY.2.2
  have Q0 := Lib.hid (Blk.new w 29 (manA rm A0 l0.length c0))
  have HB0 := Lib.hid (show Below w.heap.size w (w.alloc (.cells #[.string ⟨rm.1.toArray⟩, .int .i64 rm.2.1, .int .i64 rm.2.2.1, .int .i64 rm.2.2.2, .slice A0 l0.length c0] 29)) from (Below.refl _ _).alloc (Nat.le_refl _) _)
  have cC0 := fun W (hW : Below w.heap.size w W) => selCheck_any A c Y W (HY.out.step hW) (HG.out.keep hW)
  have cM0 := fun W (hW : Below w.heap.size w W) => Check_any rm A0 c0 l0 W ((H0.out.1.below hW).more hW.size) (by have := H0.out.2.1; simp only at this; omega) (fun x hx => by have := (H0.out.2.2 x hx).1; unfold maxLen; omega) (HG.out.keep hW)
  obtain ⟨r, hr⟩ : ∃ r, r = buildP (regW Y) rm l0 := ⟨_, rfl⟩
  rw [← hr]
  unfold buildP at hr
  have hnd := fun h => (checkR_ok (R := regW Y) h).2
  generalize checkR (regW Y) = e1 at cC0 hr hnd
  generalize mcheck rm l0 = e2 at cM0 hr
  have cC := Lib.hid cC0
  have cM := Lib.hid cM0
  have HR := Lib.hid hr
  clear hY h0 hG cC0 cM0 hr
  generalize hQ : RetB w r = Q
  by_cases he1 : e1 = 0
  · subst he1
    have HND := Lib.hid (show (Y.map (·.1)).Nodup by have := hnd rfl; unfold regW at this; rw [List.map_map] at this; exact this)
    have HR1 := Lib.hid (HR.out.trans (if_pos rfl))
    clear hnd HR
    by_cases he2 : e2 = 0
    · subst he2
      have HR2 := Lib.hid (HR1.out.trans (if_pos rfl))
      clear HR1
      go_enter Tryd.func10, Tryd.ntmps10
      go_wp2_with fail
      refine (cC.out _ HB0.out).mono ?_
      rintro e w1 ⟨rfl, hb1⟩
      have HB1 := Lib.hid (HB0.out.trans (hb1.mono HB0.out.size))
      have Q1 := Lib.hid (Q0.out.keep hb1)
      obtain ⟨y0, y1, y2, y3, y4⟩ := manC Q1.out
      clear hb1 cC
      go_wp2_with fail
      refine (cM.out _ HB1.out).mono ?_
      rintro e w2 ⟨rfl, hb2⟩
      have HB2 := Lib.hid (HB1.out.trans (hb2.mono HB1.out.size))
      have Q2 := Lib.hid (Q1.out.keep hb2)
      clear hb2 cM y0 y1 y2 y3 y4
      obtain ⟨z0, z1, z2, z3, z4⟩ := manC Q2.out
      have hB2 := HB2.out
      have cI := Lib.hid (fun W (hW : Below w.heap.size w W) => selIndex_any A c Y W (HY.out.step hW) HND.out)
      have cL := Lib.hid (fun W b n (hW : Below w.heap.size w W) (hm : OMap KM W b n (findF Y)) => list_any b n Y (rm, A0, c0, l0) W hm (fun y hy => ((HY.out.2.1 y hy).keep hW).more hW.size) hYl ((H0.out.keep hW).more hW.size))
      go_upto_region 7 with fail
      go_region_held3 (fun W => Below w.heap.size w W ∧ W.cell? ⟨w.heap.size, 0, none⟩ = some (.string ⟨rm.1.toArray⟩) ∧ W.cell? ⟨w.heap.size, 1, none⟩ = some (.int .i64 rm.2.1) ∧ W.cell? ⟨w.heap.size, 2, none⟩ = some (.int .i64 rm.2.2.1) ∧ W.cell? ⟨w.heap.size, 3, none⟩ = some (.int .i64 rm.2.2.2) ∧ W.cell? ⟨w.heap.size, 4, none⟩ = some (.slice A0 l0.length c0))
        (first | (simp; done) | (go_split_ands; (repeat' apply And.intro) <;> (first | assumption | (apply cell_keep; assumption; assumption) | exact Below.refl _ _ | (apply below_step; assumption; assumption) | exact Below.drew (by assumption) | (apply below_stepD; assumption; assumption))))
        (first
          | (go_at_call 28; refine (cI.out _ (And.left (by assumption))).mono ?_; rintro e w3 ⟨rfl, hm3, hb3⟩)
          | (go_at_call 29; refine (cL.out _ _ _ (And.left (by assumption)) (by first | assumption | exact OMap.below (by assumption) (Below.refl _ _).drew)).mono ?_; rintro e w4 ⟨S, q, A4, c4, rfl, hSn, hSr, hq, hc4, hS4, hb4⟩))
      rename_i hHeld
      have HBf := Lib.hid (And.left hHeld)
      have HS4 := Lib.hid hS4
      have HLP := Lib.hid (listP_eq (root := rm) hSn hSr)
      have HKN := Lib.hid (show knownB (regW Y) l0 rm.1 = q by
        rw [Bool.eq_iff_iff, knownB_iff]
        exact hq.symm)
      clear hm3 hb3 hSn hSr hq hS4 hb4 hHeld cI cL
      cases q
      · have HR3 := Lib.hid (HR2.out.trans (if_neg (by rw [HKN.out]; simp)))
        go_wp2
        rw [← hQ]
        exact retB_nil HR3.out HBf.out
      · have HR3 := Lib.hid (HR2.out.trans (if_pos HKN.out))
        go_wp2
        rw [← hQ]
        exact retB_some HR3.out (by rw [← HLP.out, List.length_cons, msort_len]) hc4 (by rw [← HLP.out]; exact HS4.out) HBf.out
    · have he : (e2 != 0) = true := by simpa using he2
      have HR2 := Lib.hid (HR1.out.trans (if_neg he2))
      clear HR1 he2
      go_enter Tryd.func10, Tryd.ntmps10
      go_wp2_with fail
      refine (cC.out _ HB0.out).mono ?_
      rintro e w1 ⟨rfl, hb1⟩
      have HB1 := Lib.hid (HB0.out.trans (hb1.mono HB0.out.size))
      have Q1 := Lib.hid (Q0.out.keep hb1)
      obtain ⟨y0, y1, y2, y3, y4⟩ := manC Q1.out
      clear hb1 cC
      go_wp2_with fail
      refine (cM.out _ HB1.out).mono ?_
      rintro e w2 ⟨rfl, hb2⟩
      have HB2 := Lib.hid (HB1.out.trans (hb2.mono HB1.out.size))
      clear hb2 cM y0 y1 y2 y3 y4
      go_wp2
      rw [← hQ]
      exact retB_nil HR2.out HB2.out
  · have he : (e1 != 0) = true := by simpa using he1
    have HR1 := Lib.hid (HR.out.trans (if_neg he1))
    clear HR he1 hnd
    go_enter Tryd.func10, Tryd.ntmps10
    go_wp2_with fail
    refine (cC.out _ HB0.out).mono ?_
    rintro e w1 ⟨rfl, hb1⟩
    have HB1 := Lib.hid (HB0.out.trans (hb1.mono HB0.out.size))
    clear hb1 cC
    go_wp2
    rw [← hQ]
    exact retB_nil HR1.out HB1.out
end Go.Proofs.YtfiilbdkhelhgaaDoor
